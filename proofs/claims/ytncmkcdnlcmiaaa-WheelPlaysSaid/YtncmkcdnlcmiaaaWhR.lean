/- WheelPlays: the reference's calls, beside a wheel. -/
import Derived.Test.YtncmkcdnlcmiaaaPw
import Derived.Test.YtncmkcdnlcmiaaaWhG
import Derived.Test.YtncmkcdnlcmiaaaOp
namespace Go.Proofs.Ytncmkcdnlcmiaaa.Wh
open Go.RowKit Mb Go.Proofs.Ytncmkcdnlcmiaaa.Op Go.Proofs.YtncmkcdnlcmiaaaW.PrintWords Go.Proofs.YtncmkcdnlcmiaaaW.PrintLast Go.Proofs.YtncmkcdnlcmiaaaW.PrintMore
set_option linter.unusedVariables false
set_option linter.unusedSimpArgs false

def own2 (v0 v1 : Value) (k : Nat) : Prop := v0.ownBlock = some k ∨ v1.ownBlock = some k
structure Rows (B : Nat) (W : World) (v0 v1 : Value) (L : List (Int × Int)) : Prop where
  r0 : W.ownsRow B 3 1 v0 L.length (nums .i64 (ids L))
  r1 : W.ownsRow B 3 1 v1 L.length (nums .i64 (lefts L))
  ne : ∀ k, v0.ownBlock = some k → v1.ownBlock ≠ some k
structure RefDone (w W W' : World) (v0 v1 v0' v1' : Value) (L' : List (Int × Int)) : Prop where
  rows : Rows w.heap.size W' v0' v1' L'
  own : ∀ k, own2 v0' v1' k → own2 v0 v1 k ∨ W.heap.size ≤ k
  below : Below w.heap.size w W'
  kept : Kept W W' (own2 v0 v1)

theorem row_R {W : World} {B : Nat} {v : Value} {n : Nat} {xs : List Int} (h : W.ownsRow B 3 1 v n (nums .i64 xs)) (hn : xs.length = n) : Kd.R (Kd.int .i64) 3 W B (fun k => v.ownBlock = some k) v xs := by
  subst hn
  exact Kd.R_of_own h (fun k hk => hk)
theorem R_row {W : World} {B : Nat} {ok : Nat → Prop} {v : Value} {n : Nat} {xs : List Int} (h : Kd.R (Kd.int .i64) 3 W B ok v xs) (hn : xs.length = n) : W.ownsRow B 3 1 v n (nums .i64 xs) := by
  subst hn
  exact Kd.own_of_R h

theorem rset {w W : World} {v0 v1 : Value} {L L' : List (Int × Int)} {k : Nat} {x t er : Int} (hB : Below w.heap.size w W) (h : Rows w.heap.size W v0 v1 L) (hf : PWheelPlays.ploverref14_Set.f k (ids L) (lefts L) x t = some (ids L', lefts L', er)) :
    Calls Try.prog 16 #[.agg #[v0, v1], .int .i64 x, .int .i64 t] W fun e W' => ∃ v0' v1', e = .returned (.tuple #[.agg #[v0', v1'], .int .i64 er]) ∧ RefDone w W W' v0 v1 v0' v1' L' := by
  refine (PWheelPlays.ploverref14_Set.calls k (fun k => v0.ownBlock = some k) v0 (ids L) (fun k => v1.ownBlock = some k) v1 (lefts L) x t (ids L') (lefts L') er w W hB (row_R h.r0 (ids_len L)) h.ne (row_R h.r1 (lefts_len L)) (fun k h1 h2 => h.ne k h2 h1) hf).mono ?_
  rintro e W' ⟨a, b, rfl, q0, q1, hb, hk⟩
  refine ⟨a, b, rfl, ⟨⟨R_row q0 (ids_len L'), R_row q1 (lefts_len L'), fun k h1 h2 => (q0.1 k h1).2 h2.symm⟩, fun k hk => ?_, hb, hk⟩⟩
  rcases hk with hk | hk
  · exact (q0.1 k hk).1
  · exact (q1.1 k hk).1
theorem rcancel {w W : World} {v0 v1 : Value} {L L' : List (Int × Int)} {k : Nat} {x : Int} {r : Bool} (hB : Below w.heap.size w W) (h : Rows w.heap.size W v0 v1 L) (hf : PWheelPlays.ploverref14_Cancel.f k (ids L) (lefts L) x = some (ids L', lefts L', r)) :
    Calls Try.prog 17 #[.agg #[v0, v1], .int .i64 x] W fun e W' => ∃ v0' v1', e = .returned (.tuple #[.agg #[v0', v1'], .bool r]) ∧ RefDone w W W' v0 v1 v0' v1' L' := by
  refine (PWheelPlays.ploverref14_Cancel.calls k (fun k => v0.ownBlock = some k) v0 (ids L) (fun k => v1.ownBlock = some k) v1 (lefts L) x (ids L') (lefts L') r w W hB (row_R h.r0 (ids_len L)) h.ne (row_R h.r1 (lefts_len L)) (fun k h1 h2 => h.ne k h2 h1) hf).mono ?_
  rintro e W' ⟨a, b, rfl, q0, q1, hb, hk⟩
  refine ⟨a, b, rfl, ⟨⟨R_row q0 (ids_len L'), R_row q1 (lefts_len L'), fun k h1 h2 => (q0.1 k h1).2 h2.symm⟩, fun k hk => ?_, hb, hk⟩⟩
  rcases hk with hk | hk
  · exact (q0.1 k hk).1
  · exact (q1.1 k hk).1
theorem rleft {w W : World} {v0 v1 : Value} {L : List (Int × Int)} {k : Nat} {x r e1 : Int} (h : Rows w.heap.size W v0 v1 L) (hf : PWheelPlays.ploverref14_Left.f k (ids L) (lefts L) x = some (r, e1)) :
    Calls Try.prog 19 #[.agg #[v0, v1], .int .i64 x] W fun e W' => e = .returned (.tuple #[.int .i64 r, .int .i64 e1]) ∧ Below W.heap.size W W' := by
  obtain ⟨A0, c0, rfl⟩ := own_slice h.r0
  obtain ⟨A1, c1, rfl⟩ := own_slice h.r1
  have C0 : Kd.C (Kd.int .i64) W A0 (ids L).length (ids L) := by rw [ids_len]; exact Kd.C_of_reads (own_reads' h.r0)
  have C1 : Kd.C (Kd.int .i64) W A1 (lefts L).length (lefts L) := by rw [lefts_len]; exact Kd.C_of_reads (own_reads' h.r1)
  have := PWheelPlays.ploverref14_Left.calls k A0 c0 (ids L) A1 c1 (lefts L) x r e1 W C0 (by rw [ids_len]; exact own_le h.r0) C1 (by rw [lefts_len]; exact own_le h.r1) hf
  rw [ids_len, lefts_len] at this
  exact this
structure TickRef (w W W' : World) (v0 v1 : Value) (L' : List (Int × Int)) (o : List Int) (e : Ending) : Prop where
  ex : ∃ v0' v1' A2 c2, e = .returned (.tuple #[.agg #[v0', v1'], .slice A2 o.length c2]) ∧ RefDone w W W' v0 v1 v0' v1' L' ∧ W'.ownsRow W.heap.size 3 1 (.slice A2 o.length c2) o.length (nums .i64 o)
theorem rtick {w W : World} {v0 v1 : Value} {L L' : List (Int × Int)} {o : List Int} {k : Nat} (hB : Below w.heap.size w W) (h : Rows w.heap.size W v0 v1 L) (hf : PWheelPlays.ploverref14_Tick.f k (ids L) (lefts L) = some (ids L', lefts L', o)) :
    Calls Try.prog 20 #[.agg #[v0, v1]] W fun e W' => TickRef w W W' v0 v1 L' o e := by
  have hR := h
  obtain ⟨A0, c0, rfl⟩ := own_slice h.r0
  obtain ⟨A1, c1, rfl⟩ := own_slice h.r1
  have C0 : Kd.C (Kd.int .i64) W A0 (ids L).length (ids L) := by rw [ids_len]; exact Kd.C_of_reads (own_reads' h.r0)
  have C1 : Kd.C (Kd.int .i64) W A1 (lefts L).length (lefts L) := by rw [lefts_len]; exact Kd.C_of_reads (own_reads' h.r1)
  have := PWheelPlays.ploverref14_Tick.calls k A0 c0 (ids L) A1 c1 (lefts L) (ids L') (lefts L') o W C0 (by rw [ids_len]; exact own_le h.r0) C1 (by rw [lefts_len]; exact own_le h.r1) hf
  rw [ids_len, lefts_len] at this
  refine this.mono ?_
  rintro e W' ⟨a, b, s, rfl, q0, q1, q2, hb⟩
  have q2' := R_row q2 rfl
  obtain ⟨A2, c2, rfl⟩ := own_slice q2'
  have e0 := R_row q0 (ids_len L')
  have e1 := R_row q1 (lefts_len L')
  refine ⟨a, b, A2, c2, rfl, ⟨⟨own_less e0 hB.size, own_less e1 hB.size, fun k h1 h2 => (q0.1 k h1).1 h2.symm⟩, fun k hk => .inr ?_, below_then hB hB.size hb, Kept.of_below hb _⟩, q2'⟩
  rcases hk with hk | hk
  · exact own_base e0 k hk
  · exact own_base e1 k hk

/-- The loop's state: the wheel; the box of the reference's wheel; rows that are told (L). -/
structure St (w W : World) (g : Nat) (F : Nat → Prop) (p : Nat) (now : Int) (D : Int → Option Int) (n c : Nat) (u0 u1 v0 v1 : Value) (L : List (Int × Int)) : Prop where
  wheel : Whl W F p now D n c
  mine : Mine w W F
  box : W.heap[g]? = some (.cells #[u0, u1] 40 (0, 0))
  gw : w.heap.size ≤ g
  gF : ¬ F g
  rows : Rows w.heap.size W v0 v1 L
  apart : ∀ k, own2 v0 v1 k → ¬ F k ∧ k ≠ g
section
variable {w W W' : World} {g : Nat} {F F' : Nat → Prop} {p : Nat} {now now' : Int} {D D' : Int → Option Int} {n n' c c' : Nat} {u0 u1 v0 v1 v0' v1' : Value} {L L' : List (Int × Int)}
theorem Rows.lt {B : Nat} (h : Rows B W v0 v1 L) (k : Nat) (hk : own2 v0 v1 k) : k < W.heap.size := by
  rcases hk with hk | hk
  · exact own_lt h.r0 k hk
  · exact own_lt h.r1 k hk
theorem Rows.move {B : Nat} (h : Rows B W v0 v1 L) (hm : ∀ k, own2 v0 v1 k → W'.heap[k]? = W.heap[k]?) : Rows B W' v0 v1 L := ⟨own_move h.r0 (fun k hk => hm k (.inl hk)), own_move h.r1 (fun k hk => hm k (.inr hk)), h.ne⟩
theorem St.later (h : St w W g F p now D n c u0 u1 v0 v1 L) (hb : Below W.heap.size W W') : St w W' g F p now D n c u0 u1 v0 v1 L :=
  ⟨h.wheel.below hb, ⟨h.mine.young, below_then h.mine.below h.mine.below.size hb⟩, (hb.block g (blk_lt h.box)).trans h.box, h.gw, h.gF, h.rows.move (fun k hk => hb.block k (h.rows.lt k hk)), h.apart⟩
theorem St.ref (h : St w W g F p now D n c u0 u1 v0 v1 L) (hd : RefDone w W W' v0 v1 v0' v1' L') : St w W' g F p now D n c u0 u1 v0' v1' L' := by
  have hk := hd.kept.2
  refine ⟨h.wheel.move hd.kept.1 (fun k hf => hk k (h.wheel.lt k hf) (fun ho => (h.apart k ho).1 hf)), ⟨h.mine.young, hd.below⟩, (hk g (blk_lt h.box) (fun ho => (h.apart g ho).2 rfl)).trans h.box, h.gw, h.gF, hd.rows, fun k ho => ?_⟩
  rcases hd.own k ho with e | e
  · exact h.apart k e
  · exact ⟨fun hf => by have := h.wheel.lt k hf; omega, fun e2 => by have := blk_lt h.box; omega⟩
theorem St.turn (h : St w W g F p now D n c u0 u1 v0 v1 L) (hw : Whl W' F' p now' D' n' c') (hF : ∀ k, F' k → F k ∨ W.heap.size ≤ k) (ht : Turns F W W') : St w W' g F' p now' D' n' c' u0 u1 v0 v1 L := by
  refine ⟨hw, h.mine.set ht hF, (ht.block g (blk_lt h.box) h.gF).trans h.box, h.gw, fun hf => ?_, h.rows.move (fun k ho => ht.block k (h.rows.lt k ho) (h.apart k ho).1), fun k ho => ⟨fun hf => ?_, (h.apart k ho).2⟩⟩
  · rcases hF g hf with e | e
    · exact h.gF e
    · have := blk_lt h.box; omega
  · rcases hF k hf with e | e
    · exact (h.apart k ho).1 e
    · have := h.rows.lt k ho; omega
theorem St.store (h : St w W g F p now D n c u0 u1 v0 v1 L) : St w ((W.setCell ⟨g, 0, none⟩ v0).setCell ⟨g, 1, none⟩ v1) g F p now D n c v0 v1 v0 v1 L := by
  have hne : ∀ k, k ≠ g → ((W.setCell ⟨g, 0, none⟩ v0).setCell ⟨g, 1, none⟩ v1).heap[k]? = W.heap[k]? := fun k hk => (Below.heap_setCell _ _ _ _ (fun e => hk (by rw [e]))).trans (Below.heap_setCell _ _ _ _ (fun e => hk (by rw [e])))
  refine ⟨h.wheel.move (by simp [World.setCell]) (fun k hf => hne k (fun e => h.gF (by rw [← e]; exact hf))), ⟨h.mine.young, below_set (below_set h.mine.below h.gw) h.gw⟩, ?_, h.gw, h.gF, h.rows.move (fun k ho => hne k (h.apart k ho).2), h.apart⟩
  simpa using blk_set (blk_set h.box 0 v0) 1 v1
end

theorem at_rec3 {W : World} {A : Option Addr} {l : List (Int × Int × Int)} (h : ReadsRow I3 3 W A l.length l) (k : Nat) (hk : k < l.length) : ∃ ad, A = some ad ∧ W.cell? (ad.add (k * 3)) = some (.int .i64 l[k].1) ∧ W.cell? ⟨(ad.add (k * 3)).block, (ad.add (k * 3)).off + 1, none⟩ = some (.int .i64 l[k].2.1) ∧ W.cell? ⟨(ad.add (k * 3)).block, (ad.add (k * 3)).off + 2, none⟩ = some (.int .i64 l[k].2.2) ∧ (Lit.int .i64 l[k].2.1).wf = true := by
  obtain ⟨ad, e, hc⟩ := h.2.2 (by omega)
  obtain ⟨c, _, ⟨rfl, h1, h2, h3⟩, hx⟩ := hc k _ (List.getElem?_eq_getElem hk)
  exact ⟨ad, e, hx 0 _ rfl, by have := hx 1 _ rfl; rw [← Addr.add_add] at this; exact this, by have := hx 2 _ rfl; rw [← Addr.add_add] at this; exact this, h2⟩

end Go.Proofs.Ytncmkcdnlcmiaaa.Wh
