/- Several texts in one: Bu, Bv, Bo, Bp, Bz. -/
import Derived.Test.YtealiaafdkhonaaSe1
import Derived.WalkSpells
import Derived.Test.YtealiaafdkhonaaSk
namespace Go.Proofs.Ytealiaafdkhonaa.Vp
open Go.RowKit Go.Sort Mb Base Sq Go.Proofs.YtealiaafdkhonaaW.PrintWords Go.Proofs.YtealiaafdkhonaaW.PrintLast Go.Proofs.YtealiaafdkhonaaW.PrintMore
set_option linter.unusedVariables false
set_option linter.unusedSimpArgs false

/-- Points that are read: a slice (from ad on) of a row, their vectors of n numbers. -/
structure PRead (W : World) (A : Option Addr) (n : Nat) (Q : List E) : Prop where
  cells : 0 < Q.length → ∃ g o rest, A = some ⟨g, o, none⟩ ∧ ∃ pre : List Value, pre.length = o ∧ W.heap[g]? = some (.cells (pre ++ (rowE Q ++ rest)).toArray 37 (0, 0))
  ok : ∀ q ∈ Q, OkE W n q
theorem PRead.below {W W' : World} {A : Option Addr} {n : Nat} {Q : List E} (h : PRead W A n Q) (hb : Below W.heap.size W W') : PRead W' A n Q := by
  have ht : Turns (fun _ => False) W W' := Turns.of_below hb
  refine ⟨fun hn => ?_, fun q hq => (h.ok q hq).turns ht (fun _ hf => hf.elim)⟩
  obtain ⟨g, o, rest, e, pre, hp, hg⟩ := h.cells hn
  exact ⟨g, o, rest, e, pre, hp, blk_below hg hb⟩
theorem PRead.at_ {W : World} {A : Option Addr} {n : Nat} {Q : List E} (h : PRead W A n Q) (j : Nat) (hj : j < Q.length) : ∃ g o, A = some ⟨g, o, none⟩ ∧ W.cell? ⟨g, o + j * 2, none⟩ = some (.int .i64 (Q.getD j dE).1) ∧ W.cell? ⟨g, o + j * 2 + 1, none⟩ = some (Q.getD j dE).2.2 := by
  obtain ⟨g, o, rest, e, pre, hp, hg⟩ := h.cells (by omega)
  have h1 := rowE_at Q j hj
  have hl := rowE_len Q
  refine ⟨g, o, e, (blk_cell hg _).trans ?_, (blk_cell hg _).trans ?_⟩
  · rw [List.getElem?_toArray, List.getElem?_append_right (by omega), List.getElem?_append_left (by omega), show o + j * 2 - pre.length = j * 2 by omega]; exact h1.1
  · rw [List.getElem?_toArray, List.getElem?_append_right (by omega), List.getElem?_append_left (by omega), show o + j * 2 + 1 - pre.length = j * 2 + 1 by omega]; exact h1.2
/-- From a place on. -/
theorem PRead.drop {W : World} {g o n : Nat} {Q : List E} (h : PRead W (some ⟨g, o, none⟩) n Q) (k : Nat) (hk : k ≤ Q.length) : PRead W (some ⟨g, o + k * 2, none⟩) n (Q.drop k) := by
  refine ⟨fun hn => ?_, fun q hq => h.ok q (List.mem_of_mem_drop hq)⟩
  rw [List.length_drop] at hn
  obtain ⟨g', o', rest, e, pre, hp, hg⟩ := h.cells (by omega)
  injection e with e
  injection e with e1 e2
  subst e1; subst e2
  refine ⟨g, o + k * 2, rest, rfl, pre ++ rowE (Q.take k), by rw [List.length_append, rowE_len, List.length_take]; omega, ?_⟩
  rw [hg]
  have : rowE Q = rowE (Q.take k) ++ rowE (Q.drop k) := by
    unfold rowE
    rw [← List.flatMap_append, List.take_append_drop]
  rw [this]
  simp
theorem PRead.take {W : World} {A : Option Addr} {n : Nat} {Q : List E} (h : PRead W A n Q) (k : Nat) : PRead W A n (Q.take k) := by
  refine ⟨fun hn => ?_, fun q hq => h.ok q (List.mem_of_mem_take hq)⟩
  rw [List.length_take] at hn
  obtain ⟨g, o, rest, e, pre, hp, hg⟩ := h.cells (by omega)
  refine ⟨g, o, rowE (Q.drop k) ++ rest, e, pre, hp, ?_⟩
  rw [hg]
  have : rowE Q = rowE (Q.take k) ++ rowE (Q.drop k) := by
    unfold rowE
    rw [← List.flatMap_append, List.take_append_drop]
  rw [this]
  simp
theorem PRead.of_row {W : World} {g n : Nat} {Q : List E} (h : RowIs W g Q) (hok : ∀ q ∈ Q, OkE W n q) : PRead W (some ⟨g, 0, none⟩) n Q := by
  obtain ⟨rest, h⟩ := h
  exact ⟨fun _ => ⟨g, 0, rest, rfl, [], rfl, by simpa using h⟩, hok⟩

theorem rowE_one (Q : List E) (W : World) (n : Nat) (h : ∀ q ∈ Q, OkE W n q) : ∀ u ∈ rowE Q, u.oneCell' = true := by
  intro u hu
  obtain ⟨q, hq, hu⟩ := List.mem_flatMap.1 hu
  obtain ⟨A, m, c, e⟩ := slice_val (h q hq).1
  have hu' : u = .int .i64 q.1 ∨ u = q.2.2 := by simpa [encE] using hu
  rcases hu' with h1 | h1
  · subst h1; rfl
  · rw [h1, e]; rfl
theorem info37 : (Try.prog.info? 37).map (fun i => (i.zero, i.size, i.bytes)) = some (some (.agg #[.int .i64 0, .slice none 0 0]), 2, 32) := by kernel_rfl
/-- A copy of points: a row of its own, that may be none. -/
structure ClonedP (W : World) (n : Nat) (Q : List E) (e : Ending) (w' : World) : Prop where
  ex : ∃ A c, e = .returned (.slice A Q.length c) ∧ Q.length ≤ c ∧ (∀ q ∈ Q, OkE w' n q) ∧ ∃ g, A = some ⟨g, 0, none⟩ ∧ W.heap.size ≤ g ∧ RowIs w' g Q
  below : Below W.heap.size W w'
set_option maxHeartbeats 1000000 in
theorem clonep_calls (ad : Addr) (c n : Nat) (Q : List E) (W : World) (h : PRead W (some ad) n Q) (h2 : Q.length ≤ 1000000) :
    Calls Try.prog 52 #[.slice (some ad) Q.length c] W (ClonedP W n Q) := by
  obtain ⟨i0, hi, hz0, hz1, hz2⟩ := info_parts info37
  have HI := Aside0.mk hi
  have HZ0 := Aside0.mk hz0
  have HZ1 := Aside0.mk hz1
  have HZ2 := Aside0.mk hz2
  have hb1 := below_alloc (Below.refl W.heap.size W) (.cells #[] 37)
  have HP := Aside0.mk (h.below hb1)
  have HC : Aside0 (∀ j u, (rowE Q)[j]? = some u → (W.alloc (.cells #[] 37)).cell? (ad.add j) = some u) := ⟨fun j u hu => by
    have hj := (List.getElem?_eq_some_iff.1 hu).1
    have hl := rowE_len Q
    obtain ⟨g, o, rest, e, pre, hp, hg⟩ := HP.out.cells (by omega)
    have e' := Option.some.inj e
    clear e
    subst e'
    have e2 : (⟨g, o, none⟩ : Addr).add j = ⟨g, o + j, none⟩ := by unfold Addr.add; split <;> simp_all
    rw [e2]
    refine (blk_cell hg _).trans ?_
    rw [List.getElem?_toArray, List.getElem?_append_right (by omega), List.getElem?_append_left (by omega), show o + j - pre.length = j by omega]
    exact hu⟩
  have HO : Aside0 ((W.alloc (.cells #[] 37)).ownsRow W.heap.size 37 2 (.slice (some ⟨W.heap.size, 0, none⟩) 0 0) 0 []) := ⟨⟨rfl, .inr ⟨W.heap.size, 0, #[], rfl, Nat.le_refl _, blk_new W _, Nat.le_refl _, by unfold maxLen; omega, rfl, rfl⟩⟩⟩
  have hnil : ∀ w, (binOp .eql 22 (.slice (some ad) Q.length c) (.slice none 0 0)).run Try.prog w = .ok (.bool false) w := fun w => by first | exact Lib.run_eql_slice_nil (P := Try.prog) w Try.underlying22 _ _ _ | exact Lib.run_eql_slice_nil w Try.underlying22 | kernel_rfl
  have HONE := Aside0.mk (rowE_one Q W n h.ok)
  have HL := Aside0.mk (rowE_len Q)
  obtain ⟨m, hn⟩ : ∃ m, Q.length = m := ⟨_, rfl⟩
  have HN := Aside0.mk hn
  rw [hn] at hnil h2 HL
  rw [hn]
  clear h hi hz0 hz1 hz2 hn hb1
  go_enter Try.func52, Try.ntmps52
  go_wp2_with (at_builtin; refine wpList_append_mine rfl _ _ 22 rfl W.heap.size 37 i0 (.agg #[.int .i64 0, .slice none 0 0]) 2 32 Try.underlying22 HI.out HZ0.out HZ1.out HZ2.out rfl (by decide) (.slice (some ⟨W.heap.size, 0, none⟩) 0 0) 0 [] rfl HO.out ad m c (rowE Q) rfl HL.out HC.out HONE.out m (by omega) (by unfold maxLen; omega) (by omega) (by simp) ?_; intro A' c' w1 hown hgrow hloc)
  go_ret
  have hle : m ≤ c' := own_le hown
  have hform : ∃ g cap cur, (Value.slice A' m c') = .slice (some ⟨g, 0, none⟩) m cap ∧ W.heap.size ≤ g ∧ w1.heap[g]? = some (.cells cur 37 (0, 0)) ∧ cur.toList.take (m * 2) = rowE Q := by
    rcases hown.2 with ⟨e1, _⟩ | ⟨g, cap, cur, e1, hB, hg, _, _, _, htk⟩
    · rw [e1] at hloc; rcases hloc with h | h <;> simp [Value.ownBlock] at h
    · exact ⟨g, cap, cur, e1, hB, hg, by simpa using htk⟩
  obtain ⟨g, cap, cur, e1, hB, hg, htk⟩ := hform
  injection e1 with e1 _ e3
  subst e1; subst e3
  have hQ := HN.out
  subst hQ
  refine ⟨⟨_, c', rfl, hle, fun q hq => ?_, g, rfl, hB, ⟨cur.toList.drop (Q.length * 2), ?_⟩⟩, (below_alloc (Below.refl W.heap.size W) (.cells #[] 37)).grown hgrow (by simp) (fun k hk => by cases hk; exact Nat.le_refl _)⟩
  · refine (HP.out.ok q hq).turns (Turns.of_grown hgrow) (fun j hj cs t ht => ?_)
    cases hj
    rw [blk_new] at ht
    injection ht with ht
    injection ht with _ ht
    exact ht.symm
  · rw [hg, ← htk, List.take_append_drop]
end Go.Proofs.Ytealiaafdkhonaa.Vp

namespace Go.Proofs.Ytealiaafdkhonaa.Vp
open Go.RowKit Go.Sort Mb Base Sq Go.Proofs.YtealiaafdkhonaaW.PrintWords Go.Proofs.YtealiaafdkhonaaW.PrintLast Go.Proofs.YtealiaafdkhonaaW.PrintMore
set_option linter.unusedVariables false
set_option linter.unusedSimpArgs false
noncomputable def bu8.T : Bool × List (List Nat × List Nat) := rtab .any (opsOf Try.f37 8)
def bu8.B : List Nat := [0, 0, 2, 6, 14, 30, 0, 0, 192, 448, 960, 2046, 4095, 8191, 16383]
theorem bu8.tab : rtab .any (opsOf Try.f37 8) = bu8.T := rfl
theorem bu8.bits : waitsOk bu8.T.2 bu8.B = true := by kernel_rfl
noncomputable def bu9.T : Bool × List (List Nat × List Nat) := rtab .any (opsOf Try.f37 9)
def bu9.B : List Nat := [0, 0, 0, 0, 12, 28, 0, 0, 192, 508, 1021, 2045, 4093, 8191, 16383, 32767]
theorem bu9.tab : rtab .any (opsOf Try.f37 9) = bu9.T := rfl
theorem bu9.bits : waitsOk bu9.T.2 bu9.B = true := by kernel_rfl
/-- A tree's nodes, all from the block lo on. -/
def NodeLo (W : World) (lo b : Nat) : VT → Value → Prop
  | .nil, p => p = .pointer none
  | .node id v r i o, p => ∃ g val pi po, p = .pointer (some ⟨g, 0, none⟩) ∧ lo ≤ g ∧ g < b ∧ W.heap[g]? = some (.cells #[.int .i64 id, val, .int .i64 r, pi, po] 104 (0, 0)) ∧ VecAt W b val v ∧ NodeLo W lo b i pi ∧ NodeLo W lo b o po ∧ (pi = po → i = .nil ∧ o = .nil)
theorem NodeLo.at_ {W : World} {lo b : Nat} : ∀ {T : VT} {p : Value}, NodeLo W lo b T p → NodeAt W b T p
  | .nil, _, h => h
  | .node id v r i o, _, h => by
    obtain ⟨g, val, pi, po, e, _, hg, hb, hv, hi, ho, hne⟩ := h
    exact ⟨g, val, pi, po, e, hg, hb, hv, NodeLo.at_ hi, NodeLo.at_ ho, hne⟩
theorem NodeLo.keep {W W' : World} {lo b : Nat} (hk : ∀ j, j < b → (lo ≤ j ∧ ∃ cs, W.heap[j]? = some (.cells cs 104 (0, 0))) ∨ (∃ cs, W.heap[j]? = some (.cells cs 3 (0, 0))) → W'.heap[j]? = W.heap[j]?) : ∀ {T : VT} {p : Value}, NodeLo W lo b T p → NodeLo W' lo b T p
  | .nil, _, h => h
  | .node id v r i o, _, h => by
    obtain ⟨g, val, pi, po, e, hl, hg, hb, hv, hi, ho, hne⟩ := h
    refine ⟨g, val, pi, po, e, hl, hg, (hk g hg (.inl ⟨hl, _, hb⟩)).trans hb, ?_, NodeLo.keep hk hi, NodeLo.keep hk ho, hne⟩
    obtain ⟨j, c, cur, e1, hj, hgj, ht⟩ := hv
    exact ⟨j, c, cur, e1, hj, (hk j hj (.inr ⟨_, hgj⟩)).trans hgj, ht⟩
theorem NodeLo.more {W : World} {lo lo' b b' : Nat} (hl : lo' ≤ lo) (hb : b ≤ b') : ∀ {T : VT} {p : Value}, NodeLo W lo b T p → NodeLo W lo' b' T p
  | .nil, _, h => h
  | .node id v r i o, _, h => by
    obtain ⟨g, val, pi, po, e, h1, hg, hc, hv, hi, ho, hne⟩ := h
    exact ⟨g, val, pi, po, e, by omega, by omega, hc, hv.more hb, NodeLo.more hl hb hi, NodeLo.more hl hb ho, hne⟩
theorem NodeLo.below {W W' : World} {lo b : Nat} {T : VT} {p : Value} (h : NodeLo W lo b T p) (hbw : Below W.heap.size W W') (hb : b ≤ W.heap.size) : NodeLo W' lo b T p := h.keep (fun j hj _ => hbw.block j (by omega))
theorem NodeLo.set {W : World} {lo b ng : Nat} {T : VT} {p : Value} (h : NodeLo W lo b T p) (hlt : ng < lo) {cs : Array Value} (hn : W.heap[ng]? = some (.cells cs 104 (0, 0))) (o : Nat) (u : Value) : NodeLo (W.setCell ⟨ng, o, none⟩ u) lo b T p :=
  h.keep (fun j hj hx => Below.heap_setCell _ _ _ _ (fun e => by
    have e' : j = ng := e
    subst e'
    rcases hx with ⟨h1, _⟩ | ⟨cs', h1⟩
    · omega
    · rw [hn] at h1; injection h1 with h1; injection h1 with _ h1; exact absurd h1 (by decide)))
theorem node_lo_ptr {W : World} {lo b : Nat} {T : VT} {p : Value} (h : NodeLo W lo b T p) : ∃ q, p = .pointer q := by
  cases T with
  | nil => exact ⟨_, h⟩
  | node id v r i o => obtain ⟨g, val, pi, po, e, _⟩ := h; exact ⟨_, e⟩
theorem node_lo_ne {W W' : World} {lo lo' b b' : Nat} {T T' : VT} {p p' : Value} (h : NodeLo W lo b T p) (h' : NodeLo W' lo' b' T' p') (hb : b ≤ lo') : p = p' → T = .nil ∧ T' = .nil := by
  intro e
  cases T with
  | nil =>
    have h1 : p = .pointer none := h
    cases T' with
    | nil => exact ⟨rfl, rfl⟩
    | node id v r i o => obtain ⟨g, val, pi, po, e2, _⟩ := h'; rw [h1, e2] at e; injection e with e; cases e
  | node id v r i o =>
    obtain ⟨g, val, pi, po, e1, _, hg, _⟩ := h
    cases T' with
    | nil => have h2 : p' = .pointer none := h'; rw [e1, h2] at e; injection e with e; cases e
    | node id v r i o =>
      obtain ⟨g', val', pi', po', e2, hl, _⟩ := h'
      rw [e1, e2] at e
      injection e with e; injection e with e; injection e with e
      omega
theorem belowB_turns {F : Nat → Prop} {B : Nat} {a b c : World} (h : Below B a b) (k : Turns F b c) (hF : ∀ j, F j → B ≤ j) (hB : B ≤ b.heap.size) : Below B a c :=
  ⟨k.os.trans h.os, k.tape.trans h.tape, k.output.trans h.output, Nat.le_trans h.size k.size, fun j hj => (k.block j (by omega) (fun e => by have := hF j e; omega)).trans (h.block j hj)⟩
def pt (q : E) : Int × List Int := (q.1, q.2.1)
structure BuildDone (W : World) (n : Nat) (Q : List E) (e : Ending) (w' : World) : Prop where
  ex : ∃ T p, e = .returned p ∧ NodeLo w' W.heap.size w'.heap.size T p ∧ (VOK n T ∧ Ball T ∧ T.pts.Perm (Q.map pt))
  below : Below W.heap.size W w'
theorem build_none (W : World) (n : Nat) (A : Option Addr) (c : Nat) : Calls Try.prog 37 #[.slice A 0 c] W (BuildDone W n []) := by
  go_enter Try.func37, Try.ntmps37
  go_wp2_with fail
  go_ret
  exact ⟨⟨.nil, _, rfl, rfl, trivial, trivial, List.Perm.refl _⟩, Below.refl _ _⟩
set_option maxRecDepth 100000 in
set_option maxHeartbeats 8000000 in
theorem build_more (W : World) (n : Nat) (A : Option Addr) (c : Nat) (q0 : E) (Q : List E) (h : PRead W A n (q0 :: Q)) (hc : Q.length + 1 ≤ c) (hN : Q.length ≤ 1000) (hN1 : 1 ≤ Q.length) (hn1 : 1 ≤ n) (hn2 : n ≤ 16)
    (IH : ∀ (W : World) (A : Option Addr) (c : Nat) (Q' : List E), Q'.length ≤ Q.length → PRead W A n Q' → Q'.length ≤ c → Calls Try.prog 37 #[.slice A Q'.length c] W (BuildDone W n Q')) :
    Calls Try.prog 37 #[.slice A (Q.length + 1) c] W (BuildDone W n (q0 :: Q)) := by
  obtain ⟨gA, oA, hA, c0, c1⟩ := h.at_ 0 (by simp)
  subst hA
  obtain ⟨hv0, hi0, hl0, hw0⟩ := h.ok q0 (by simp)
  obtain ⟨AN, cN, ev0, hCN, _⟩ := hv0.form (by have := (isV_len hi0).2; omega)
  have hdr := h.drop 1 (by simp)
  rw [show oA + 1 * 2 = oA + 2 by omega, List.drop_succ_cons, List.drop_zero] at hdr
  have HIH := Aside0.mk IH
  have HDR := Aside0.mk hdr
  have HV0 := Aside0.mk hv0
  have HI0 := Aside0.mk hi0
  have HOKQ := Aside0.mk (fun q hq => h.ok q (List.mem_cons_of_mem _ hq))
  obtain ⟨id0, hid⟩ : ∃ id0, q0.1 = id0 := ⟨_, rfl⟩
  obtain ⟨nv, hnv⟩ : ∃ nv, q0.2.1 = nv := ⟨_, rfl⟩
  have HLN : Aside0 (nv.length = n) := ⟨by rw [← hnv]; exact hl0⟩
  have HV0' : Aside0 (VecAt W W.heap.size (.slice AN nv.length cN) nv) := ⟨by rw [← hnv, ← ev0]; exact hv0⟩
  have HI0' : Aside0 (isV nv = true) := ⟨by rw [← hnv]; exact hi0⟩
  have HW0' : Aside0 ((Lit.int .i64 id0).wf = true) := ⟨by rw [← hid]; exact hw0⟩
  have HQ0 := Aside0.mk (show q0 = (id0, nv, .slice AN nv.length cN) from Prod.ext hid (Prod.ext hnv (by rw [← hnv]; exact ev0)))
  obtain ⟨ml, hml⟩ : ∃ ml, Q.length = ml := ⟨_, rfl⟩
  have HML := Aside0.mk hml
  obtain ⟨nn, hnn⟩ : ∃ nn, nv.length = nn := ⟨_, rfl⟩
  have HNN := Aside0.mk hnn
  have d0 : W.cell? ⟨gA, oA, none⟩ = some (.int .i64 id0) := by simpa [hid] using c0
  have d1 : W.cell? ⟨gA, oA + 1, none⟩ = some (.slice AN nn cN) := by simpa [ev0, hnv, hnn] using c1
  rw [hml] at hc hN hN1
  rw [hml]
  have hc0 : (0 : Int) < (ml : Int) + 1 := by omega
  have hc1 : ¬ ((ml : Int) + 1 = 0) := by omega
  have hc2 : (((ml + 1 : Nat) : Int) == 0) = false := by rw [beq_eq_false_iff_ne]; omega
  clear c0 c1 h hv0 hi0 hw0 ev0 hCN hdr IH hid hnv hml hnn hl0
  obtain ⟨ng, hng⟩ : ∃ ng, W.heap.size = ng := ⟨_, rfl⟩
  have HNGE := Aside0.mk hng
  obtain ⟨w1, hw1⟩ : ∃ w1, (W.alloc (.cells #[.int .i64 id0, .slice AN nn cN, .int .i64 0, .pointer none, .pointer none] 104)).alloc (.cells #[.pointer (some ⟨ng, 0, none⟩)] 65) = w1 := ⟨_, rfl⟩
  have HBW1 : Aside0 (Below ng W w1) := ⟨by rw [← hw1, ← hng]; exact below_alloc (below_alloc (Below.refl _ _) _) _⟩
  have HND1 : Aside0 (w1.heap[ng]? = some (.cells #[.int .i64 id0, .slice AN nn cN, .int .i64 0, .pointer none, .pointer none] 104 (0, 0))) := ⟨by rw [← hw1, ← hng]; exact blk_alloc (blk_new _ _) _⟩
  have HBX1 : Aside0 (w1.heap[ng + 1]? = some (.cells #[.pointer (some ⟨ng, 0, none⟩)] 65 (0, 0))) := ⟨by
    rw [← hw1, ← hng]
    have := blk_new (W.alloc (.cells #[.int .i64 id0, .slice AN nn cN, .int .i64 0, .pointer none, .pointer none] 104)) (.cells #[.pointer (some ⟨W.heap.size, 0, none⟩)] 65)
    simpa using this⟩
  have HSZ1 : Aside0 (w1.heap.size = ng + 2) := ⟨by rw [← hw1, ← hng]; simp⟩
  have HBW0 : Aside0 (RowKit.Below W.heap.size W w1) := ⟨by rw [hng]; exact HBW1.out⟩
  have HCL : Aside0 (∀ (ad : Addr) (c' : Nat), (c = 1 ∨ ad = ⟨gA, oA + 2, none⟩) → Calls Try.prog 52 #[.slice (some ad) ml c'] w1 (ClonedP w1 n Q)) := ⟨fun ad c' hor => by
    have h1 := clonep_calls ad c' n Q w1 (by
      rcases hor with h0 | h0
      · have : Q = [] := List.eq_nil_of_length_eq_zero (by rw [HML.out]; omega)
        subst this
        exact ⟨fun h => by simp at h, fun q hq => by cases hq⟩
      · subst h0; exact HDR.out.below HBW0.out) (by rw [HML.out]; omega)
    rw [HML.out] at h1
    exact h1⟩
  have HW1E := Aside0.mk hw1
  have hcc : (1 : Int) ≤ (c : Int) := by omega
  clear hw1
  have h1 : ¬ c = 1 := by omega
  have h1' : ¬ (c : Int) = 1 := by omega
  go_enter Try.func37, Try.ntmps37
  go_upto_region 4 with (fail)
  rw [HW1E.out]
  clear hng d0 d1
  go_cut [4] (fun v4 w2 => ∃ (g c4 : Nat), v4 = .slice (some ⟨g, 0, none⟩) ml c4 ∧ ml ≤ c4 ∧ ng + 2 ≤ g ∧ Aside0 (RowIs w2 g Q) ∧ Aside0 (∀ q ∈ Q, OkE w2 n q) ∧ Aside0 (Below w1.heap.size w1 w2))
  case first =>
    go_wp2_with (go_at_call 52; (with_reducible refine (HCL.out _ _ ?_).mono ?_); (first | exact .inl rfl | exact .inr rfl); rintro e w9 ⟨⟨A9, c9, rfl, hle9, hok9, g9, rfl, hg9, hr9⟩, hb9⟩; have HO9 := Aside0.mk hok9; have HR9 := Aside0.mk hr9; have HB9 := Aside0.mk hb9; clear hok9 hr9 hb9)
    go_meet
    exact ⟨g9, c9, by rw [HML.out], by rw [← HML.out]; exact hle9, by rw [← HSZ1.out]; exact hg9, HR9, HO9, HB9⟩
  case rest =>
    obtain ⟨g, c4, rfl, hc4, hg4, HRW, HOK, HBC⟩ := hcut
    have HND2 := Aside0.mk (blk_below HND1.out HBC.out)
    have HBX2 := Aside0.mk (blk_below HBX1.out HBC.out)
    have HVN2 : Aside0 (VecAt wc wc.heap.size (.slice AN nn cN) nv) := ⟨by
      have h1 := HV0'.out
      rw [HNN.out] at h1
      exact ((h1.keep (Kp.below HBW0.out)).more HBW0.out.size |>.keep (Kp.below HBC.out)).more HBC.out.size⟩
    have HSA2 : Aside0 (SortAt wc (ng + 1) ng nv g Q) := ⟨⟨HRW.out, fun q hq => by rw [HLN.out]; exact HOK.out q hq, ⟨HBX2.out, ⟨_, _, _, _, _, HND2.out, HVN2.out⟩, HI0'.out⟩⟩⟩
    have HC := Aside0.mk (sortStable_calls wc (ng + 1) ng nv g Q c4 HSA2.out ml HML.out (by omega))
    obtain ⟨ad, had⟩ : ∃ ad : Addr, ad = ⟨g, 0, none⟩ := ⟨_, rfl⟩
    have HAD := Aside0.mk had
    rw [← had] at HC
    rw [← had]
    clear had
    obtain ⟨mid, hmd⟩ : ∃ mid, ml / 2 = mid := ⟨_, rfl⟩
    have hmid : (ml : Int) / 2 = (mid : Int) := by omega
    have hml1 : mid < ml := by omega
    have hml2 : (mid : Int) < (ml : Int) := by omega
    have hml3 : (0 : Int) ≤ (mid : Int) := by omega
    clear hmd
    go_upto_region 8 with (go_at_call 53; refine HC.out.mono ?_; rintro e w4 ⟨rfl, ⟨Q4, hs4, hg4', hu4⟩, ht4⟩; have HS4 := Aside0.mk hs4; have HG4 := Aside0.mk hg4'; have HU4 := Aside0.mk hu4; have HT4 := Aside0.mk ht4; clear hs4 hg4' hu4 ht4)
    have hl4 : Q4.length = ml := HG4.out.len.trans HML.out
    have HL4 := Aside0.mk hl4
    have hmq : mid < Q4.length := by omega
    have hngg : ng ≠ g := by omega
    have hnbg : ng + 1 ≠ g := by omega
    have HND4 := Aside0.mk (HT4.out.keep HND2.out hngg)
    have HBX4 := Aside0.mk (HT4.out.keep HBX2.out hnbg)
    have hxm := HS4.out.mem mid hmq
    obtain ⟨XA, xC, hxv, hCX, _⟩ := hxm.1.form (by have := (isV_len hxm.2.1).2; omega)
    obtain ⟨id4, val4, r4, pi4, po4, hnd4, hvn4⟩ := HS4.out.ctx.node
    have hval4 : val4 = .slice AN nn cN := by
      have h1 := hnd4.symm.trans HND4.out
      simp at h1
      exact h1.2.1
    subst hval4
    obtain ⟨A5, c5, e5, hCN5, _⟩ := hvn4.form (by have := (isV_len HI0'.out).2; omega)
    have e5' : AN = A5 ∧ nn = nv.length ∧ cN = c5 := by injection e5 with x y z; exact ⟨x, y, z⟩
    obtain ⟨rfl, hjunk, rfl⟩ := e5'
    clear hjunk
    have HDM0 := Aside0.mk (dist_calls AN XA cN xC nv (Q4.getD mid dE).2.1 w4.drew (Kd.C_below hCN5 (below_drew1 (Below.refl _ _))) (Kd.C_below hCX (below_drew1 (Below.refl _ _))) HI0'.out hxm.2.1 hxm.2.2.1)
    obtain ⟨xn, hxn⟩ : ∃ xn, (Q4.getD mid dE).2.1.length = xn := ⟨_, rfl⟩
    have b2 := (HS4.out.drew.cell_ad HAD.out mid hmq).2
    rw [hxv, hxn] at b2
    rw [HNN.out, hxn] at HDM0
    have HKM : Aside0 (kf dE (keyE nv) Q4 mid = distN nv (Q4.getD mid dE).2.1) := ⟨rfl⟩
    obtain ⟨d, hd⟩ : ∃ d, distN nv (Q4.getD mid dE).2.1 = d := ⟨_, rfl⟩
    have HDR2 : Aside0 (0 ≤ d ∧ d ≤ 68719476720) := ⟨by rw [← hd]; exact dist_range HI0'.out hxm.2.1 hxm.2.2.1⟩
    rw [hd] at HDM0 HKM
    have HDM := HDM0
    have b0 : w4.drew.cell? ⟨ng + 1, 0, none⟩ = some (.pointer (some ⟨ng, 0, none⟩)) := (blk_cell (blk_drew HBX4.out) 0).trans rfl
    have b1 : w4.drew.cell? ⟨ng, 1, none⟩ = some (.slice AN nn cN) := (blk_cell (blk_drew HND4.out) 1).trans rfl
    have HND4d := Aside0.mk (blk_drew HND4.out)
    have HNF : Aside0 (∀ w9, Below w4.drew.heap.size w4.drew w9 → w9.frozen? ⟨ng, 2, none⟩ = false) := ⟨fun w9 hb => blk_frozen (blk_below HND4d.out hb) 2⟩
    have HNR : Aside0 (∀ w9, Below w4.drew.heap.size w4.drew w9 → w9.cell? ⟨ng, 2, none⟩ = some (.int .i64 0)) := ⟨fun w9 hb => (blk_cell (blk_below HND4d.out hb) 2).trans rfl⟩
    clear hxm hxv hCX hnd4 hvn4 e5 hCN5 hxn hd HDM0 HC
    refine start_ (n := 15) (S := fun w' => w'.cell? ⟨ng + 1, 0, none⟩ = some (.pointer (some ⟨ng, 0, none⟩)) ∧ w'.cell? ⟨ng, 1, none⟩ = some (.slice AN nn cN) ∧ w'.cell? ⟨(ad.add (mid * 2)).block, (ad.add (mid * 2)).off + 1, none⟩ = some (.slice XA xn xC)) (ds := [14]) #[false, false, false, false, false, false, false, false, false, false, false, false, false, false, false] (by kernel_rfl) rfl rfl ⟨b0, b1, b2⟩ (fun hHeld => ?_)
    refine with_tabW bu8.tab bu8.bits (fun HT_ HW_ => ?_)
    generalize hwD : w4.drew = wD at *
    refine pure_ (i := 6) (N := some 33) (v := ?_) (a' := ?_) #[false, false, false, false, false, false, true, false, false, false, false, false, false, false, false] rfl rfl (any_of HT_.out (by kernel_rfl)) (fun _ _ _ h => h) (Or.inl ⟨by rfl, ?_⟩) ?_ ?_
    rotate_left
    · intro w'
      go_simp
      with_reducible rfl
    rotate_left
    · simp only [Act.put, List.setIfInBounds_toArray, List.set_cons_zero, List.set_cons_succ, i64_w, i32_w]
      rfl
    refine pure_ (i := 7) (N := some 34) (v := ?_) (a' := ?_) #[false, false, false, false, false, false, true, true, false, false, false, false, false, false, false] rfl rfl (any_of HT_.out (by kernel_rfl)) (fun _ _ _ h => h) (Or.inl ⟨by rfl, ?_⟩) ?_ ?_
    rotate_left
    · intro w'
      go_simp
      with_reducible rfl
    rotate_left
    · simp only [Act.put, List.setIfInBounds_toArray, List.set_cons_zero, List.set_cons_succ, i64_w, i32_w]
      rfl
    refine pure_ (i := 8) (N := some 35) (v := ?_) (a' := ?_) #[false, false, false, false, false, false, true, true, true, false, false, false, false, false, false] rfl rfl (any_of HT_.out (by kernel_rfl)) (fun _ _ _ h => h) (Or.inl ⟨by rfl, ?_⟩) ?_ ?_
    rotate_left
    · intro w'
      go_simp
      with_reducible rfl
    rotate_left
    · simp only [Act.put, List.setIfInBounds_toArray, List.set_cons_zero, List.set_cons_succ, i64_w, i32_w]
      rfl
    refine pure_ (i := 9) (N := some 36) (v := ?_) (a' := ?_) #[false, false, false, false, false, false, true, true, true, true, false, false, false, false, false] rfl rfl (any_of HT_.out (by kernel_rfl)) (fun _ _ _ h => h) (Or.inl ⟨by rfl, ?_⟩) ?_ ?_
    rotate_left
    · intro w'
      go_simp
      with_reducible rfl
    rotate_left
    · simp only [Act.put, List.setIfInBounds_toArray, List.set_cons_zero, List.set_cons_succ, i64_w, i32_w]
      rfl
    refine take_ (i := 0) (N := some 27) (v := ?_) (a' := ?_) #[true, false, false, false, false, false, true, true, true, true, false, false, false, false, false] rfl rfl (take_ofW HT_.out HW_.out (by kernel_rfl)) (fun _ _ _ h => h) (Or.inl ⟨by rfl, ?_⟩) hHeld ?_ ?_
    rotate_left
    · rintro w' ⟨s0, s1, s2⟩
      go_simp
      with_reducible rfl
    rotate_left
    · simp only [Act.put, List.setIfInBounds_toArray, List.set_cons_zero, List.set_cons_succ, i64_w, i32_w]
      rfl
    refine take_ (i := 1) (N := some 28) (v := ?_) (a' := ?_) #[true, true, false, false, false, false, true, true, true, true, false, false, false, false, false] rfl rfl (take_ofW HT_.out HW_.out (by kernel_rfl)) (fun _ _ _ h => h) (Or.inl ⟨by rfl, ?_⟩) hHeld ?_ ?_
    rotate_left
    · rintro w' ⟨s0, s1, s2⟩
      go_simp
      with_reducible rfl
    rotate_left
    · simp only [Act.put, List.setIfInBounds_toArray, List.set_cons_zero, List.set_cons_succ, i64_w, i32_w]
      rfl
    refine pure_ (i := 2) (N := some 29) (v := ?_) (a' := ?_) #[true, true, true, false, false, false, true, true, true, true, false, false, false, false, false] rfl rfl (any_of HT_.out (by kernel_rfl)) (fun _ _ _ h => h) (Or.inl ⟨by rfl, ?_⟩) ?_ ?_
    rotate_left
    · intro w'
      go_simp
      with_reducible rfl
    rotate_left
    · simp only [Act.put, List.setIfInBounds_toArray, List.set_cons_zero, List.set_cons_succ, i64_w, i32_w]
      rfl
    refine pure_ (i := 3) (N := some 30) (v := ?_) (a' := ?_) #[true, true, true, true, false, false, true, true, true, true, false, false, false, false, false] rfl rfl (any_of HT_.out (by kernel_rfl)) (fun _ _ _ h => h) (Or.inl ⟨by rfl, ?_⟩) ?_ ?_
    rotate_left
    · intro w'
      go_simp
      with_reducible rfl
    rotate_left
    · simp only [Act.put, List.setIfInBounds_toArray, List.set_cons_zero, List.set_cons_succ, i64_w, i32_w]
      rfl
    refine pure_ (i := 4) (N := some 31) (v := ?_) (a' := ?_) #[true, true, true, true, true, false, true, true, true, true, false, false, false, false, false] rfl rfl (any_of HT_.out (by kernel_rfl)) (fun _ _ _ h => h) (Or.inl ⟨by rfl, ?_⟩) ?_ ?_
    rotate_left
    · intro w'
      go_simp
      with_reducible rfl
    rotate_left
    · simp only [Act.put, List.setIfInBounds_toArray, List.set_cons_zero, List.set_cons_succ, i64_w, i32_w]
      rfl
    refine take_ (i := 5) (N := some 32) (v := ?_) (a' := ?_) #[true, true, true, true, true, true, true, true, true, true, false, false, false, false, false] rfl rfl (take_ofW HT_.out HW_.out (by kernel_rfl)) (fun _ _ _ h => h) (Or.inl ⟨by rfl, ?_⟩) hHeld ?_ ?_
    rotate_left
    · rintro w' ⟨s0, s1, s2⟩
      go_simp
      with_reducible rfl
    rotate_left
    · simp only [Act.put, List.setIfInBounds_toArray, List.set_cons_zero, List.set_cons_succ, i64_w, i32_w]
      rfl
    refine take_ (i := 10) (N := some 37) (v := ?_) (a' := ?_) #[true, true, true, true, true, true, true, true, true, true, true, false, false, false, false] rfl rfl (take_ofW HT_.out HW_.out (by kernel_rfl)) (fun _ _ _ h => h) (Or.inl ⟨by rfl, ?_⟩) hHeld ?_ ?_
    rotate_left
    · rintro w' ⟨s0, s1, s2⟩
      go_simp
      with_reducible rfl
    rotate_left
    · simp only [Act.put, List.setIfInBounds_toArray, List.set_cons_zero, List.set_cons_succ, i64_w, i32_w]
      rfl
    refine one_ (i := 11) (N := some 38) #[true, true, true, true, true, true, true, true, true, true, true, true, false, false, false] rfl rfl (one_of HT_.out (by kernel_rfl)) (by decide) (fun K hK => ?_)
    refine goes_ Try.func35 (by kernel_rfl) rfl #[.slice AN nn cN, .slice XA xn xC] (by rfl) rfl rfl (by (try simp only [List.map_toArray, List.map_cons, List.map_nil]); first | done | rfl) ?_
    refine HDM.out.mono ?_
    rintro e w9 ⟨rfl, hb9⟩
    refine ⟨_, rfl, ?_⟩
    have HB9 := Aside0.mk hb9
    refine hK.out _ _ ⟨pw_cell_below hb9 hHeld.1, pw_cell_below hb9 hHeld.2.1, pw_cell_below hb9 hHeld.2.2⟩ (fun hH2 => ?_)
    clear hHeld hb9 hK K
    refine norm_ (a' := ?_) ?_ ?_
    rotate_left
    · simp only [Act.put, List.setIfInBounds_toArray, List.set_cons_zero, List.set_cons_succ, i64_w, i32_w]
      rfl
    refine pure_ (i := 12) (N := some 39) (v := ?_) (a' := ?_) #[true, true, true, true, true, true, true, true, true, true, true, true, true, false, false] rfl rfl (any_of HT_.out (by kernel_rfl)) (fun _ _ _ h => h) (Or.inl ⟨by rfl, ?_⟩) ?_ ?_
    rotate_left
    · intro w'
      go_simp
      with_reducible rfl
    rotate_left
    · simp only [Act.put, List.setIfInBounds_toArray, List.set_cons_zero, List.set_cons_succ, i64_w, i32_w]
      rfl
    refine pure_ (i := 13) (N := some 40) (v := ?_) (a' := ?_) #[true, true, true, true, true, true, true, true, true, true, true, true, true, true, false] rfl rfl (any_of HT_.out (by kernel_rfl)) (fun _ _ _ h => h) (Or.inl ⟨by rfl, ?_⟩) ?_ ?_
    rotate_left
    · intro w'
      go_simp
      with_reducible rfl
    rotate_left
    · simp only [Act.put, List.setIfInBounds_toArray, List.set_cons_zero, List.set_cons_succ, i64_w, i32_w]
      rfl
    refine last_ (i := 14) (N := none) #[true, true, true, true, true, true, true, true, true, true, true, true, true, true, true] rfl rfl (one_of HT_.out (by kernel_rfl)) (by decide) (fun K hK => ?_)
    have hz := HNF.out _ HB9.out
    have hz3 := HNR.out _ HB9.out
    refine skip_ (w1 := ?_) (by rfl) rfl ?_ ?_
    rotate_left
    · go_simp
      rfl
    refine hK.out _ _ ?_
    clear hK K hH2 hz hz3
    refine done_ (done_of HT_.out (by kernel_rfl)) ?_
    have HTD : Aside0 (RowKit.Below w4.heap.size w4 wD) := ⟨by rw [← hwD]; exact below_drew1 (Below.refl _ _)⟩
    have HB49 : Aside0 (RowKit.Below w4.heap.size w4 w9) := ⟨below_step HTD.out HB9.out⟩
    have HND9 := Aside0.mk (blk_below HND4.out HB49.out)
    have HND6 := Aside0.mk (blk_put HND9.out 2 (.int .i64 d) rfl)
    have HBX6 := Aside0.mk (blk_far (blk_below HBX4.out HB49.out) (p := ⟨ng, 2, none⟩) (by simp) (.int .i64 d))
    have HS9 := Aside0.mk (HS4.out.below HB49.out)
    have HR6 : Aside0 (RowIs (w9.setCell ⟨ng, 2, none⟩ (.int .i64 d)) g Q4) := ⟨HS9.out.row.same (Below.heap_setCell _ _ _ _ (fun e => hngg e.symm))⟩
    have HT6 : Aside0 (Turns (fun j => j = ng) w9 (w9.setCell ⟨ng, 2, none⟩ (.int .i64 d))) := ⟨turns_put (F := fun j => j = ng) (Turns.rfl_ _) (p := ⟨ng, 2, none⟩) rfl _⟩
    have HO6 : Aside0 (∀ q ∈ Q4, OkE (w9.setCell ⟨ng, 2, none⟩ (.int .i64 d)) n q) := ⟨fun q hq => by
      have h1 := HS9.out.ok q hq
      rw [HLN.out] at h1
      refine ⟨?_, h1.2⟩
      obtain ⟨j, c', cur, e1, hj, hgj, ht⟩ := h1.1
      refine ⟨j, c', cur, e1, by simpa [World.setCell] using hj, (Below.heap_setCell _ _ _ _ (fun e => ?_)).trans hgj, ht⟩
      have e' : j = ng := e
      subst e'
      exact blk_ne hgj HND9.out (by decide) rfl⟩
    have HVN6 : Aside0 (VecAt (w9.setCell ⟨ng, 2, none⟩ (.int .i64 d)) w9.heap.size (.slice AN nn cN) nv) := ⟨by
      obtain ⟨_, _, _, _, _, h1, h2⟩ := HS9.out.ctx.node
      have h3 := h1.symm.trans HND9.out
      simp at h3
      rw [h3.2.1] at h2
      obtain ⟨j, c', cur, e1, hj, hgj, ht⟩ := h2
      refine ⟨j, c', cur, e1, hj, (Below.heap_setCell _ _ _ _ (fun e => ?_)).trans hgj, ht⟩
      have e' : j = ng := e
      subst e'
      exact blk_ne hgj HND9.out (by decide) rfl⟩
    clear hwD b0 b1 b2 HDM HNF HNR HND4d
    go_upto_region 9 with (fail)
    obtain ⟨w6, hw6⟩ : ∃ w6, w9.setCell ⟨ng, 2, none⟩ (.int .i64 d) = w6 := ⟨_, rfl⟩
    have HW6 := Aside0.mk hw6
    rw [hw6]
    rw [hw6] at HND6 HBX6 HR6 HO6 HVN6 HT6
    clear hw6
    have b0 : w6.drew.cell? ⟨ng + 1, 0, none⟩ = some (.pointer (some ⟨ng, 0, none⟩)) := (blk_cell (blk_drew HBX6.out) 0).trans rfl
    have HPR6 : Aside0 (PRead w6.drew (some ad) n Q4) := ⟨by rw [HAD.out]; exact PRead.of_row HR6.out.drew (fun q hq => (HO6.out q hq).turns (Turns.of_below (F := fun _ => False) (below_drew1 (Below.refl _ _))) (fun _ hf => hf.elim))⟩
    have HB1 : Aside0 (Calls Try.prog 37 #[.slice (some ad) mid c4] w6.drew (BuildDone w6.drew n (Q4.take mid))) := ⟨by
      have h1 := HIH.out w6.drew (some ad) c4 (Q4.take mid) (by rw [List.length_take, HL4.out, HML.out]; omega) (HPR6.out.take mid) (by rw [List.length_take]; omega)
      rw [List.length_take, HL4.out, Nat.min_eq_left (by omega)] at h1
      exact h1⟩
    obtain ⟨ad2, had2⟩ : ∃ ad2, ad.add (mid * 2) = ad2 := ⟨_, rfl⟩
    have HAD2 := Aside0.mk had2
    have HB2 : Aside0 (∀ w9, Below w6.drew.heap.size w6.drew w9 → Calls Try.prog 37 #[.slice (some ad2) (ml - mid) (c4 - mid)] w9 (BuildDone w9 n (Q4.drop mid))) := ⟨fun w9 hb => by
      have h0 := HPR6.out
      rw [HAD.out] at h0
      have h1 := (h0.drop mid (by have := HL4.out; omega)).below hb
      rw [show (⟨g, 0 + mid * 2, none⟩ : Addr) = ad2 by rw [← HAD2.out, add_ad HAD.out]; simp] at h1
      have h2 := HIH.out w9 (some ad2) (c4 - mid) (Q4.drop mid) (by rw [List.length_drop, HL4.out, HML.out]; omega) h1 (by rw [List.length_drop, HL4.out]; omega)
      rw [List.length_drop, HL4.out] at h2
      exact h2⟩
    have hcm : ¬ (c4 : Int) = (mid : Int) := by omega
    have hcm2 : ¬ c4 = mid := by omega
    have hcm3 : (mid : Int) ≤ (c4 : Int) := by omega
    have hcm4 : (ml : Int) ≤ (c4 : Int) := by omega
    have hcm5 : (mid : Int) ≤ (ml : Int) := by omega
    have HNDE := Aside0.mk (blk_drew HND6.out)
    have HBXE := Aside0.mk (blk_drew HBX6.out)
    have HBEE : Aside0 (RowKit.Below W.heap.size W w6.drew) := ⟨by
      have hWng : W.heap.size ≤ ng := by rw [HNGE.out]; exact Nat.le_refl _
      have h1 : RowKit.Below W.heap.size W wc := HBW0.out.trans (HBC.out.mono HBW0.out.size)
      have h2 : RowKit.Below W.heap.size W w4 := belowB_turns h1 HT4.out (fun j e => by subst e; omega) h1.size
      have h3 : RowKit.Below W.heap.size W w9 := h2.trans (HB49.out.mono h2.size)
      rw [← HW6.out]
      exact (h3.setCell hWng _).drew⟩
    have HNG : Aside0 (∀ w9, Below w6.drew.heap.size w6.drew w9 → w9.frozen? ⟨ng, 3, none⟩ = false ∧ w9.cell? ⟨ng, 3, none⟩ = some (.pointer none) ∧ ∀ u, (w9.setCell ⟨ng, 3, none⟩ u).frozen? ⟨ng, 4, none⟩ = false ∧ (w9.setCell ⟨ng, 3, none⟩ u).cell? ⟨ng, 4, none⟩ = some (.pointer none)) := ⟨fun w9 hb => ⟨blk_frozen (blk_below (blk_drew HND6.out) hb) 3, (blk_cell (blk_below (blk_drew HND6.out) hb) 3).trans rfl, fun u => ⟨blk_frozen (blk_put (blk_below (blk_drew HND6.out) hb) 3 u rfl) 4, (blk_cell (blk_put (blk_below (blk_drew HND6.out) hb) 3 u rfl) 4).trans rfl⟩⟩⟩
    refine start_ (n := 16) (S := fun w' => w'.cell? ⟨ng + 1, 0, none⟩ = some (.pointer (some ⟨ng, 0, none⟩))) (ds := [15]) #[false, false, false, false, false, false, false, false, false, false, false, false, false, false, false, false] (by kernel_rfl) rfl rfl b0 (fun hHeld => ?_)
    refine with_tabW bu9.tab bu9.bits (fun HT_ HW_ => ?_)
    generalize hwE : w6.drew = wE at *
    refine pure_ (i := 2) (N := some 43) (v := ?_) (a' := ?_) #[false, false, true, false, false, false, false, false, false, false, false, false, false, false, false, false] rfl rfl (any_of HT_.out (by kernel_rfl)) (fun _ _ _ h => h) (Or.inl ⟨by rfl, ?_⟩) ?_ ?_
    rotate_left
    · intro w'
      go_simp
      with_reducible rfl
    rotate_left
    · simp only [Act.put, List.setIfInBounds_toArray, List.set_cons_zero, List.set_cons_succ, i64_w, i32_w]
      rfl
    refine pure_ (i := 3) (N := some 44) (v := ?_) (a' := ?_) #[false, false, true, true, false, false, false, false, false, false, false, false, false, false, false, false] rfl rfl (any_of HT_.out (by kernel_rfl)) (fun _ _ _ h => h) (Or.inl ⟨by rfl, ?_⟩) ?_ ?_
    rotate_left
    · intro w'
      go_simp
      with_reducible rfl
    rotate_left
    · simp only [Act.put, List.setIfInBounds_toArray, List.set_cons_zero, List.set_cons_succ, i64_w, i32_w]
      rfl
    refine pure_ (i := 4) (N := some 45) (v := ?_) (a' := ?_) #[false, false, true, true, true, false, false, false, false, false, false, false, false, false, false, false] rfl rfl (any_of HT_.out (by kernel_rfl)) (fun _ _ _ h => h) (Or.inl ⟨by rfl, ?_⟩) ?_ ?_
    rotate_left
    · intro w'
      go_simp
      with_reducible rfl
    rotate_left
    · simp only [Act.put, List.setIfInBounds_toArray, List.set_cons_zero, List.set_cons_succ, i64_w, i32_w]
      rfl
    refine pure_ (i := 6) (N := some 47) (v := ?_) (a' := ?_) #[false, false, true, true, true, false, true, false, false, false, false, false, false, false, false, false] rfl rfl (any_of HT_.out (by kernel_rfl)) (fun _ _ _ h => h) (Or.inl ⟨by rfl, ?_⟩) ?_ ?_
    rotate_left
    · intro w'
      go_simp
      with_reducible rfl
    rotate_left
    · simp only [Act.put, List.setIfInBounds_toArray, List.set_cons_zero, List.set_cons_succ, i64_w, i32_w]
      rfl
    refine pure_ (i := 7) (N := some 48) (v := ?_) (a' := ?_) #[false, false, true, true, true, false, true, true, false, false, false, false, false, false, false, false] rfl rfl (any_of HT_.out (by kernel_rfl)) (fun _ _ _ h => h) (Or.inl ⟨by rfl, ?_⟩) ?_ ?_
    rotate_left
    · intro w'
      go_simp
      with_reducible rfl
    rotate_left
    · simp only [Act.put, List.setIfInBounds_toArray, List.set_cons_zero, List.set_cons_succ, i64_w, i32_w]
      rfl
    refine pure_ (i := 8) (N := some 49) (v := ?_) (a' := ?_) #[false, false, true, true, true, false, true, true, true, false, false, false, false, false, false, false] rfl rfl (any_of HT_.out (by kernel_rfl)) (fun _ _ _ h => h) (Or.inl ⟨by rfl, ?_⟩) ?_ ?_
    rotate_left
    · intro w'
      go_simp
      with_reducible rfl
    rotate_left
    · simp only [Act.put, List.setIfInBounds_toArray, List.set_cons_zero, List.set_cons_succ, i64_w, i32_w]
      rfl
    refine take_ (i := 0) (N := some 41) (v := ?_) (a' := ?_) #[true, false, true, true, true, false, true, true, true, false, false, false, false, false, false, false] rfl rfl (take_ofW HT_.out HW_.out (by kernel_rfl)) (fun _ _ _ h => h) (Or.inl ⟨by rfl, ?_⟩) hHeld ?_ ?_
    rotate_left
    · rintro w' s0
      go_simp
      with_reducible rfl
    rotate_left
    · simp only [Act.put, List.setIfInBounds_toArray, List.set_cons_zero, List.set_cons_succ, i64_w, i32_w]
      rfl
    refine take_ (i := 1) (N := some 42) (v := ?_) (a' := ?_) #[true, true, true, true, true, false, true, true, true, false, false, false, false, false, false, false] rfl rfl (take_ofW HT_.out HW_.out (by kernel_rfl)) (fun _ _ _ h => h) (Or.inl ⟨by rfl, ?_⟩) hHeld ?_ ?_
    rotate_left
    · rintro w' s0
      go_simp
      with_reducible rfl
    rotate_left
    · simp only [Act.put, List.setIfInBounds_toArray, List.set_cons_zero, List.set_cons_succ, i64_w, i32_w]
      rfl
    refine one_ (i := 5) (N := some 46) #[true, true, true, true, true, true, true, true, true, false, false, false, false, false, false, false] rfl rfl (one_of HT_.out (by kernel_rfl)) (by decide) (fun K hK => ?_)
    refine goes_ Try.func37 (by kernel_rfl) rfl #[.slice (some ad) mid c4] (by rfl) rfl rfl (by (try simp only [List.map_toArray, List.map_cons, List.map_nil]); first | done | rfl) ?_
    refine HB1.out.mono ?_
    rintro e w9 ⟨⟨T1, p1, rfl, hn1, hx1⟩, hb9⟩
    refine ⟨_, rfl, ?_⟩
    have HN1 := Aside0.mk hn1
    have HX1 := Aside0.mk hx1
    have HB9 := Aside0.mk hb9
    refine hK.out _ _ (pw_cell_below hb9 hHeld) (fun hH2 => ?_)
    clear hHeld hb9 hn1 hx1 hK K
    refine norm_ (a' := ?_) ?_ ?_
    rotate_left
    · simp only [Act.put, List.setIfInBounds_toArray, List.set_cons_zero, List.set_cons_succ, i64_w, i32_w]
      rfl
    refine one_ (i := 9) (N := some 50) #[true, true, true, true, true, true, true, true, true, true, false, false, false, false, false, false] rfl rfl (one_of HT_.out (by kernel_rfl)) (by decide) (fun K hK => ?_)
    refine goes_ Try.func37 (by kernel_rfl) rfl #[.slice (some ad2) (ml - mid) (c4 - mid)] (by rfl) rfl rfl (by (try simp only [List.map_toArray, List.map_cons, List.map_nil]); first | done | rfl) ?_
    refine (HB2.out _ HB9.out).mono ?_
    rintro e w10 ⟨⟨T2, p2, rfl, hn2, hx2⟩, hb10⟩
    refine ⟨_, rfl, ?_⟩
    have HN2 := Aside0.mk hn2
    have HX2 := Aside0.mk hx2
    have HB10 := Aside0.mk hb10
    refine hK.out _ _ (pw_cell_below hb10 hH2) (fun hH3 => ?_)
    clear hH2 hb10 hn2 hx2 hK K
    refine norm_ (a' := ?_) ?_ ?_
    rotate_left
    · simp only [Act.put, List.setIfInBounds_toArray, List.set_cons_zero, List.set_cons_succ, i64_w, i32_w]
      rfl
    refine pure_ (i := 10) (N := some 51) (v := ?_) (a' := ?_) #[true, true, true, true, true, true, true, true, true, true, true, false, false, false, false, false] rfl rfl (any_of HT_.out (by kernel_rfl)) (fun _ _ _ h => h) (Or.inl ⟨by rfl, ?_⟩) ?_ ?_
    rotate_left
    · intro w'
      go_simp
      with_reducible rfl
    rotate_left
    · simp only [Act.put, List.setIfInBounds_toArray, List.set_cons_zero, List.set_cons_succ, i64_w, i32_w]
      rfl
    refine pure_ (i := 11) (N := some 52) (v := ?_) (a' := ?_) #[true, true, true, true, true, true, true, true, true, true, true, true, false, false, false, false] rfl rfl (any_of HT_.out (by kernel_rfl)) (fun _ _ _ h => h) (Or.inl ⟨by rfl, ?_⟩) ?_ ?_
    rotate_left
    · intro w'
      go_simp
      with_reducible rfl
    rotate_left
    · simp only [Act.put, List.setIfInBounds_toArray, List.set_cons_zero, List.set_cons_succ, i64_w, i32_w]
      rfl
    refine one_ (i := 12) (N := none) #[true, true, true, true, true, true, true, true, true, true, true, true, true, false, false, false] rfl rfl (one_of HT_.out (by kernel_rfl)) (by decide) (fun K hK => ?_)
    obtain ⟨hz, hz3, hz4⟩ := HNG.out _ (below_step HB9.out HB10.out)
    clear hz4
    obtain ⟨q1, hq1⟩ := node_lo_ptr HN1.out
    subst hq1
    refine skip_ (w1 := ?_) (by rfl) rfl ?_ ?_
    rotate_left
    · go_simp
      rfl
    refine hK.out _ _ ((blk_cell (blk_far (blk_below HBXE.out (below_step HB9.out HB10.out)) (p := ⟨ng, 3, none⟩) (by simp) (.pointer q1)) 0).trans rfl) (fun hH4 => ?_)
    clear hK K hH3 hz hz3
    refine pure_ (i := 13) (N := some 53) (v := ?_) (a' := ?_) #[true, true, true, true, true, true, true, true, true, true, true, true, true, true, false, false] rfl rfl (any_of HT_.out (by kernel_rfl)) (fun _ _ _ h => h) (Or.inl ⟨by rfl, ?_⟩) ?_ ?_
    rotate_left
    · intro w'
      go_simp
      with_reducible rfl
    rotate_left
    · simp only [Act.put, List.setIfInBounds_toArray, List.set_cons_zero, List.set_cons_succ, i64_w, i32_w]
      rfl
    refine pure_ (i := 14) (N := some 54) (v := ?_) (a' := ?_) #[true, true, true, true, true, true, true, true, true, true, true, true, true, true, true, false] rfl rfl (any_of HT_.out (by kernel_rfl)) (fun _ _ _ h => h) (Or.inl ⟨by rfl, ?_⟩) ?_ ?_
    rotate_left
    · intro w'
      go_simp
      with_reducible rfl
    rotate_left
    · simp only [Act.put, List.setIfInBounds_toArray, List.set_cons_zero, List.set_cons_succ, i64_w, i32_w]
      rfl
    refine last_ (i := 15) (N := none) #[true, true, true, true, true, true, true, true, true, true, true, true, true, true, true, true] rfl rfl (one_of HT_.out (by kernel_rfl)) (by decide) (fun K hK => ?_)
    obtain ⟨_, _, hz4⟩ := HNG.out _ (below_step HB9.out HB10.out)
    obtain ⟨hz, hz3⟩ := hz4 (.pointer q1)
    clear hz4
    obtain ⟨q2, hq2⟩ := node_lo_ptr HN2.out
    subst hq2
    refine skip_ (w1 := ?_) (by rfl) rfl ?_ ?_
    rotate_left
    · go_simp
      rfl
    refine hK.out _ _ ?_
    clear hK K hz hz3
    refine done_ (done_of HT_.out (by kernel_rfl)) ?_
    have HBZ : Aside0 (RowKit.Below wE.heap.size wE w10) := ⟨below_step HB9.out HB10.out⟩
    have hngE : ng < wE.heap.size := blk_lt HNDE.out
    have HNZ1 := Aside0.mk (blk_below HNDE.out HBZ.out)
    have HNZ2 := Aside0.mk (blk_put HNZ1.out 3 (.pointer q1) rfl)
    have HNZ3 := Aside0.mk (blk_put HNZ2.out 4 (.pointer q2) rfl)
    have HBXZ := Aside0.mk (blk_far (blk_far (blk_below HBXE.out HBZ.out) (p := ⟨ng, 3, none⟩) (by simp) (.pointer q1)) (p := ⟨ng, 4, none⟩) (by simp) (.pointer q2))
    have HNA : Aside0 (NodeLo ((w10.setCell ⟨ng, 3, none⟩ (.pointer q1)).setCell ⟨ng, 4, none⟩ (.pointer q2)) wE.heap.size w9.heap.size T1 (.pointer q1)) :=
      ⟨((HN1.out.below HB10.out (Nat.le_refl _)).set hngE HNZ1.out 3 _).set hngE HNZ2.out 4 _⟩
    have hngE2 : ng < w9.heap.size := Nat.lt_of_lt_of_le hngE HB9.out.size
    have HNB : Aside0 (NodeLo ((w10.setCell ⟨ng, 3, none⟩ (.pointer q1)).setCell ⟨ng, 4, none⟩ (.pointer q2)) w9.heap.size w10.heap.size T2 (.pointer q2)) :=
      ⟨(HN2.out.set hngE2 HNZ1.out 3 _).set hngE2 HNZ2.out 4 _⟩
    have hWng : W.heap.size ≤ ng := by rw [HNGE.out]; exact Nat.le_refl _
    have HWZ : Aside0 (RowKit.Below W.heap.size W ((w10.setCell ⟨ng, 3, none⟩ (.pointer q1)).setCell ⟨ng, 4, none⟩ (.pointer q2))) :=
      ⟨((HBEE.out.trans (HBZ.out.mono (by omega))).setCell hWng _).setCell hWng _⟩
    have hsz : ((w10.setCell ⟨ng, 3, none⟩ (.pointer q1)).setCell ⟨ng, 4, none⟩ (.pointer q2)).heap.size = w10.heap.size := by simp [World.setCell]
    have HSZ := Aside0.mk hsz
    have hne := node_lo_ne HN1.out HN2.out (Nat.le_refl _)
    have HNE := Aside0.mk hne
    have hle9 : w9.heap.size ≤ w10.heap.size := HB10.out.size
    clear hsz hne
    obtain ⟨wz, hwz⟩ : ∃ wz, (w10.setCell ⟨ng, 3, none⟩ (.pointer q1)).setCell ⟨ng, 4, none⟩ (.pointer q2) = wz := ⟨_, rfl⟩
    rw [hwz] at HNZ3 HBXZ HNA HNB HWZ HSZ
    rw [hwz]
    clear hwz b0
    have b0 : wz.cell? ⟨ng + 1, 0, none⟩ = some (.pointer (some ⟨ng, 0, none⟩)) := (blk_cell HBXZ.out 0).trans rfl
    have HFIN : Aside0 (BuildDone W n (q0 :: Q) (.returned (.pointer (some ⟨ng, 0, none⟩))) wz) := ⟨by
      refine ⟨⟨.node id0 nv d T1 T2, _, rfl, ⟨ng, _, _, _, rfl, hWng, by rw [HSZ.out]; omega, HNZ3.out, ?_, HNA.out.more (by omega) (by rw [HSZ.out]; omega), HNB.out.more (by omega) (by rw [HSZ.out]; exact Nat.le_refl _), HNE.out⟩, ⟨HI0'.out, HLN.out, ⟨HDR2.out.1, by have := HDR2.out.2; omega⟩, HW0'.out, HX1.out.1, HX2.out.1⟩, ⟨?_, ?_, HX1.out.2.1, HX2.out.2.1⟩, ?_⟩, HWZ.out⟩
      · have h1 := HV0'.out
        rw [HNN.out] at h1
        exact (h1.keep (Kp.below HWZ.out)).more HWZ.out.size
      · intro p hp
        obtain ⟨q, hq, rfl⟩ := List.mem_map.1 (HX1.out.2.2.mem_iff.1 hp)
        obtain ⟨i, hi, rfl⟩ := List.mem_iff_getElem.1 hq
        have hi' : i < mid := by rw [List.length_take] at hi; omega
        have hu := HU4.out i mid (by omega) hi' (by omega)
        rw [HKM.out] at hu
        have h2 : kf dE (keyE nv) Q4 i = distN nv (pt (List.take mid Q4)[i]).2 := by
          unfold kf keyE pt
          rw [List.getD_eq_getElem?_getD, List.getElem?_eq_getElem (by omega), List.getElem_take]
          rfl
        rw [← h2]
        exact hu
      · intro p hp
        obtain ⟨q, hq, rfl⟩ := List.mem_map.1 (HX2.out.2.2.mem_iff.1 hp)
        obtain ⟨i, hi, rfl⟩ := List.mem_iff_getElem.1 hq
        have hi' : mid + i < ml := by rw [List.length_drop, HL4.out] at hi; omega
        have h2 : kf dE (keyE nv) Q4 (mid + i) = distN nv (pt (List.drop mid Q4)[i]).2 := by
          unfold kf keyE pt
          rw [List.getD_eq_getElem?_getD, List.getElem?_eq_getElem (by rw [HL4.out]; omega), List.getElem_drop]
          rfl
        rw [← h2, ← HKM.out]
        rcases Nat.eq_zero_or_pos i with h0 | h0
        · subst h0; exact Int.le_refl _
        · exact HU4.out mid (mid + i) (by omega) (by omega) hi'
      · have h1 : (T1.pts ++ T2.pts).Perm (Q.map pt) := by
          refine (HX1.out.2.2.append HX2.out.2.2).trans ?_
          rw [← List.map_append, List.take_append_drop]
          exact HG4.out.perm.map pt
        have h2 : pt q0 = (id0, nv) := by rw [HQ0.out]; rfl
        show ((id0, nv) :: (T1.pts ++ T2.pts)).Perm (pt q0 :: Q.map pt)
        rw [h2]
        exact h1.cons _⟩
    go_wp2_with fail
    go_ret
    exact HFIN.out
end Go.Proofs.Ytealiaafdkhonaa.Vp

namespace Go.Proofs.Ytealiaafdkhonaa.Vp
open Go.RowKit Go.Sort Mb Base Sq Go.Proofs.YtealiaafdkhonaaW.PrintWords Go.Proofs.YtealiaafdkhonaaW.PrintLast Go.Proofs.YtealiaafdkhonaaW.PrintMore
set_option linter.unusedVariables false
set_option linter.unusedSimpArgs false
set_option maxRecDepth 100000 in
set_option maxHeartbeats 8000000 in
theorem build_one (W : World) (n : Nat) (A : Option Addr) (c : Nat) (q0 : E) (h : PRead W A n [q0]) (hc : 1 < c) (hn1 : 1 ≤ n) (hn2 : n ≤ 16) :
    Calls Try.prog 37 #[.slice A 1 c] W (BuildDone W n [q0]) := by
  obtain ⟨gA, oA, hA, c0, c1⟩ := h.at_ 0 (by simp)
  subst hA
  obtain ⟨hv0, hi0, hl0, hw0⟩ := h.ok q0 (by simp)
  obtain ⟨AN, cN, ev0, hCN, _⟩ := hv0.form (by have := (isV_len hi0).2; omega)
  have HV0 := Aside0.mk hv0
  have HI0 := Aside0.mk hi0
  obtain ⟨id0, hid⟩ : ∃ id0, q0.1 = id0 := ⟨_, rfl⟩
  obtain ⟨nv, hnv⟩ : ∃ nv, q0.2.1 = nv := ⟨_, rfl⟩
  have HLN : Aside0 (nv.length = n) := ⟨by rw [← hnv]; exact hl0⟩
  have HV0' : Aside0 (VecAt W W.heap.size (.slice AN nv.length cN) nv) := ⟨by rw [← hnv, ← ev0]; exact hv0⟩
  have HI0' : Aside0 (isV nv = true) := ⟨by rw [← hnv]; exact hi0⟩
  have HW0' : Aside0 ((Lit.int .i64 id0).wf = true) := ⟨by rw [← hid]; exact hw0⟩
  have HQ0 := Aside0.mk (show q0 = (id0, nv, .slice AN nv.length cN) from Prod.ext hid (Prod.ext hnv (by rw [← hnv]; exact ev0)))
  obtain ⟨nn, hnn⟩ : ∃ nn, nv.length = nn := ⟨_, rfl⟩
  have HNN := Aside0.mk hnn
  have d0 : W.cell? ⟨gA, oA, none⟩ = some (.int .i64 id0) := by simpa [hid] using c0
  have d1 : W.cell? ⟨gA, oA + 1, none⟩ = some (.slice AN nn cN) := by simpa [ev0, hnv, hnn] using c1
  clear c0 c1 h hv0 hi0 hw0 ev0 hCN hid hnv hnn hl0
  obtain ⟨ng, hng⟩ : ∃ ng, W.heap.size = ng := ⟨_, rfl⟩
  have HNGE := Aside0.mk hng
  obtain ⟨w1, hw1⟩ : ∃ w1, (W.alloc (.cells #[.int .i64 id0, .slice AN nn cN, .int .i64 0, .pointer none, .pointer none] 104)).alloc (.cells #[.pointer (some ⟨ng, 0, none⟩)] 65) = w1 := ⟨_, rfl⟩
  have HBW1 : Aside0 (Below ng W w1) := ⟨by rw [← hw1, ← hng]; exact below_alloc (below_alloc (Below.refl _ _) _) _⟩
  have HND1 : Aside0 (w1.heap[ng]? = some (.cells #[.int .i64 id0, .slice AN nn cN, .int .i64 0, .pointer none, .pointer none] 104 (0, 0))) := ⟨by rw [← hw1, ← hng]; exact blk_alloc (blk_new _ _) _⟩
  have HBX1 : Aside0 (w1.heap[ng + 1]? = some (.cells #[.pointer (some ⟨ng, 0, none⟩)] 65 (0, 0))) := ⟨by
    rw [← hw1, ← hng]
    have := blk_new (W.alloc (.cells #[.int .i64 id0, .slice AN nn cN, .int .i64 0, .pointer none, .pointer none] 104)) (.cells #[.pointer (some ⟨W.heap.size, 0, none⟩)] 65)
    simpa using this⟩
  have HSZ1 : Aside0 (w1.heap.size = ng + 2) := ⟨by rw [← hw1, ← hng]; simp⟩
  have HBW0 : Aside0 (RowKit.Below W.heap.size W w1) := ⟨by rw [hng]; exact HBW1.out⟩
  have HCL : Aside0 (∀ (ad : Addr) (c' : Nat), Calls Try.prog 52 #[.slice (some ad) 0 c'] w1 (ClonedP w1 n [])) := ⟨fun ad c' => clonep_calls ad c' n [] w1 ⟨fun h => by simp at h, fun q hq => by cases hq⟩ (by simp)⟩
  have HW1E := Aside0.mk hw1
  clear hw1
  have hc1 : ¬ c = 1 := by omega
  have hc2 : ¬ (c : Int) = 1 := by omega
  have hc3 : (1 : Int) ≤ (c : Int) := by omega
  have hd4 : decide ((0 : Int) < 0) = false := by rfl
  go_enter Try.func37, Try.ntmps37
  go_upto_region 4 with (fail)
  rw [HW1E.out]
  clear hng d0 d1
  go_cut [4] (fun v4 w2 => ∃ (g c4 : Nat), v4 = .slice (some ⟨g, 0, none⟩) 0 c4 ∧ ng + 2 ≤ g ∧ Aside0 (RowIs w2 g []) ∧ Aside0 (Below w1.heap.size w1 w2))
  case first =>
    go_wp2_with (go_at_call 52; (with_reducible refine (HCL.out _ _).mono ?_); rintro e w9 ⟨⟨A9, c9, rfl, hle9, hok9, g9, rfl, hg9, hr9⟩, hb9⟩; have HR9 := Aside0.mk hr9; have HB9 := Aside0.mk hb9; clear hok9 hr9 hb9)
    go_meet
    exact ⟨g9, c9, rfl, by rw [← HSZ1.out]; exact hg9, HR9, HB9⟩
  case rest =>
    obtain ⟨g, c4, rfl, hg4, HRW, HBC⟩ := hcut
    have HND2 := Aside0.mk (blk_below HND1.out HBC.out)
    have HBX2 := Aside0.mk (blk_below HBX1.out HBC.out)
    have HVN2 : Aside0 (VecAt wc wc.heap.size (.slice AN nn cN) nv) := ⟨by
      have h1 := HV0'.out
      rw [HNN.out] at h1
      exact ((h1.keep (Kp.below HBW0.out)).more HBW0.out.size |>.keep (Kp.below HBC.out)).more HBC.out.size⟩
    have HSA2 : Aside0 (SortAt wc (ng + 1) ng nv g []) := ⟨⟨HRW.out, fun q hq => absurd hq (by simp), ⟨HBX2.out, ⟨_, _, _, _, _, HND2.out, HVN2.out⟩, HI0'.out⟩⟩⟩
    have HC := Aside0.mk (sortStable_calls wc (ng + 1) ng nv g [] c4 HSA2.out 0 rfl (by omega))
    obtain ⟨ad, had⟩ : ∃ ad : Addr, ad = ⟨g, 0, none⟩ := ⟨_, rfl⟩
    have HAD := Aside0.mk had
    rw [← had] at HC
    rw [← had]
    clear had
    have HB1 : Aside0 (∀ (A : Option Addr) (c : Nat) (w : World), Calls Try.prog 37 #[.slice A 0 c] w (BuildDone w n [])) := ⟨fun A c w => build_none w n A c⟩
    have hg0 : ng ≠ g ∧ ng + 1 ≠ g := ⟨by omega, by omega⟩
    have HG0 := Aside0.mk hg0
    have HGL := Aside0.mk hg4
    clear hg0
    rcases Nat.eq_zero_or_pos c4 with h4 | h4
    case inl =>
      subst h4
      go_upto_region 9 with (go_at_call 53; refine HC.out.mono ?_; rintro e w6 ⟨rfl, ⟨Q4, hs4, hg4', hu4⟩, ht4⟩; have HT4 := Aside0.mk ht4; clear hs4 hg4' hu4 ht4)
      have HND6 := Aside0.mk (HT4.out.keep HND2.out HG0.out.1)
      have HBX6 := Aside0.mk (HT4.out.keep HBX2.out HG0.out.2)
      have b0 : w6.drew.cell? ⟨ng + 1, 0, none⟩ = some (.pointer (some ⟨ng, 0, none⟩)) := (blk_cell (blk_drew HBX6.out) 0).trans rfl
      have HNDE := Aside0.mk (blk_drew HND6.out)
      have HBXE := Aside0.mk (blk_drew HBX6.out)
      have HBEE : Aside0 (RowKit.Below W.heap.size W w6.drew) := ⟨by
        have h1 : RowKit.Below W.heap.size W wc := HBW0.out.trans (HBC.out.mono HBW0.out.size)
        have h2 : RowKit.Below W.heap.size W w6 := belowB_turns h1 HT4.out (fun j e => by subst e; have := HNGE.out; have := HGL.out; omega) h1.size
        exact h2.drew⟩
      have HNG : Aside0 (∀ w9, Below w6.drew.heap.size w6.drew w9 → w9.frozen? ⟨ng, 3, none⟩ = false ∧ w9.cell? ⟨ng, 3, none⟩ = some (.pointer none) ∧ ∀ u, (w9.setCell ⟨ng, 3, none⟩ u).frozen? ⟨ng, 4, none⟩ = false ∧ (w9.setCell ⟨ng, 3, none⟩ u).cell? ⟨ng, 4, none⟩ = some (.pointer none)) := ⟨fun w9 hb => ⟨blk_frozen (blk_below (blk_drew HND6.out) hb) 3, (blk_cell (blk_below (blk_drew HND6.out) hb) 3).trans rfl, fun u => ⟨blk_frozen (blk_put (blk_below (blk_drew HND6.out) hb) 3 u rfl) 4, (blk_cell (blk_put (blk_below (blk_drew HND6.out) hb) 3 u rfl) 4).trans rfl⟩⟩⟩
      refine start_ (n := 16) (S := fun w' => w'.cell? ⟨ng + 1, 0, none⟩ = some (.pointer (some ⟨ng, 0, none⟩))) (ds := [15]) #[false, false, false, false, false, false, false, false, false, false, false, false, false, false, false, false] (by kernel_rfl) rfl rfl b0 (fun hHeld => ?_)
      refine with_tabW bu9.tab bu9.bits (fun HT_ HW_ => ?_)
      generalize hwE : w6.drew = wE at *
      refine pure_ (i := 2) (N := some 43) (v := ?_) (a' := ?_) #[false, false, true, false, false, false, false, false, false, false, false, false, false, false, false, false] rfl rfl (any_of HT_.out (by kernel_rfl)) (fun _ _ _ h => h) (Or.inl ⟨by rfl, ?_⟩) ?_ ?_
      rotate_left
      · intro w'
        go_simp
        with_reducible rfl
      rotate_left
      · simp only [Act.put, List.setIfInBounds_toArray, List.set_cons_zero, List.set_cons_succ, i64_w, i32_w]
        rfl
      refine pure_ (i := 3) (N := some 44) (v := ?_) (a' := ?_) #[false, false, true, true, false, false, false, false, false, false, false, false, false, false, false, false] rfl rfl (any_of HT_.out (by kernel_rfl)) (fun _ _ _ h => h) (Or.inl ⟨by rfl, ?_⟩) ?_ ?_
      rotate_left
      · intro w'
        go_simp
        with_reducible rfl
      rotate_left
      · simp only [Act.put, List.setIfInBounds_toArray, List.set_cons_zero, List.set_cons_succ, i64_w, i32_w]
        rfl
      refine pure_ (i := 4) (N := some 45) (v := ?_) (a' := ?_) #[false, false, true, true, true, false, false, false, false, false, false, false, false, false, false, false] rfl rfl (any_of HT_.out (by kernel_rfl)) (fun _ _ _ h => h) (Or.inl ⟨by rfl, ?_⟩) ?_ ?_
      rotate_left
      · intro w'
        go_simp
        with_reducible rfl
      rotate_left
      · simp only [Act.put, List.setIfInBounds_toArray, List.set_cons_zero, List.set_cons_succ, i64_w, i32_w]
        rfl
      refine pure_ (i := 6) (N := some 47) (v := ?_) (a' := ?_) #[false, false, true, true, true, false, true, false, false, false, false, false, false, false, false, false] rfl rfl (any_of HT_.out (by kernel_rfl)) (fun _ _ _ h => h) (Or.inl ⟨by rfl, ?_⟩) ?_ ?_
      rotate_left
      · intro w'
        go_simp
        with_reducible rfl
      rotate_left
      · simp only [Act.put, List.setIfInBounds_toArray, List.set_cons_zero, List.set_cons_succ, i64_w, i32_w]
        rfl
      refine pure_ (i := 7) (N := some 48) (v := ?_) (a' := ?_) #[false, false, true, true, true, false, true, true, false, false, false, false, false, false, false, false] rfl rfl (any_of HT_.out (by kernel_rfl)) (fun _ _ _ h => h) (Or.inl ⟨by rfl, ?_⟩) ?_ ?_
      rotate_left
      · intro w'
        go_simp
        with_reducible rfl
      rotate_left
      · simp only [Act.put, List.setIfInBounds_toArray, List.set_cons_zero, List.set_cons_succ, i64_w, i32_w]
        rfl
      refine pure_ (i := 8) (N := some 49) (v := ?_) (a' := ?_) #[false, false, true, true, true, false, true, true, true, false, false, false, false, false, false, false] rfl rfl (any_of HT_.out (by kernel_rfl)) (fun _ _ _ h => h) (Or.inl ⟨by rfl, ?_⟩) ?_ ?_
      rotate_left
      · intro w'
        go_simp
        with_reducible rfl
      rotate_left
      · simp only [Act.put, List.setIfInBounds_toArray, List.set_cons_zero, List.set_cons_succ, i64_w, i32_w]
        rfl
      refine take_ (i := 0) (N := some 41) (v := ?_) (a' := ?_) #[true, false, true, true, true, false, true, true, true, false, false, false, false, false, false, false] rfl rfl (take_ofW HT_.out HW_.out (by kernel_rfl)) (fun _ _ _ h => h) (Or.inl ⟨by rfl, ?_⟩) hHeld ?_ ?_
      rotate_left
      · rintro w' s0
        go_simp
        with_reducible rfl
      rotate_left
      · simp only [Act.put, List.setIfInBounds_toArray, List.set_cons_zero, List.set_cons_succ, i64_w, i32_w]
        rfl
      refine take_ (i := 1) (N := some 42) (v := ?_) (a' := ?_) #[true, true, true, true, true, false, true, true, true, false, false, false, false, false, false, false] rfl rfl (take_ofW HT_.out HW_.out (by kernel_rfl)) (fun _ _ _ h => h) (Or.inl ⟨by rfl, ?_⟩) hHeld ?_ ?_
      rotate_left
      · rintro w' s0
        go_simp
        with_reducible rfl
      rotate_left
      · simp only [Act.put, List.setIfInBounds_toArray, List.set_cons_zero, List.set_cons_succ, i64_w, i32_w]
        rfl
      refine one_ (i := 5) (N := some 46) #[true, true, true, true, true, true, true, true, true, false, false, false, false, false, false, false] rfl rfl (one_of HT_.out (by kernel_rfl)) (by decide) (fun K hK => ?_)
      refine goes_ Try.func37 (by kernel_rfl) rfl #[.slice (some ad) 0 0] (by rfl) rfl rfl (by (try simp only [List.map_toArray, List.map_cons, List.map_nil]); first | done | rfl) ?_
      refine (HB1.out _ _ _).mono ?_
      rintro e w9 ⟨⟨T1, p1, rfl, hn1, hx1⟩, hb9⟩
      refine ⟨_, rfl, ?_⟩
      have HN1 := Aside0.mk hn1
      have HX1 := Aside0.mk hx1
      have HB9 := Aside0.mk hb9
      refine hK.out _ _ (pw_cell_below hb9 hHeld) (fun hH2 => ?_)
      clear hHeld hb9 hn1 hx1 hK K
      refine norm_ (a' := ?_) ?_ ?_
      rotate_left
      · simp only [Act.put, List.setIfInBounds_toArray, List.set_cons_zero, List.set_cons_succ, i64_w, i32_w]
        rfl
      refine one_ (i := 9) (N := some 50) #[true, true, true, true, true, true, true, true, true, true, false, false, false, false, false, false] rfl rfl (one_of HT_.out (by kernel_rfl)) (by decide) (fun K hK => ?_)
      refine goes_ Try.func37 (by kernel_rfl) rfl #[.slice (some ad) 0 0] (by rfl) rfl rfl (by (try simp only [List.map_toArray, List.map_cons, List.map_nil]); first | done | rfl) ?_
      refine (HB1.out _ _ _).mono ?_
      rintro e w10 ⟨⟨T2, p2, rfl, hn2, hx2⟩, hb10⟩
      refine ⟨_, rfl, ?_⟩
      have HN2 := Aside0.mk hn2
      have HX2 := Aside0.mk hx2
      have HB10 := Aside0.mk hb10
      refine hK.out _ _ (pw_cell_below hb10 hH2) (fun hH3 => ?_)
      clear hH2 hb10 hn2 hx2 hK K
      refine norm_ (a' := ?_) ?_ ?_
      rotate_left
      · simp only [Act.put, List.setIfInBounds_toArray, List.set_cons_zero, List.set_cons_succ, i64_w, i32_w]
        rfl
      refine pure_ (i := 10) (N := some 51) (v := ?_) (a' := ?_) #[true, true, true, true, true, true, true, true, true, true, true, false, false, false, false, false] rfl rfl (any_of HT_.out (by kernel_rfl)) (fun _ _ _ h => h) (Or.inl ⟨by rfl, ?_⟩) ?_ ?_
      rotate_left
      · intro w'
        go_simp
        with_reducible rfl
      rotate_left
      · simp only [Act.put, List.setIfInBounds_toArray, List.set_cons_zero, List.set_cons_succ, i64_w, i32_w]
        rfl
      refine pure_ (i := 11) (N := some 52) (v := ?_) (a' := ?_) #[true, true, true, true, true, true, true, true, true, true, true, true, false, false, false, false] rfl rfl (any_of HT_.out (by kernel_rfl)) (fun _ _ _ h => h) (Or.inl ⟨by rfl, ?_⟩) ?_ ?_
      rotate_left
      · intro w'
        go_simp
        with_reducible rfl
      rotate_left
      · simp only [Act.put, List.setIfInBounds_toArray, List.set_cons_zero, List.set_cons_succ, i64_w, i32_w]
        rfl
      refine one_ (i := 12) (N := none) #[true, true, true, true, true, true, true, true, true, true, true, true, true, false, false, false] rfl rfl (one_of HT_.out (by kernel_rfl)) (by decide) (fun K hK => ?_)
      obtain ⟨hz, hz3, hz4⟩ := HNG.out _ (below_step HB9.out HB10.out)
      clear hz4
      obtain ⟨q1, hq1⟩ := node_lo_ptr HN1.out
      subst hq1
      refine skip_ (w1 := ?_) (by rfl) rfl ?_ ?_
      rotate_left
      · go_simp
        rfl
      refine hK.out _ _ ((blk_cell (blk_far (blk_below HBXE.out (below_step HB9.out HB10.out)) (p := ⟨ng, 3, none⟩) (by simp) (.pointer q1)) 0).trans rfl) (fun hH4 => ?_)
      clear hK K hH3 hz hz3
      refine pure_ (i := 13) (N := some 53) (v := ?_) (a' := ?_) #[true, true, true, true, true, true, true, true, true, true, true, true, true, true, false, false] rfl rfl (any_of HT_.out (by kernel_rfl)) (fun _ _ _ h => h) (Or.inl ⟨by rfl, ?_⟩) ?_ ?_
      rotate_left
      · intro w'
        go_simp
        with_reducible rfl
      rotate_left
      · simp only [Act.put, List.setIfInBounds_toArray, List.set_cons_zero, List.set_cons_succ, i64_w, i32_w]
        rfl
      refine pure_ (i := 14) (N := some 54) (v := ?_) (a' := ?_) #[true, true, true, true, true, true, true, true, true, true, true, true, true, true, true, false] rfl rfl (any_of HT_.out (by kernel_rfl)) (fun _ _ _ h => h) (Or.inl ⟨by rfl, ?_⟩) ?_ ?_
      rotate_left
      · intro w'
        go_simp
        with_reducible rfl
      rotate_left
      · simp only [Act.put, List.setIfInBounds_toArray, List.set_cons_zero, List.set_cons_succ, i64_w, i32_w]
        rfl
      refine last_ (i := 15) (N := none) #[true, true, true, true, true, true, true, true, true, true, true, true, true, true, true, true] rfl rfl (one_of HT_.out (by kernel_rfl)) (by decide) (fun K hK => ?_)
      obtain ⟨_, _, hz4⟩ := HNG.out _ (below_step HB9.out HB10.out)
      obtain ⟨hz, hz3⟩ := hz4 (.pointer q1)
      clear hz4
      obtain ⟨q2, hq2⟩ := node_lo_ptr HN2.out
      subst hq2
      refine skip_ (w1 := ?_) (by rfl) rfl ?_ ?_
      rotate_left
      · go_simp
        rfl
      refine hK.out _ _ ?_
      clear hK K hz hz3
      refine done_ (done_of HT_.out (by kernel_rfl)) ?_
      have HBZ : Aside0 (RowKit.Below wE.heap.size wE w10) := ⟨below_step HB9.out HB10.out⟩
      have hngE : ng < wE.heap.size := blk_lt HNDE.out
      have HNZ1 := Aside0.mk (blk_below HNDE.out HBZ.out)
      have HNZ2 := Aside0.mk (blk_put HNZ1.out 3 (.pointer q1) rfl)
      have HNZ3 := Aside0.mk (blk_put HNZ2.out 4 (.pointer q2) rfl)
      have HBXZ := Aside0.mk (blk_far (blk_far (blk_below HBXE.out HBZ.out) (p := ⟨ng, 3, none⟩) (by simp) (.pointer q1)) (p := ⟨ng, 4, none⟩) (by simp) (.pointer q2))
      have HNA : Aside0 (NodeLo ((w10.setCell ⟨ng, 3, none⟩ (.pointer q1)).setCell ⟨ng, 4, none⟩ (.pointer q2)) wE.heap.size w9.heap.size T1 (.pointer q1)) :=
        ⟨((HN1.out.below HB10.out (Nat.le_refl _)).set hngE HNZ1.out 3 _).set hngE HNZ2.out 4 _⟩
      have hngE2 : ng < w9.heap.size := Nat.lt_of_lt_of_le hngE HB9.out.size
      have HNB : Aside0 (NodeLo ((w10.setCell ⟨ng, 3, none⟩ (.pointer q1)).setCell ⟨ng, 4, none⟩ (.pointer q2)) w9.heap.size w10.heap.size T2 (.pointer q2)) :=
        ⟨(HN2.out.set hngE2 HNZ1.out 3 _).set hngE2 HNZ2.out 4 _⟩
      have hWng : W.heap.size ≤ ng := by rw [HNGE.out]; exact Nat.le_refl _
      have HWZ : Aside0 (RowKit.Below W.heap.size W ((w10.setCell ⟨ng, 3, none⟩ (.pointer q1)).setCell ⟨ng, 4, none⟩ (.pointer q2))) :=
        ⟨((HBEE.out.trans (HBZ.out.mono (by omega))).setCell hWng _).setCell hWng _⟩
      have hsz : ((w10.setCell ⟨ng, 3, none⟩ (.pointer q1)).setCell ⟨ng, 4, none⟩ (.pointer q2)).heap.size = w10.heap.size := by simp [World.setCell]
      have HSZ := Aside0.mk hsz
      have hne := node_lo_ne HN1.out HN2.out (Nat.le_refl _)
      have HNE := Aside0.mk hne
      have hle9 : w9.heap.size ≤ w10.heap.size := HB10.out.size
      clear hsz hne
      obtain ⟨wz, hwz⟩ : ∃ wz, (w10.setCell ⟨ng, 3, none⟩ (.pointer q1)).setCell ⟨ng, 4, none⟩ (.pointer q2) = wz := ⟨_, rfl⟩
      rw [hwz] at HNZ3 HBXZ HNA HNB HWZ HSZ
      rw [hwz]
      clear hwz b0
      have b0 : wz.cell? ⟨ng + 1, 0, none⟩ = some (.pointer (some ⟨ng, 0, none⟩)) := (blk_cell HBXZ.out 0).trans rfl
      have HFIN : Aside0 (BuildDone W n [q0] (.returned (.pointer (some ⟨ng, 0, none⟩))) wz) := ⟨by
        refine ⟨⟨.node id0 nv 0 T1 T2, _, rfl, ⟨ng, _, _, _, rfl, hWng, by rw [HSZ.out]; omega, HNZ3.out, ?_, HNA.out.more (by omega) (by rw [HSZ.out]; omega), HNB.out.more (by omega) (by rw [HSZ.out]; exact Nat.le_refl _), HNE.out⟩, ⟨HI0'.out, HLN.out, ⟨by omega, by omega⟩, HW0'.out, HX1.out.1, HX2.out.1⟩, ⟨?_, ?_, HX1.out.2.1, HX2.out.2.1⟩, ?_⟩, HWZ.out⟩
        · have h1 := HV0'.out
          rw [HNN.out] at h1
          exact (h1.keep (Kp.below HWZ.out)).more HWZ.out.size
        · intro p hp
          have := HX1.out.2.2.mem_iff.1 hp
          simp at this
        · intro p hp
          have := HX2.out.2.2.mem_iff.1 hp
          simp at this
        · have h1 : (T1.pts ++ T2.pts).Perm [] := by
            refine (HX1.out.2.2.append HX2.out.2.2).trans ?_
            exact List.Perm.refl _
          have h2 : pt q0 = (id0, nv) := by rw [HQ0.out]; rfl
          show ((id0, nv) :: (T1.pts ++ T2.pts)).Perm [pt q0]
          rw [h2]
          exact h1.cons _⟩
      go_wp2_with fail
      go_ret
      exact HFIN.out
    case inr =>
      have h4a : ¬ c4 = 0 := by omega
      have h4b : ¬ (c4 : Int) = 0 := by omega
      have h4d : ¬ (0 : Int) = (c4 : Int) := by omega
      have h4c : (0 : Int) ≤ (c4 : Int) := by omega
      go_upto_region 9 with (go_at_call 53; refine HC.out.mono ?_; rintro e w6 ⟨rfl, ⟨Q4, hs4, hg4', hu4⟩, ht4⟩; have HT4 := Aside0.mk ht4; clear hs4 hg4' hu4 ht4)
      have HND6 := Aside0.mk (HT4.out.keep HND2.out HG0.out.1)
      have HBX6 := Aside0.mk (HT4.out.keep HBX2.out HG0.out.2)
      have b0 : w6.drew.cell? ⟨ng + 1, 0, none⟩ = some (.pointer (some ⟨ng, 0, none⟩)) := (blk_cell (blk_drew HBX6.out) 0).trans rfl
      have HNDE := Aside0.mk (blk_drew HND6.out)
      have HBXE := Aside0.mk (blk_drew HBX6.out)
      have HBEE : Aside0 (RowKit.Below W.heap.size W w6.drew) := ⟨by
        have h1 : RowKit.Below W.heap.size W wc := HBW0.out.trans (HBC.out.mono HBW0.out.size)
        have h2 : RowKit.Below W.heap.size W w6 := belowB_turns h1 HT4.out (fun j e => by subst e; have := HNGE.out; have := HGL.out; omega) h1.size
        exact h2.drew⟩
      have HNG : Aside0 (∀ w9, Below w6.drew.heap.size w6.drew w9 → w9.frozen? ⟨ng, 3, none⟩ = false ∧ w9.cell? ⟨ng, 3, none⟩ = some (.pointer none) ∧ ∀ u, (w9.setCell ⟨ng, 3, none⟩ u).frozen? ⟨ng, 4, none⟩ = false ∧ (w9.setCell ⟨ng, 3, none⟩ u).cell? ⟨ng, 4, none⟩ = some (.pointer none)) := ⟨fun w9 hb => ⟨blk_frozen (blk_below (blk_drew HND6.out) hb) 3, (blk_cell (blk_below (blk_drew HND6.out) hb) 3).trans rfl, fun u => ⟨blk_frozen (blk_put (blk_below (blk_drew HND6.out) hb) 3 u rfl) 4, (blk_cell (blk_put (blk_below (blk_drew HND6.out) hb) 3 u rfl) 4).trans rfl⟩⟩⟩
      refine start_ (n := 16) (S := fun w' => w'.cell? ⟨ng + 1, 0, none⟩ = some (.pointer (some ⟨ng, 0, none⟩))) (ds := [15]) #[false, false, false, false, false, false, false, false, false, false, false, false, false, false, false, false] (by kernel_rfl) rfl rfl b0 (fun hHeld => ?_)
      refine with_tabW bu9.tab bu9.bits (fun HT_ HW_ => ?_)
      generalize hwE : w6.drew = wE at *
      refine pure_ (i := 2) (N := some 43) (v := ?_) (a' := ?_) #[false, false, true, false, false, false, false, false, false, false, false, false, false, false, false, false] rfl rfl (any_of HT_.out (by kernel_rfl)) (fun _ _ _ h => h) (Or.inl ⟨by rfl, ?_⟩) ?_ ?_
      rotate_left
      · intro w'
        go_simp
        with_reducible rfl
      rotate_left
      · simp only [Act.put, List.setIfInBounds_toArray, List.set_cons_zero, List.set_cons_succ, i64_w, i32_w]
        rfl
      refine pure_ (i := 3) (N := some 44) (v := ?_) (a' := ?_) #[false, false, true, true, false, false, false, false, false, false, false, false, false, false, false, false] rfl rfl (any_of HT_.out (by kernel_rfl)) (fun _ _ _ h => h) (Or.inl ⟨by rfl, ?_⟩) ?_ ?_
      rotate_left
      · intro w'
        go_simp
        with_reducible rfl
      rotate_left
      · simp only [Act.put, List.setIfInBounds_toArray, List.set_cons_zero, List.set_cons_succ, i64_w, i32_w]
        rfl
      refine pure_ (i := 4) (N := some 45) (v := ?_) (a' := ?_) #[false, false, true, true, true, false, false, false, false, false, false, false, false, false, false, false] rfl rfl (any_of HT_.out (by kernel_rfl)) (fun _ _ _ h => h) (Or.inl ⟨by rfl, ?_⟩) ?_ ?_
      rotate_left
      · intro w'
        go_simp
        with_reducible rfl
      rotate_left
      · simp only [Act.put, List.setIfInBounds_toArray, List.set_cons_zero, List.set_cons_succ, i64_w, i32_w]
        rfl
      refine pure_ (i := 6) (N := some 47) (v := ?_) (a' := ?_) #[false, false, true, true, true, false, true, false, false, false, false, false, false, false, false, false] rfl rfl (any_of HT_.out (by kernel_rfl)) (fun _ _ _ h => h) (Or.inl ⟨by rfl, ?_⟩) ?_ ?_
      rotate_left
      · intro w'
        go_simp
        with_reducible rfl
      rotate_left
      · simp only [Act.put, List.setIfInBounds_toArray, List.set_cons_zero, List.set_cons_succ, i64_w, i32_w]
        rfl
      refine pure_ (i := 7) (N := some 48) (v := ?_) (a' := ?_) #[false, false, true, true, true, false, true, true, false, false, false, false, false, false, false, false] rfl rfl (any_of HT_.out (by kernel_rfl)) (fun _ _ _ h => h) (Or.inl ⟨by rfl, ?_⟩) ?_ ?_
      rotate_left
      · intro w'
        go_simp
        with_reducible rfl
      rotate_left
      · simp only [Act.put, List.setIfInBounds_toArray, List.set_cons_zero, List.set_cons_succ, i64_w, i32_w]
        rfl
      refine pure_ (i := 8) (N := some 49) (v := ?_) (a' := ?_) #[false, false, true, true, true, false, true, true, true, false, false, false, false, false, false, false] rfl rfl (any_of HT_.out (by kernel_rfl)) (fun _ _ _ h => h) (Or.inl ⟨by rfl, ?_⟩) ?_ ?_
      rotate_left
      · intro w'
        go_simp
        with_reducible rfl
      rotate_left
      · simp only [Act.put, List.setIfInBounds_toArray, List.set_cons_zero, List.set_cons_succ, i64_w, i32_w]
        rfl
      refine take_ (i := 0) (N := some 41) (v := ?_) (a' := ?_) #[true, false, true, true, true, false, true, true, true, false, false, false, false, false, false, false] rfl rfl (take_ofW HT_.out HW_.out (by kernel_rfl)) (fun _ _ _ h => h) (Or.inl ⟨by rfl, ?_⟩) hHeld ?_ ?_
      rotate_left
      · rintro w' s0
        go_simp
        with_reducible rfl
      rotate_left
      · simp only [Act.put, List.setIfInBounds_toArray, List.set_cons_zero, List.set_cons_succ, i64_w, i32_w]
        rfl
      refine take_ (i := 1) (N := some 42) (v := ?_) (a' := ?_) #[true, true, true, true, true, false, true, true, true, false, false, false, false, false, false, false] rfl rfl (take_ofW HT_.out HW_.out (by kernel_rfl)) (fun _ _ _ h => h) (Or.inl ⟨by rfl, ?_⟩) hHeld ?_ ?_
      rotate_left
      · rintro w' s0
        go_simp
        with_reducible rfl
      rotate_left
      · simp only [Act.put, List.setIfInBounds_toArray, List.set_cons_zero, List.set_cons_succ, i64_w, i32_w]
        rfl
      refine one_ (i := 5) (N := some 46) #[true, true, true, true, true, true, true, true, true, false, false, false, false, false, false, false] rfl rfl (one_of HT_.out (by kernel_rfl)) (by decide) (fun K hK => ?_)
      refine goes_ Try.func37 (by kernel_rfl) rfl #[.slice (some ad) 0 c4] (by rfl) rfl rfl (by (try simp only [List.map_toArray, List.map_cons, List.map_nil]); first | done | rfl) ?_
      refine (HB1.out _ _ _).mono ?_
      rintro e w9 ⟨⟨T1, p1, rfl, hn1, hx1⟩, hb9⟩
      refine ⟨_, rfl, ?_⟩
      have HN1 := Aside0.mk hn1
      have HX1 := Aside0.mk hx1
      have HB9 := Aside0.mk hb9
      refine hK.out _ _ (pw_cell_below hb9 hHeld) (fun hH2 => ?_)
      clear hHeld hb9 hn1 hx1 hK K
      refine norm_ (a' := ?_) ?_ ?_
      rotate_left
      · simp only [Act.put, List.setIfInBounds_toArray, List.set_cons_zero, List.set_cons_succ, i64_w, i32_w]
        rfl
      refine one_ (i := 9) (N := some 50) #[true, true, true, true, true, true, true, true, true, true, false, false, false, false, false, false] rfl rfl (one_of HT_.out (by kernel_rfl)) (by decide) (fun K hK => ?_)
      refine goes_ Try.func37 (by kernel_rfl) rfl #[.slice (some ad) 0 c4] (by rfl) rfl rfl (by (try simp only [List.map_toArray, List.map_cons, List.map_nil]); first | done | rfl) ?_
      refine (HB1.out _ _ _).mono ?_
      rintro e w10 ⟨⟨T2, p2, rfl, hn2, hx2⟩, hb10⟩
      refine ⟨_, rfl, ?_⟩
      have HN2 := Aside0.mk hn2
      have HX2 := Aside0.mk hx2
      have HB10 := Aside0.mk hb10
      refine hK.out _ _ (pw_cell_below hb10 hH2) (fun hH3 => ?_)
      clear hH2 hb10 hn2 hx2 hK K
      refine norm_ (a' := ?_) ?_ ?_
      rotate_left
      · simp only [Act.put, List.setIfInBounds_toArray, List.set_cons_zero, List.set_cons_succ, i64_w, i32_w]
        rfl
      refine pure_ (i := 10) (N := some 51) (v := ?_) (a' := ?_) #[true, true, true, true, true, true, true, true, true, true, true, false, false, false, false, false] rfl rfl (any_of HT_.out (by kernel_rfl)) (fun _ _ _ h => h) (Or.inl ⟨by rfl, ?_⟩) ?_ ?_
      rotate_left
      · intro w'
        go_simp
        with_reducible rfl
      rotate_left
      · simp only [Act.put, List.setIfInBounds_toArray, List.set_cons_zero, List.set_cons_succ, i64_w, i32_w]
        rfl
      refine pure_ (i := 11) (N := some 52) (v := ?_) (a' := ?_) #[true, true, true, true, true, true, true, true, true, true, true, true, false, false, false, false] rfl rfl (any_of HT_.out (by kernel_rfl)) (fun _ _ _ h => h) (Or.inl ⟨by rfl, ?_⟩) ?_ ?_
      rotate_left
      · intro w'
        go_simp
        with_reducible rfl
      rotate_left
      · simp only [Act.put, List.setIfInBounds_toArray, List.set_cons_zero, List.set_cons_succ, i64_w, i32_w]
        rfl
      refine one_ (i := 12) (N := none) #[true, true, true, true, true, true, true, true, true, true, true, true, true, false, false, false] rfl rfl (one_of HT_.out (by kernel_rfl)) (by decide) (fun K hK => ?_)
      obtain ⟨hz, hz3, hz4⟩ := HNG.out _ (below_step HB9.out HB10.out)
      clear hz4
      obtain ⟨q1, hq1⟩ := node_lo_ptr HN1.out
      subst hq1
      refine skip_ (w1 := ?_) (by rfl) rfl ?_ ?_
      rotate_left
      · go_simp
        rfl
      refine hK.out _ _ ((blk_cell (blk_far (blk_below HBXE.out (below_step HB9.out HB10.out)) (p := ⟨ng, 3, none⟩) (by simp) (.pointer q1)) 0).trans rfl) (fun hH4 => ?_)
      clear hK K hH3 hz hz3
      refine pure_ (i := 13) (N := some 53) (v := ?_) (a' := ?_) #[true, true, true, true, true, true, true, true, true, true, true, true, true, true, false, false] rfl rfl (any_of HT_.out (by kernel_rfl)) (fun _ _ _ h => h) (Or.inl ⟨by rfl, ?_⟩) ?_ ?_
      rotate_left
      · intro w'
        go_simp
        with_reducible rfl
      rotate_left
      · simp only [Act.put, List.setIfInBounds_toArray, List.set_cons_zero, List.set_cons_succ, i64_w, i32_w]
        rfl
      refine pure_ (i := 14) (N := some 54) (v := ?_) (a' := ?_) #[true, true, true, true, true, true, true, true, true, true, true, true, true, true, true, false] rfl rfl (any_of HT_.out (by kernel_rfl)) (fun _ _ _ h => h) (Or.inl ⟨by rfl, ?_⟩) ?_ ?_
      rotate_left
      · intro w'
        go_simp
        with_reducible rfl
      rotate_left
      · simp only [Act.put, List.setIfInBounds_toArray, List.set_cons_zero, List.set_cons_succ, i64_w, i32_w]
        rfl
      refine last_ (i := 15) (N := none) #[true, true, true, true, true, true, true, true, true, true, true, true, true, true, true, true] rfl rfl (one_of HT_.out (by kernel_rfl)) (by decide) (fun K hK => ?_)
      obtain ⟨_, _, hz4⟩ := HNG.out _ (below_step HB9.out HB10.out)
      obtain ⟨hz, hz3⟩ := hz4 (.pointer q1)
      clear hz4
      obtain ⟨q2, hq2⟩ := node_lo_ptr HN2.out
      subst hq2
      refine skip_ (w1 := ?_) (by rfl) rfl ?_ ?_
      rotate_left
      · go_simp
        rfl
      refine hK.out _ _ ?_
      clear hK K hz hz3
      refine done_ (done_of HT_.out (by kernel_rfl)) ?_
      have HBZ : Aside0 (RowKit.Below wE.heap.size wE w10) := ⟨below_step HB9.out HB10.out⟩
      have hngE : ng < wE.heap.size := blk_lt HNDE.out
      have HNZ1 := Aside0.mk (blk_below HNDE.out HBZ.out)
      have HNZ2 := Aside0.mk (blk_put HNZ1.out 3 (.pointer q1) rfl)
      have HNZ3 := Aside0.mk (blk_put HNZ2.out 4 (.pointer q2) rfl)
      have HBXZ := Aside0.mk (blk_far (blk_far (blk_below HBXE.out HBZ.out) (p := ⟨ng, 3, none⟩) (by simp) (.pointer q1)) (p := ⟨ng, 4, none⟩) (by simp) (.pointer q2))
      have HNA : Aside0 (NodeLo ((w10.setCell ⟨ng, 3, none⟩ (.pointer q1)).setCell ⟨ng, 4, none⟩ (.pointer q2)) wE.heap.size w9.heap.size T1 (.pointer q1)) :=
        ⟨((HN1.out.below HB10.out (Nat.le_refl _)).set hngE HNZ1.out 3 _).set hngE HNZ2.out 4 _⟩
      have hngE2 : ng < w9.heap.size := Nat.lt_of_lt_of_le hngE HB9.out.size
      have HNB : Aside0 (NodeLo ((w10.setCell ⟨ng, 3, none⟩ (.pointer q1)).setCell ⟨ng, 4, none⟩ (.pointer q2)) w9.heap.size w10.heap.size T2 (.pointer q2)) :=
        ⟨(HN2.out.set hngE2 HNZ1.out 3 _).set hngE2 HNZ2.out 4 _⟩
      have hWng : W.heap.size ≤ ng := by rw [HNGE.out]; exact Nat.le_refl _
      have HWZ : Aside0 (RowKit.Below W.heap.size W ((w10.setCell ⟨ng, 3, none⟩ (.pointer q1)).setCell ⟨ng, 4, none⟩ (.pointer q2))) :=
        ⟨((HBEE.out.trans (HBZ.out.mono (by omega))).setCell hWng _).setCell hWng _⟩
      have hsz : ((w10.setCell ⟨ng, 3, none⟩ (.pointer q1)).setCell ⟨ng, 4, none⟩ (.pointer q2)).heap.size = w10.heap.size := by simp [World.setCell]
      have HSZ := Aside0.mk hsz
      have hne := node_lo_ne HN1.out HN2.out (Nat.le_refl _)
      have HNE := Aside0.mk hne
      have hle9 : w9.heap.size ≤ w10.heap.size := HB10.out.size
      clear hsz hne
      obtain ⟨wz, hwz⟩ : ∃ wz, (w10.setCell ⟨ng, 3, none⟩ (.pointer q1)).setCell ⟨ng, 4, none⟩ (.pointer q2) = wz := ⟨_, rfl⟩
      rw [hwz] at HNZ3 HBXZ HNA HNB HWZ HSZ
      rw [hwz]
      clear hwz b0
      have b0 : wz.cell? ⟨ng + 1, 0, none⟩ = some (.pointer (some ⟨ng, 0, none⟩)) := (blk_cell HBXZ.out 0).trans rfl
      have HFIN : Aside0 (BuildDone W n [q0] (.returned (.pointer (some ⟨ng, 0, none⟩))) wz) := ⟨by
        refine ⟨⟨.node id0 nv 0 T1 T2, _, rfl, ⟨ng, _, _, _, rfl, hWng, by rw [HSZ.out]; omega, HNZ3.out, ?_, HNA.out.more (by omega) (by rw [HSZ.out]; omega), HNB.out.more (by omega) (by rw [HSZ.out]; exact Nat.le_refl _), HNE.out⟩, ⟨HI0'.out, HLN.out, ⟨by omega, by omega⟩, HW0'.out, HX1.out.1, HX2.out.1⟩, ⟨?_, ?_, HX1.out.2.1, HX2.out.2.1⟩, ?_⟩, HWZ.out⟩
        · have h1 := HV0'.out
          rw [HNN.out] at h1
          exact (h1.keep (Kp.below HWZ.out)).more HWZ.out.size
        · intro p hp
          have := HX1.out.2.2.mem_iff.1 hp
          simp at this
        · intro p hp
          have := HX2.out.2.2.mem_iff.1 hp
          simp at this
        · have h1 : (T1.pts ++ T2.pts).Perm [] := by
            refine (HX1.out.2.2.append HX2.out.2.2).trans ?_
            exact List.Perm.refl _
          have h2 : pt q0 = (id0, nv) := by rw [HQ0.out]; rfl
          show ((id0, nv) :: (T1.pts ++ T2.pts)).Perm [pt q0]
          rw [h2]
          exact h1.cons _⟩
      go_wp2_with fail
      go_ret
      exact HFIN.out
end Go.Proofs.Ytealiaafdkhonaa.Vp

namespace Go.Proofs.Ytealiaafdkhonaa.Vp
open Go.RowKit Go.Sort Mb Base Sq Go.Proofs.YtealiaafdkhonaaW.PrintWords Go.Proofs.YtealiaafdkhonaaW.PrintLast Go.Proofs.YtealiaafdkhonaaW.PrintMore
set_option linter.unusedVariables false
set_option linter.unusedSimpArgs false
set_option maxRecDepth 100000 in
set_option maxHeartbeats 8000000 in
theorem build_one1 (W : World) (n : Nat) (A : Option Addr) (q0 : E) (h : PRead W A n [q0]) (hn1 : 1 ≤ n) (hn2 : n ≤ 16) :
    Calls Try.prog 37 #[.slice A 1 1] W (BuildDone W n [q0]) := by
  obtain ⟨gA, oA, hA, c0, c1⟩ := h.at_ 0 (by simp)
  subst hA
  obtain ⟨hv0, hi0, hl0, hw0⟩ := h.ok q0 (by simp)
  obtain ⟨AN, cN, ev0, hCN, _⟩ := hv0.form (by have := (isV_len hi0).2; omega)
  have HV0 := Aside0.mk hv0
  have HI0 := Aside0.mk hi0
  obtain ⟨id0, hid⟩ : ∃ id0, q0.1 = id0 := ⟨_, rfl⟩
  obtain ⟨nv, hnv⟩ : ∃ nv, q0.2.1 = nv := ⟨_, rfl⟩
  have HLN : Aside0 (nv.length = n) := ⟨by rw [← hnv]; exact hl0⟩
  have HV0' : Aside0 (VecAt W W.heap.size (.slice AN nv.length cN) nv) := ⟨by rw [← hnv, ← ev0]; exact hv0⟩
  have HI0' : Aside0 (isV nv = true) := ⟨by rw [← hnv]; exact hi0⟩
  have HW0' : Aside0 ((Lit.int .i64 id0).wf = true) := ⟨by rw [← hid]; exact hw0⟩
  have HQ0 := Aside0.mk (show q0 = (id0, nv, .slice AN nv.length cN) from Prod.ext hid (Prod.ext hnv (by rw [← hnv]; exact ev0)))
  obtain ⟨nn, hnn⟩ : ∃ nn, nv.length = nn := ⟨_, rfl⟩
  have HNN := Aside0.mk hnn
  have d0 : W.cell? ⟨gA, oA, none⟩ = some (.int .i64 id0) := by simpa [hid] using c0
  have d1 : W.cell? ⟨gA, oA + 1, none⟩ = some (.slice AN nn cN) := by simpa [ev0, hnv, hnn] using c1
  clear c0 c1 h hv0 hi0 hw0 ev0 hCN hid hnv hnn hl0
  obtain ⟨ng, hng⟩ : ∃ ng, W.heap.size = ng := ⟨_, rfl⟩
  have HNGE := Aside0.mk hng
  obtain ⟨w1, hw1⟩ : ∃ w1, (W.alloc (.cells #[.int .i64 id0, .slice AN nn cN, .int .i64 0, .pointer none, .pointer none] 104)).alloc (.cells #[.pointer (some ⟨ng, 0, none⟩)] 65) = w1 := ⟨_, rfl⟩
  have HBW1 : Aside0 (Below ng W w1) := ⟨by rw [← hw1, ← hng]; exact below_alloc (below_alloc (Below.refl _ _) _) _⟩
  have HND1 : Aside0 (w1.heap[ng]? = some (.cells #[.int .i64 id0, .slice AN nn cN, .int .i64 0, .pointer none, .pointer none] 104 (0, 0))) := ⟨by rw [← hw1, ← hng]; exact blk_alloc (blk_new _ _) _⟩
  have HBX1 : Aside0 (w1.heap[ng + 1]? = some (.cells #[.pointer (some ⟨ng, 0, none⟩)] 65 (0, 0))) := ⟨by
    rw [← hw1, ← hng]
    have := blk_new (W.alloc (.cells #[.int .i64 id0, .slice AN nn cN, .int .i64 0, .pointer none, .pointer none] 104)) (.cells #[.pointer (some ⟨W.heap.size, 0, none⟩)] 65)
    simpa using this⟩
  have HSZ1 : Aside0 (w1.heap.size = ng + 2) := ⟨by rw [← hw1, ← hng]; simp⟩
  have HBW0 : Aside0 (RowKit.Below W.heap.size W w1) := ⟨by rw [hng]; exact HBW1.out⟩
  have HCL : Aside0 (∀ (ad : Addr) (c' : Nat), Calls Try.prog 52 #[.slice (some ad) 0 c'] w1 (ClonedP w1 n [])) := ⟨fun ad c' => clonep_calls ad c' n [] w1 ⟨fun h => by simp at h, fun q hq => by cases hq⟩ (by simp)⟩
  have HW1E := Aside0.mk hw1
  clear hw1

  have hd4 : decide ((0 : Int) < 0) = false := by rfl
  go_enter Try.func37, Try.ntmps37
  go_upto_region 4 with (fail)
  rw [HW1E.out]
  clear hng d0 d1
  go_cut [4] (fun v4 w2 => ∃ (g c4 : Nat), v4 = .slice (some ⟨g, 0, none⟩) 0 c4 ∧ ng + 2 ≤ g ∧ Aside0 (RowIs w2 g []) ∧ Aside0 (Below w1.heap.size w1 w2))
  case first =>
    go_wp2_with (go_at_call 52; (with_reducible refine (HCL.out _ _).mono ?_); rintro e w9 ⟨⟨A9, c9, rfl, hle9, hok9, g9, rfl, hg9, hr9⟩, hb9⟩; have HR9 := Aside0.mk hr9; have HB9 := Aside0.mk hb9; clear hok9 hr9 hb9)
    go_meet
    exact ⟨g9, c9, rfl, by rw [← HSZ1.out]; exact hg9, HR9, HB9⟩
  case rest =>
    obtain ⟨g, c4, rfl, hg4, HRW, HBC⟩ := hcut
    have HND2 := Aside0.mk (blk_below HND1.out HBC.out)
    have HBX2 := Aside0.mk (blk_below HBX1.out HBC.out)
    have HVN2 : Aside0 (VecAt wc wc.heap.size (.slice AN nn cN) nv) := ⟨by
      have h1 := HV0'.out
      rw [HNN.out] at h1
      exact ((h1.keep (Kp.below HBW0.out)).more HBW0.out.size |>.keep (Kp.below HBC.out)).more HBC.out.size⟩
    have HSA2 : Aside0 (SortAt wc (ng + 1) ng nv g []) := ⟨⟨HRW.out, fun q hq => absurd hq (by simp), ⟨HBX2.out, ⟨_, _, _, _, _, HND2.out, HVN2.out⟩, HI0'.out⟩⟩⟩
    have HC := Aside0.mk (sortStable_calls wc (ng + 1) ng nv g [] c4 HSA2.out 0 rfl (by omega))
    obtain ⟨ad, had⟩ : ∃ ad : Addr, ad = ⟨g, 0, none⟩ := ⟨_, rfl⟩
    have HAD := Aside0.mk had
    rw [← had] at HC
    rw [← had]
    clear had
    have HB1 : Aside0 (∀ (A : Option Addr) (c : Nat) (w : World), Calls Try.prog 37 #[.slice A 0 c] w (BuildDone w n [])) := ⟨fun A c w => build_none w n A c⟩
    have hg0 : ng ≠ g ∧ ng + 1 ≠ g := ⟨by omega, by omega⟩
    have HG0 := Aside0.mk hg0
    have HGL := Aside0.mk hg4
    clear hg0
    rcases Nat.eq_zero_or_pos c4 with h4 | h4
    case inl =>
      subst h4
      go_upto_region 9 with (go_at_call 53; refine HC.out.mono ?_; rintro e w6 ⟨rfl, ⟨Q4, hs4, hg4', hu4⟩, ht4⟩; have HT4 := Aside0.mk ht4; clear hs4 hg4' hu4 ht4)
      have HND6 := Aside0.mk (HT4.out.keep HND2.out HG0.out.1)
      have HBX6 := Aside0.mk (HT4.out.keep HBX2.out HG0.out.2)
      have b0 : w6.drew.cell? ⟨ng + 1, 0, none⟩ = some (.pointer (some ⟨ng, 0, none⟩)) := (blk_cell (blk_drew HBX6.out) 0).trans rfl
      have HNDE := Aside0.mk (blk_drew HND6.out)
      have HBXE := Aside0.mk (blk_drew HBX6.out)
      have HBEE : Aside0 (RowKit.Below W.heap.size W w6.drew) := ⟨by
        have h1 : RowKit.Below W.heap.size W wc := HBW0.out.trans (HBC.out.mono HBW0.out.size)
        have h2 : RowKit.Below W.heap.size W w6 := belowB_turns h1 HT4.out (fun j e => by subst e; have := HNGE.out; have := HGL.out; omega) h1.size
        exact h2.drew⟩
      have HNG : Aside0 (∀ w9, Below w6.drew.heap.size w6.drew w9 → w9.frozen? ⟨ng, 3, none⟩ = false ∧ w9.cell? ⟨ng, 3, none⟩ = some (.pointer none) ∧ ∀ u, (w9.setCell ⟨ng, 3, none⟩ u).frozen? ⟨ng, 4, none⟩ = false ∧ (w9.setCell ⟨ng, 3, none⟩ u).cell? ⟨ng, 4, none⟩ = some (.pointer none)) := ⟨fun w9 hb => ⟨blk_frozen (blk_below (blk_drew HND6.out) hb) 3, (blk_cell (blk_below (blk_drew HND6.out) hb) 3).trans rfl, fun u => ⟨blk_frozen (blk_put (blk_below (blk_drew HND6.out) hb) 3 u rfl) 4, (blk_cell (blk_put (blk_below (blk_drew HND6.out) hb) 3 u rfl) 4).trans rfl⟩⟩⟩
      refine start_ (n := 16) (S := fun w' => w'.cell? ⟨ng + 1, 0, none⟩ = some (.pointer (some ⟨ng, 0, none⟩))) (ds := [15]) #[false, false, false, false, false, false, false, false, false, false, false, false, false, false, false, false] (by kernel_rfl) rfl rfl b0 (fun hHeld => ?_)
      refine with_tabW bu9.tab bu9.bits (fun HT_ HW_ => ?_)
      generalize hwE : w6.drew = wE at *
      refine pure_ (i := 2) (N := some 43) (v := ?_) (a' := ?_) #[false, false, true, false, false, false, false, false, false, false, false, false, false, false, false, false] rfl rfl (any_of HT_.out (by kernel_rfl)) (fun _ _ _ h => h) (Or.inl ⟨by rfl, ?_⟩) ?_ ?_
      rotate_left
      · intro w'
        go_simp
        with_reducible rfl
      rotate_left
      · simp only [Act.put, List.setIfInBounds_toArray, List.set_cons_zero, List.set_cons_succ, i64_w, i32_w]
        rfl
      refine pure_ (i := 3) (N := some 44) (v := ?_) (a' := ?_) #[false, false, true, true, false, false, false, false, false, false, false, false, false, false, false, false] rfl rfl (any_of HT_.out (by kernel_rfl)) (fun _ _ _ h => h) (Or.inl ⟨by rfl, ?_⟩) ?_ ?_
      rotate_left
      · intro w'
        go_simp
        with_reducible rfl
      rotate_left
      · simp only [Act.put, List.setIfInBounds_toArray, List.set_cons_zero, List.set_cons_succ, i64_w, i32_w]
        rfl
      refine pure_ (i := 4) (N := some 45) (v := ?_) (a' := ?_) #[false, false, true, true, true, false, false, false, false, false, false, false, false, false, false, false] rfl rfl (any_of HT_.out (by kernel_rfl)) (fun _ _ _ h => h) (Or.inl ⟨by rfl, ?_⟩) ?_ ?_
      rotate_left
      · intro w'
        go_simp
        with_reducible rfl
      rotate_left
      · simp only [Act.put, List.setIfInBounds_toArray, List.set_cons_zero, List.set_cons_succ, i64_w, i32_w]
        rfl
      refine pure_ (i := 6) (N := some 47) (v := ?_) (a' := ?_) #[false, false, true, true, true, false, true, false, false, false, false, false, false, false, false, false] rfl rfl (any_of HT_.out (by kernel_rfl)) (fun _ _ _ h => h) (Or.inl ⟨by rfl, ?_⟩) ?_ ?_
      rotate_left
      · intro w'
        go_simp
        with_reducible rfl
      rotate_left
      · simp only [Act.put, List.setIfInBounds_toArray, List.set_cons_zero, List.set_cons_succ, i64_w, i32_w]
        rfl
      refine pure_ (i := 7) (N := some 48) (v := ?_) (a' := ?_) #[false, false, true, true, true, false, true, true, false, false, false, false, false, false, false, false] rfl rfl (any_of HT_.out (by kernel_rfl)) (fun _ _ _ h => h) (Or.inl ⟨by rfl, ?_⟩) ?_ ?_
      rotate_left
      · intro w'
        go_simp
        with_reducible rfl
      rotate_left
      · simp only [Act.put, List.setIfInBounds_toArray, List.set_cons_zero, List.set_cons_succ, i64_w, i32_w]
        rfl
      refine pure_ (i := 8) (N := some 49) (v := ?_) (a' := ?_) #[false, false, true, true, true, false, true, true, true, false, false, false, false, false, false, false] rfl rfl (any_of HT_.out (by kernel_rfl)) (fun _ _ _ h => h) (Or.inl ⟨by rfl, ?_⟩) ?_ ?_
      rotate_left
      · intro w'
        go_simp
        with_reducible rfl
      rotate_left
      · simp only [Act.put, List.setIfInBounds_toArray, List.set_cons_zero, List.set_cons_succ, i64_w, i32_w]
        rfl
      refine take_ (i := 0) (N := some 41) (v := ?_) (a' := ?_) #[true, false, true, true, true, false, true, true, true, false, false, false, false, false, false, false] rfl rfl (take_ofW HT_.out HW_.out (by kernel_rfl)) (fun _ _ _ h => h) (Or.inl ⟨by rfl, ?_⟩) hHeld ?_ ?_
      rotate_left
      · rintro w' s0
        go_simp
        with_reducible rfl
      rotate_left
      · simp only [Act.put, List.setIfInBounds_toArray, List.set_cons_zero, List.set_cons_succ, i64_w, i32_w]
        rfl
      refine take_ (i := 1) (N := some 42) (v := ?_) (a' := ?_) #[true, true, true, true, true, false, true, true, true, false, false, false, false, false, false, false] rfl rfl (take_ofW HT_.out HW_.out (by kernel_rfl)) (fun _ _ _ h => h) (Or.inl ⟨by rfl, ?_⟩) hHeld ?_ ?_
      rotate_left
      · rintro w' s0
        go_simp
        with_reducible rfl
      rotate_left
      · simp only [Act.put, List.setIfInBounds_toArray, List.set_cons_zero, List.set_cons_succ, i64_w, i32_w]
        rfl
      refine one_ (i := 5) (N := some 46) #[true, true, true, true, true, true, true, true, true, false, false, false, false, false, false, false] rfl rfl (one_of HT_.out (by kernel_rfl)) (by decide) (fun K hK => ?_)
      refine goes_ Try.func37 (by kernel_rfl) rfl #[.slice (some ad) 0 0] (by rfl) rfl rfl (by (try simp only [List.map_toArray, List.map_cons, List.map_nil]); first | done | rfl) ?_
      refine (HB1.out _ _ _).mono ?_
      rintro e w9 ⟨⟨T1, p1, rfl, hn1, hx1⟩, hb9⟩
      refine ⟨_, rfl, ?_⟩
      have HN1 := Aside0.mk hn1
      have HX1 := Aside0.mk hx1
      have HB9 := Aside0.mk hb9
      refine hK.out _ _ (pw_cell_below hb9 hHeld) (fun hH2 => ?_)
      clear hHeld hb9 hn1 hx1 hK K
      refine norm_ (a' := ?_) ?_ ?_
      rotate_left
      · simp only [Act.put, List.setIfInBounds_toArray, List.set_cons_zero, List.set_cons_succ, i64_w, i32_w]
        rfl
      refine one_ (i := 9) (N := some 50) #[true, true, true, true, true, true, true, true, true, true, false, false, false, false, false, false] rfl rfl (one_of HT_.out (by kernel_rfl)) (by decide) (fun K hK => ?_)
      refine goes_ Try.func37 (by kernel_rfl) rfl #[.slice (some ad) 0 0] (by rfl) rfl rfl (by (try simp only [List.map_toArray, List.map_cons, List.map_nil]); first | done | rfl) ?_
      refine (HB1.out _ _ _).mono ?_
      rintro e w10 ⟨⟨T2, p2, rfl, hn2, hx2⟩, hb10⟩
      refine ⟨_, rfl, ?_⟩
      have HN2 := Aside0.mk hn2
      have HX2 := Aside0.mk hx2
      have HB10 := Aside0.mk hb10
      refine hK.out _ _ (pw_cell_below hb10 hH2) (fun hH3 => ?_)
      clear hH2 hb10 hn2 hx2 hK K
      refine norm_ (a' := ?_) ?_ ?_
      rotate_left
      · simp only [Act.put, List.setIfInBounds_toArray, List.set_cons_zero, List.set_cons_succ, i64_w, i32_w]
        rfl
      refine pure_ (i := 10) (N := some 51) (v := ?_) (a' := ?_) #[true, true, true, true, true, true, true, true, true, true, true, false, false, false, false, false] rfl rfl (any_of HT_.out (by kernel_rfl)) (fun _ _ _ h => h) (Or.inl ⟨by rfl, ?_⟩) ?_ ?_
      rotate_left
      · intro w'
        go_simp
        with_reducible rfl
      rotate_left
      · simp only [Act.put, List.setIfInBounds_toArray, List.set_cons_zero, List.set_cons_succ, i64_w, i32_w]
        rfl
      refine pure_ (i := 11) (N := some 52) (v := ?_) (a' := ?_) #[true, true, true, true, true, true, true, true, true, true, true, true, false, false, false, false] rfl rfl (any_of HT_.out (by kernel_rfl)) (fun _ _ _ h => h) (Or.inl ⟨by rfl, ?_⟩) ?_ ?_
      rotate_left
      · intro w'
        go_simp
        with_reducible rfl
      rotate_left
      · simp only [Act.put, List.setIfInBounds_toArray, List.set_cons_zero, List.set_cons_succ, i64_w, i32_w]
        rfl
      refine one_ (i := 12) (N := none) #[true, true, true, true, true, true, true, true, true, true, true, true, true, false, false, false] rfl rfl (one_of HT_.out (by kernel_rfl)) (by decide) (fun K hK => ?_)
      obtain ⟨hz, hz3, hz4⟩ := HNG.out _ (below_step HB9.out HB10.out)
      clear hz4
      obtain ⟨q1, hq1⟩ := node_lo_ptr HN1.out
      subst hq1
      refine skip_ (w1 := ?_) (by rfl) rfl ?_ ?_
      rotate_left
      · go_simp
        rfl
      refine hK.out _ _ ((blk_cell (blk_far (blk_below HBXE.out (below_step HB9.out HB10.out)) (p := ⟨ng, 3, none⟩) (by simp) (.pointer q1)) 0).trans rfl) (fun hH4 => ?_)
      clear hK K hH3 hz hz3
      refine pure_ (i := 13) (N := some 53) (v := ?_) (a' := ?_) #[true, true, true, true, true, true, true, true, true, true, true, true, true, true, false, false] rfl rfl (any_of HT_.out (by kernel_rfl)) (fun _ _ _ h => h) (Or.inl ⟨by rfl, ?_⟩) ?_ ?_
      rotate_left
      · intro w'
        go_simp
        with_reducible rfl
      rotate_left
      · simp only [Act.put, List.setIfInBounds_toArray, List.set_cons_zero, List.set_cons_succ, i64_w, i32_w]
        rfl
      refine pure_ (i := 14) (N := some 54) (v := ?_) (a' := ?_) #[true, true, true, true, true, true, true, true, true, true, true, true, true, true, true, false] rfl rfl (any_of HT_.out (by kernel_rfl)) (fun _ _ _ h => h) (Or.inl ⟨by rfl, ?_⟩) ?_ ?_
      rotate_left
      · intro w'
        go_simp
        with_reducible rfl
      rotate_left
      · simp only [Act.put, List.setIfInBounds_toArray, List.set_cons_zero, List.set_cons_succ, i64_w, i32_w]
        rfl
      refine last_ (i := 15) (N := none) #[true, true, true, true, true, true, true, true, true, true, true, true, true, true, true, true] rfl rfl (one_of HT_.out (by kernel_rfl)) (by decide) (fun K hK => ?_)
      obtain ⟨_, _, hz4⟩ := HNG.out _ (below_step HB9.out HB10.out)
      obtain ⟨hz, hz3⟩ := hz4 (.pointer q1)
      clear hz4
      obtain ⟨q2, hq2⟩ := node_lo_ptr HN2.out
      subst hq2
      refine skip_ (w1 := ?_) (by rfl) rfl ?_ ?_
      rotate_left
      · go_simp
        rfl
      refine hK.out _ _ ?_
      clear hK K hz hz3
      refine done_ (done_of HT_.out (by kernel_rfl)) ?_
      have HBZ : Aside0 (RowKit.Below wE.heap.size wE w10) := ⟨below_step HB9.out HB10.out⟩
      have hngE : ng < wE.heap.size := blk_lt HNDE.out
      have HNZ1 := Aside0.mk (blk_below HNDE.out HBZ.out)
      have HNZ2 := Aside0.mk (blk_put HNZ1.out 3 (.pointer q1) rfl)
      have HNZ3 := Aside0.mk (blk_put HNZ2.out 4 (.pointer q2) rfl)
      have HBXZ := Aside0.mk (blk_far (blk_far (blk_below HBXE.out HBZ.out) (p := ⟨ng, 3, none⟩) (by simp) (.pointer q1)) (p := ⟨ng, 4, none⟩) (by simp) (.pointer q2))
      have HNA : Aside0 (NodeLo ((w10.setCell ⟨ng, 3, none⟩ (.pointer q1)).setCell ⟨ng, 4, none⟩ (.pointer q2)) wE.heap.size w9.heap.size T1 (.pointer q1)) :=
        ⟨((HN1.out.below HB10.out (Nat.le_refl _)).set hngE HNZ1.out 3 _).set hngE HNZ2.out 4 _⟩
      have hngE2 : ng < w9.heap.size := Nat.lt_of_lt_of_le hngE HB9.out.size
      have HNB : Aside0 (NodeLo ((w10.setCell ⟨ng, 3, none⟩ (.pointer q1)).setCell ⟨ng, 4, none⟩ (.pointer q2)) w9.heap.size w10.heap.size T2 (.pointer q2)) :=
        ⟨(HN2.out.set hngE2 HNZ1.out 3 _).set hngE2 HNZ2.out 4 _⟩
      have hWng : W.heap.size ≤ ng := by rw [HNGE.out]; exact Nat.le_refl _
      have HWZ : Aside0 (RowKit.Below W.heap.size W ((w10.setCell ⟨ng, 3, none⟩ (.pointer q1)).setCell ⟨ng, 4, none⟩ (.pointer q2))) :=
        ⟨((HBEE.out.trans (HBZ.out.mono (by omega))).setCell hWng _).setCell hWng _⟩
      have hsz : ((w10.setCell ⟨ng, 3, none⟩ (.pointer q1)).setCell ⟨ng, 4, none⟩ (.pointer q2)).heap.size = w10.heap.size := by simp [World.setCell]
      have HSZ := Aside0.mk hsz
      have hne := node_lo_ne HN1.out HN2.out (Nat.le_refl _)
      have HNE := Aside0.mk hne
      have hle9 : w9.heap.size ≤ w10.heap.size := HB10.out.size
      clear hsz hne
      obtain ⟨wz, hwz⟩ : ∃ wz, (w10.setCell ⟨ng, 3, none⟩ (.pointer q1)).setCell ⟨ng, 4, none⟩ (.pointer q2) = wz := ⟨_, rfl⟩
      rw [hwz] at HNZ3 HBXZ HNA HNB HWZ HSZ
      rw [hwz]
      clear hwz b0
      have b0 : wz.cell? ⟨ng + 1, 0, none⟩ = some (.pointer (some ⟨ng, 0, none⟩)) := (blk_cell HBXZ.out 0).trans rfl
      have HFIN : Aside0 (BuildDone W n [q0] (.returned (.pointer (some ⟨ng, 0, none⟩))) wz) := ⟨by
        refine ⟨⟨.node id0 nv 0 T1 T2, _, rfl, ⟨ng, _, _, _, rfl, hWng, by rw [HSZ.out]; omega, HNZ3.out, ?_, HNA.out.more (by omega) (by rw [HSZ.out]; omega), HNB.out.more (by omega) (by rw [HSZ.out]; exact Nat.le_refl _), HNE.out⟩, ⟨HI0'.out, HLN.out, ⟨by omega, by omega⟩, HW0'.out, HX1.out.1, HX2.out.1⟩, ⟨?_, ?_, HX1.out.2.1, HX2.out.2.1⟩, ?_⟩, HWZ.out⟩
        · have h1 := HV0'.out
          rw [HNN.out] at h1
          exact (h1.keep (Kp.below HWZ.out)).more HWZ.out.size
        · intro p hp
          have := HX1.out.2.2.mem_iff.1 hp
          simp at this
        · intro p hp
          have := HX2.out.2.2.mem_iff.1 hp
          simp at this
        · have h1 : (T1.pts ++ T2.pts).Perm [] := by
            refine (HX1.out.2.2.append HX2.out.2.2).trans ?_
            exact List.Perm.refl _
          have h2 : pt q0 = (id0, nv) := by rw [HQ0.out]; rfl
          show ((id0, nv) :: (T1.pts ++ T2.pts)).Perm [pt q0]
          rw [h2]
          exact h1.cons _⟩
      go_wp2_with fail
      go_ret
      exact HFIN.out
    case inr =>
      have h4a : ¬ c4 = 0 := by omega
      have h4b : ¬ (c4 : Int) = 0 := by omega
      have h4d : ¬ (0 : Int) = (c4 : Int) := by omega
      have h4c : (0 : Int) ≤ (c4 : Int) := by omega
      go_upto_region 9 with (go_at_call 53; refine HC.out.mono ?_; rintro e w6 ⟨rfl, ⟨Q4, hs4, hg4', hu4⟩, ht4⟩; have HT4 := Aside0.mk ht4; clear hs4 hg4' hu4 ht4)
      have HND6 := Aside0.mk (HT4.out.keep HND2.out HG0.out.1)
      have HBX6 := Aside0.mk (HT4.out.keep HBX2.out HG0.out.2)
      have b0 : w6.drew.cell? ⟨ng + 1, 0, none⟩ = some (.pointer (some ⟨ng, 0, none⟩)) := (blk_cell (blk_drew HBX6.out) 0).trans rfl
      have HNDE := Aside0.mk (blk_drew HND6.out)
      have HBXE := Aside0.mk (blk_drew HBX6.out)
      have HBEE : Aside0 (RowKit.Below W.heap.size W w6.drew) := ⟨by
        have h1 : RowKit.Below W.heap.size W wc := HBW0.out.trans (HBC.out.mono HBW0.out.size)
        have h2 : RowKit.Below W.heap.size W w6 := belowB_turns h1 HT4.out (fun j e => by subst e; have := HNGE.out; have := HGL.out; omega) h1.size
        exact h2.drew⟩
      have HNG : Aside0 (∀ w9, Below w6.drew.heap.size w6.drew w9 → w9.frozen? ⟨ng, 3, none⟩ = false ∧ w9.cell? ⟨ng, 3, none⟩ = some (.pointer none) ∧ ∀ u, (w9.setCell ⟨ng, 3, none⟩ u).frozen? ⟨ng, 4, none⟩ = false ∧ (w9.setCell ⟨ng, 3, none⟩ u).cell? ⟨ng, 4, none⟩ = some (.pointer none)) := ⟨fun w9 hb => ⟨blk_frozen (blk_below (blk_drew HND6.out) hb) 3, (blk_cell (blk_below (blk_drew HND6.out) hb) 3).trans rfl, fun u => ⟨blk_frozen (blk_put (blk_below (blk_drew HND6.out) hb) 3 u rfl) 4, (blk_cell (blk_put (blk_below (blk_drew HND6.out) hb) 3 u rfl) 4).trans rfl⟩⟩⟩
      refine start_ (n := 16) (S := fun w' => w'.cell? ⟨ng + 1, 0, none⟩ = some (.pointer (some ⟨ng, 0, none⟩))) (ds := [15]) #[false, false, false, false, false, false, false, false, false, false, false, false, false, false, false, false] (by kernel_rfl) rfl rfl b0 (fun hHeld => ?_)
      refine with_tabW bu9.tab bu9.bits (fun HT_ HW_ => ?_)
      generalize hwE : w6.drew = wE at *
      refine pure_ (i := 2) (N := some 43) (v := ?_) (a' := ?_) #[false, false, true, false, false, false, false, false, false, false, false, false, false, false, false, false] rfl rfl (any_of HT_.out (by kernel_rfl)) (fun _ _ _ h => h) (Or.inl ⟨by rfl, ?_⟩) ?_ ?_
      rotate_left
      · intro w'
        go_simp
        with_reducible rfl
      rotate_left
      · simp only [Act.put, List.setIfInBounds_toArray, List.set_cons_zero, List.set_cons_succ, i64_w, i32_w]
        rfl
      refine pure_ (i := 3) (N := some 44) (v := ?_) (a' := ?_) #[false, false, true, true, false, false, false, false, false, false, false, false, false, false, false, false] rfl rfl (any_of HT_.out (by kernel_rfl)) (fun _ _ _ h => h) (Or.inl ⟨by rfl, ?_⟩) ?_ ?_
      rotate_left
      · intro w'
        go_simp
        with_reducible rfl
      rotate_left
      · simp only [Act.put, List.setIfInBounds_toArray, List.set_cons_zero, List.set_cons_succ, i64_w, i32_w]
        rfl
      refine pure_ (i := 4) (N := some 45) (v := ?_) (a' := ?_) #[false, false, true, true, true, false, false, false, false, false, false, false, false, false, false, false] rfl rfl (any_of HT_.out (by kernel_rfl)) (fun _ _ _ h => h) (Or.inl ⟨by rfl, ?_⟩) ?_ ?_
      rotate_left
      · intro w'
        go_simp
        with_reducible rfl
      rotate_left
      · simp only [Act.put, List.setIfInBounds_toArray, List.set_cons_zero, List.set_cons_succ, i64_w, i32_w]
        rfl
      refine pure_ (i := 6) (N := some 47) (v := ?_) (a' := ?_) #[false, false, true, true, true, false, true, false, false, false, false, false, false, false, false, false] rfl rfl (any_of HT_.out (by kernel_rfl)) (fun _ _ _ h => h) (Or.inl ⟨by rfl, ?_⟩) ?_ ?_
      rotate_left
      · intro w'
        go_simp
        with_reducible rfl
      rotate_left
      · simp only [Act.put, List.setIfInBounds_toArray, List.set_cons_zero, List.set_cons_succ, i64_w, i32_w]
        rfl
      refine pure_ (i := 7) (N := some 48) (v := ?_) (a' := ?_) #[false, false, true, true, true, false, true, true, false, false, false, false, false, false, false, false] rfl rfl (any_of HT_.out (by kernel_rfl)) (fun _ _ _ h => h) (Or.inl ⟨by rfl, ?_⟩) ?_ ?_
      rotate_left
      · intro w'
        go_simp
        with_reducible rfl
      rotate_left
      · simp only [Act.put, List.setIfInBounds_toArray, List.set_cons_zero, List.set_cons_succ, i64_w, i32_w]
        rfl
      refine pure_ (i := 8) (N := some 49) (v := ?_) (a' := ?_) #[false, false, true, true, true, false, true, true, true, false, false, false, false, false, false, false] rfl rfl (any_of HT_.out (by kernel_rfl)) (fun _ _ _ h => h) (Or.inl ⟨by rfl, ?_⟩) ?_ ?_
      rotate_left
      · intro w'
        go_simp
        with_reducible rfl
      rotate_left
      · simp only [Act.put, List.setIfInBounds_toArray, List.set_cons_zero, List.set_cons_succ, i64_w, i32_w]
        rfl
      refine take_ (i := 0) (N := some 41) (v := ?_) (a' := ?_) #[true, false, true, true, true, false, true, true, true, false, false, false, false, false, false, false] rfl rfl (take_ofW HT_.out HW_.out (by kernel_rfl)) (fun _ _ _ h => h) (Or.inl ⟨by rfl, ?_⟩) hHeld ?_ ?_
      rotate_left
      · rintro w' s0
        go_simp
        with_reducible rfl
      rotate_left
      · simp only [Act.put, List.setIfInBounds_toArray, List.set_cons_zero, List.set_cons_succ, i64_w, i32_w]
        rfl
      refine take_ (i := 1) (N := some 42) (v := ?_) (a' := ?_) #[true, true, true, true, true, false, true, true, true, false, false, false, false, false, false, false] rfl rfl (take_ofW HT_.out HW_.out (by kernel_rfl)) (fun _ _ _ h => h) (Or.inl ⟨by rfl, ?_⟩) hHeld ?_ ?_
      rotate_left
      · rintro w' s0
        go_simp
        with_reducible rfl
      rotate_left
      · simp only [Act.put, List.setIfInBounds_toArray, List.set_cons_zero, List.set_cons_succ, i64_w, i32_w]
        rfl
      refine one_ (i := 5) (N := some 46) #[true, true, true, true, true, true, true, true, true, false, false, false, false, false, false, false] rfl rfl (one_of HT_.out (by kernel_rfl)) (by decide) (fun K hK => ?_)
      refine goes_ Try.func37 (by kernel_rfl) rfl #[.slice (some ad) 0 c4] (by rfl) rfl rfl (by (try simp only [List.map_toArray, List.map_cons, List.map_nil]); first | done | rfl) ?_
      refine (HB1.out _ _ _).mono ?_
      rintro e w9 ⟨⟨T1, p1, rfl, hn1, hx1⟩, hb9⟩
      refine ⟨_, rfl, ?_⟩
      have HN1 := Aside0.mk hn1
      have HX1 := Aside0.mk hx1
      have HB9 := Aside0.mk hb9
      refine hK.out _ _ (pw_cell_below hb9 hHeld) (fun hH2 => ?_)
      clear hHeld hb9 hn1 hx1 hK K
      refine norm_ (a' := ?_) ?_ ?_
      rotate_left
      · simp only [Act.put, List.setIfInBounds_toArray, List.set_cons_zero, List.set_cons_succ, i64_w, i32_w]
        rfl
      refine one_ (i := 9) (N := some 50) #[true, true, true, true, true, true, true, true, true, true, false, false, false, false, false, false] rfl rfl (one_of HT_.out (by kernel_rfl)) (by decide) (fun K hK => ?_)
      refine goes_ Try.func37 (by kernel_rfl) rfl #[.slice (some ad) 0 c4] (by rfl) rfl rfl (by (try simp only [List.map_toArray, List.map_cons, List.map_nil]); first | done | rfl) ?_
      refine (HB1.out _ _ _).mono ?_
      rintro e w10 ⟨⟨T2, p2, rfl, hn2, hx2⟩, hb10⟩
      refine ⟨_, rfl, ?_⟩
      have HN2 := Aside0.mk hn2
      have HX2 := Aside0.mk hx2
      have HB10 := Aside0.mk hb10
      refine hK.out _ _ (pw_cell_below hb10 hH2) (fun hH3 => ?_)
      clear hH2 hb10 hn2 hx2 hK K
      refine norm_ (a' := ?_) ?_ ?_
      rotate_left
      · simp only [Act.put, List.setIfInBounds_toArray, List.set_cons_zero, List.set_cons_succ, i64_w, i32_w]
        rfl
      refine pure_ (i := 10) (N := some 51) (v := ?_) (a' := ?_) #[true, true, true, true, true, true, true, true, true, true, true, false, false, false, false, false] rfl rfl (any_of HT_.out (by kernel_rfl)) (fun _ _ _ h => h) (Or.inl ⟨by rfl, ?_⟩) ?_ ?_
      rotate_left
      · intro w'
        go_simp
        with_reducible rfl
      rotate_left
      · simp only [Act.put, List.setIfInBounds_toArray, List.set_cons_zero, List.set_cons_succ, i64_w, i32_w]
        rfl
      refine pure_ (i := 11) (N := some 52) (v := ?_) (a' := ?_) #[true, true, true, true, true, true, true, true, true, true, true, true, false, false, false, false] rfl rfl (any_of HT_.out (by kernel_rfl)) (fun _ _ _ h => h) (Or.inl ⟨by rfl, ?_⟩) ?_ ?_
      rotate_left
      · intro w'
        go_simp
        with_reducible rfl
      rotate_left
      · simp only [Act.put, List.setIfInBounds_toArray, List.set_cons_zero, List.set_cons_succ, i64_w, i32_w]
        rfl
      refine one_ (i := 12) (N := none) #[true, true, true, true, true, true, true, true, true, true, true, true, true, false, false, false] rfl rfl (one_of HT_.out (by kernel_rfl)) (by decide) (fun K hK => ?_)
      obtain ⟨hz, hz3, hz4⟩ := HNG.out _ (below_step HB9.out HB10.out)
      clear hz4
      obtain ⟨q1, hq1⟩ := node_lo_ptr HN1.out
      subst hq1
      refine skip_ (w1 := ?_) (by rfl) rfl ?_ ?_
      rotate_left
      · go_simp
        rfl
      refine hK.out _ _ ((blk_cell (blk_far (blk_below HBXE.out (below_step HB9.out HB10.out)) (p := ⟨ng, 3, none⟩) (by simp) (.pointer q1)) 0).trans rfl) (fun hH4 => ?_)
      clear hK K hH3 hz hz3
      refine pure_ (i := 13) (N := some 53) (v := ?_) (a' := ?_) #[true, true, true, true, true, true, true, true, true, true, true, true, true, true, false, false] rfl rfl (any_of HT_.out (by kernel_rfl)) (fun _ _ _ h => h) (Or.inl ⟨by rfl, ?_⟩) ?_ ?_
      rotate_left
      · intro w'
        go_simp
        with_reducible rfl
      rotate_left
      · simp only [Act.put, List.setIfInBounds_toArray, List.set_cons_zero, List.set_cons_succ, i64_w, i32_w]
        rfl
      refine pure_ (i := 14) (N := some 54) (v := ?_) (a' := ?_) #[true, true, true, true, true, true, true, true, true, true, true, true, true, true, true, false] rfl rfl (any_of HT_.out (by kernel_rfl)) (fun _ _ _ h => h) (Or.inl ⟨by rfl, ?_⟩) ?_ ?_
      rotate_left
      · intro w'
        go_simp
        with_reducible rfl
      rotate_left
      · simp only [Act.put, List.setIfInBounds_toArray, List.set_cons_zero, List.set_cons_succ, i64_w, i32_w]
        rfl
      refine last_ (i := 15) (N := none) #[true, true, true, true, true, true, true, true, true, true, true, true, true, true, true, true] rfl rfl (one_of HT_.out (by kernel_rfl)) (by decide) (fun K hK => ?_)
      obtain ⟨_, _, hz4⟩ := HNG.out _ (below_step HB9.out HB10.out)
      obtain ⟨hz, hz3⟩ := hz4 (.pointer q1)
      clear hz4
      obtain ⟨q2, hq2⟩ := node_lo_ptr HN2.out
      subst hq2
      refine skip_ (w1 := ?_) (by rfl) rfl ?_ ?_
      rotate_left
      · go_simp
        rfl
      refine hK.out _ _ ?_
      clear hK K hz hz3
      refine done_ (done_of HT_.out (by kernel_rfl)) ?_
      have HBZ : Aside0 (RowKit.Below wE.heap.size wE w10) := ⟨below_step HB9.out HB10.out⟩
      have hngE : ng < wE.heap.size := blk_lt HNDE.out
      have HNZ1 := Aside0.mk (blk_below HNDE.out HBZ.out)
      have HNZ2 := Aside0.mk (blk_put HNZ1.out 3 (.pointer q1) rfl)
      have HNZ3 := Aside0.mk (blk_put HNZ2.out 4 (.pointer q2) rfl)
      have HBXZ := Aside0.mk (blk_far (blk_far (blk_below HBXE.out HBZ.out) (p := ⟨ng, 3, none⟩) (by simp) (.pointer q1)) (p := ⟨ng, 4, none⟩) (by simp) (.pointer q2))
      have HNA : Aside0 (NodeLo ((w10.setCell ⟨ng, 3, none⟩ (.pointer q1)).setCell ⟨ng, 4, none⟩ (.pointer q2)) wE.heap.size w9.heap.size T1 (.pointer q1)) :=
        ⟨((HN1.out.below HB10.out (Nat.le_refl _)).set hngE HNZ1.out 3 _).set hngE HNZ2.out 4 _⟩
      have hngE2 : ng < w9.heap.size := Nat.lt_of_lt_of_le hngE HB9.out.size
      have HNB : Aside0 (NodeLo ((w10.setCell ⟨ng, 3, none⟩ (.pointer q1)).setCell ⟨ng, 4, none⟩ (.pointer q2)) w9.heap.size w10.heap.size T2 (.pointer q2)) :=
        ⟨(HN2.out.set hngE2 HNZ1.out 3 _).set hngE2 HNZ2.out 4 _⟩
      have hWng : W.heap.size ≤ ng := by rw [HNGE.out]; exact Nat.le_refl _
      have HWZ : Aside0 (RowKit.Below W.heap.size W ((w10.setCell ⟨ng, 3, none⟩ (.pointer q1)).setCell ⟨ng, 4, none⟩ (.pointer q2))) :=
        ⟨((HBEE.out.trans (HBZ.out.mono (by omega))).setCell hWng _).setCell hWng _⟩
      have hsz : ((w10.setCell ⟨ng, 3, none⟩ (.pointer q1)).setCell ⟨ng, 4, none⟩ (.pointer q2)).heap.size = w10.heap.size := by simp [World.setCell]
      have HSZ := Aside0.mk hsz
      have hne := node_lo_ne HN1.out HN2.out (Nat.le_refl _)
      have HNE := Aside0.mk hne
      have hle9 : w9.heap.size ≤ w10.heap.size := HB10.out.size
      clear hsz hne
      obtain ⟨wz, hwz⟩ : ∃ wz, (w10.setCell ⟨ng, 3, none⟩ (.pointer q1)).setCell ⟨ng, 4, none⟩ (.pointer q2) = wz := ⟨_, rfl⟩
      rw [hwz] at HNZ3 HBXZ HNA HNB HWZ HSZ
      rw [hwz]
      clear hwz b0
      have b0 : wz.cell? ⟨ng + 1, 0, none⟩ = some (.pointer (some ⟨ng, 0, none⟩)) := (blk_cell HBXZ.out 0).trans rfl
      have HFIN : Aside0 (BuildDone W n [q0] (.returned (.pointer (some ⟨ng, 0, none⟩))) wz) := ⟨by
        refine ⟨⟨.node id0 nv 0 T1 T2, _, rfl, ⟨ng, _, _, _, rfl, hWng, by rw [HSZ.out]; omega, HNZ3.out, ?_, HNA.out.more (by omega) (by rw [HSZ.out]; omega), HNB.out.more (by omega) (by rw [HSZ.out]; exact Nat.le_refl _), HNE.out⟩, ⟨HI0'.out, HLN.out, ⟨by omega, by omega⟩, HW0'.out, HX1.out.1, HX2.out.1⟩, ⟨?_, ?_, HX1.out.2.1, HX2.out.2.1⟩, ?_⟩, HWZ.out⟩
        · have h1 := HV0'.out
          rw [HNN.out] at h1
          exact (h1.keep (Kp.below HWZ.out)).more HWZ.out.size
        · intro p hp
          have := HX1.out.2.2.mem_iff.1 hp
          simp at this
        · intro p hp
          have := HX2.out.2.2.mem_iff.1 hp
          simp at this
        · have h1 : (T1.pts ++ T2.pts).Perm [] := by
            refine (HX1.out.2.2.append HX2.out.2.2).trans ?_
            exact List.Perm.refl _
          have h2 : pt q0 = (id0, nv) := by rw [HQ0.out]; rfl
          show ((id0, nv) :: (T1.pts ++ T2.pts)).Perm [pt q0]
          rw [h2]
          exact h1.cons _⟩
      go_wp2_with fail
      go_ret
      exact HFIN.out
end Go.Proofs.Ytealiaafdkhonaa.Vp

namespace Go.Proofs.Ytealiaafdkhonaa.Vp
open Go.RowKit Go.Sort Mb Base Sq
theorem build_upto (n : Nat) (hn1 : 1 ≤ n) (hn2 : n ≤ 16) : ∀ (m : Nat), m ≤ 1001 → ∀ (W : World) (A : Option Addr) (c : Nat) (Q : List E), Q.length ≤ m → PRead W A n Q → Q.length ≤ c → Calls Try.prog 37 #[.slice A Q.length c] W (BuildDone W n Q)
  | 0, _, W, A, c, Q, hl, h, hc => by
    have : Q = [] := List.eq_nil_of_length_eq_zero (by omega)
    subst this
    exact build_none W n A c
  | m + 1, hm, W, A, c, Q, hl, h, hc => by
    match Q, hl, h, hc with
    | [], _, _, _ => exact build_none W n A c
    | [q0], _, h, hc =>
      by_cases h1 : c = 1
      · subst h1; exact build_one1 W n A q0 h hn1 hn2
      · exact build_one W n A c q0 h (by simp at hc; omega) hn1 hn2
    | q0 :: q1 :: Q, hl, h, hc =>
      simp only [List.length_cons] at hl
      exact build_more W n A c q0 (q1 :: Q) h (by simpa using hc) (by simp only [List.length_cons]; omega) (by simp) hn1 hn2 (fun W A c Q' h1 h2 h3 => build_upto n hn1 hn2 m (by omega) W A c Q' (by simp only [List.length_cons] at h1; omega) h2 h3)
theorem build_calls (n : Nat) (hn1 : 1 ≤ n) (hn2 : n ≤ 16) (W : World) (A : Option Addr) (c : Nat) (Q : List E) (hl : Q.length ≤ 1001) (h : PRead W A n Q) (hc : Q.length ≤ c) : Calls Try.prog 37 #[.slice A Q.length c] W (BuildDone W n Q) :=
  build_upto n hn1 hn2 1001 (Nat.le_refl _) W A c Q hl h hc
end Go.Proofs.Ytealiaafdkhonaa.Vp
