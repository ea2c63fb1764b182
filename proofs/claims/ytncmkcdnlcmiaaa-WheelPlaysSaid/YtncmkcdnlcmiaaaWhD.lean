/- A wheel's Tick: what it tells and leaves. -/
import Derived.Test.YtncmkcdnlcmiaaaWhC
import Derived.Test.YtncmkcdnlcmiaaaSp
import Derived.StillTailTactics
namespace Go.Proofs.Ytncmkcdnlcmiaaa.Wh
open Go.RowKit Mb Go.Proofs.YtncmkcdnlcmiaaaW.PrintWords Go.Proofs.YtncmkcdnlcmiaaaW.PrintLast Go.Proofs.YtncmkcdnlcmiaaaW.PrintMore
set_option linter.unusedVariables false
set_option linter.unusedSimpArgs false

def cutD (D : Int → Option Int) (l : List Int) (t : Int) : Int → Option Int := fun x => if x ∈ l ∧ D x = some t then none else D x
def outs (D : Int → Option Int) (l : List Int) (t : Int) : List Int := l.filter (fun x => decide (D x = some t))

theorem take_succ' {l : List Int} {k : Nat} (h : k < l.length) : l.take (k + 1) = l.take k ++ [l[k]] := by
  rw [List.take_add_one, List.getElem?_eq_getElem h]; rfl
theorem mem_take' {l : List Int} {k : Nat} (h : k < l.length) (x : Int) : x ∈ l.take (k + 1) ↔ x ∈ l.take k ∨ x = l[k] := by
  rw [take_succ' h, List.mem_append, List.mem_singleton]
theorem not_mem_take {l : List Int} (hn : l.Nodup) {k : Nat} (h : k < l.length) : l[k] ∉ l.take k := by
  intro hm
  rw [← List.take_append_drop (k + 1) l, take_succ' h] at hn
  exact (List.nodup_append.1 (List.nodup_append.1 hn).1).2.2 _ hm _ (List.mem_singleton_self _) rfl
theorem cutD_at {D : Int → Option Int} {l : List Int} {t : Int} (hn : l.Nodup) {k : Nat} (h : k < l.length) : cutD D (l.take k) t l[k] = D l[k] := by
  unfold cutD
  rw [if_neg (fun e => not_mem_take hn h e.1)]
theorem cutD_yes {D : Int → Option Int} {l : List Int} {t : Int} {k : Nat} (h : k < l.length) (e : D l[k] = some t) : cutD D (l.take (k + 1)) t = upd (cutD D (l.take k) t) l[k] none := by
  funext x
  unfold cutD upd
  simp only [mem_take' h]
  by_cases hx : x = l[k]
  · rw [if_pos hx, if_pos ⟨.inr hx, by rw [hx]; exact e⟩]
  · rw [if_neg hx]
    simp only [hx, or_false]
theorem cutD_no {D : Int → Option Int} {l : List Int} {t : Int} {k : Nat} (h : k < l.length) (e : D l[k] ≠ some t) : cutD D (l.take (k + 1)) t = cutD D (l.take k) t := by
  funext x
  unfold cutD
  simp only [mem_take' h]
  by_cases hx : x = l[k]
  · subst hx; rw [if_neg (fun h => e h.2), if_neg (fun h => e h.2)]
  · simp only [hx, or_false]
theorem outs_yes {D : Int → Option Int} {l : List Int} {t : Int} {k : Nat} (h : k < l.length) (e : D l[k] = some t) : outs D (l.take (k + 1)) t = outs D (l.take k) t ++ [l[k]] := by
  unfold outs
  rw [take_succ' h, List.filter_append]
  simp [e]
theorem outs_no {D : Int → Option Int} {l : List Int} {t : Int} {k : Nat} (h : k < l.length) (e : D l[k] ≠ some t) : outs D (l.take (k + 1)) t = outs D (l.take k) t := by
  unfold outs
  rw [take_succ' h, List.filter_append]
  simp [e]

theorem WheelAt.tick {W : World} {F : Nat → Prop} {p : Nat} {now : Int} {D : Int → Option Int} {n : Nat} {A : Int → List Int} {c : Nat} (h : WheelAt W F p now D n A c) (t : Int) : WheelAt (W.setCell ⟨p, 0, none⟩ (.int .i64 t)) F p t D n A c ∧ Turns F W (W.setCell ⟨p, 0, none⟩ (.int .i64 t)) := by
  obtain ⟨⟨bd, ba, na, f, h1, h2, h3, h4, h5, h6, h7, f1, f2, f3, h8, h9⟩, hl⟩ := h
  have hne : ∀ k, k ≠ p → (W.setCell ⟨p, 0, none⟩ (.int .i64 t)).heap[k]? = W.heap[k]? := fun k hk => Below.heap_setCell _ _ _ _ (fun e => hk (by rw [e]))
  refine ⟨⟨⟨bd, ba, na, f, by have := blk_set h1 0 (.int .i64 t); simpa using this, h2.move (hne _ (Ne.symm h5)), h3.move (hne _ (Ne.symm h6)), h4, h5, h6, h7, f1, f2, f3, fun t v hv => ⟨own_move (h8 t v hv).1 (fun k hk => hne k ((h8 t v hv).2 k hk).2.1), (h8 t v hv).2⟩, h9⟩, fun k hk => by simpa [World.setCell] using hl k hk⟩, (Turns.refl _ _).set_ f1 _⟩

/-- The map of ticks has lost a tick. -/
theorem WheelAt.lose {W W' : World} {F : Nat → Prop} {p : Nat} {now : Int} {D : Int → Option Int} {n : Nat} {A : Int → List Int} {c bd ba na : Nat} {f : Int → Option Value}
    (h1 : W.heap[p]? = some (.cells #[.int .i64 now, .map (some bd), .map (some ba)] 57 (0, 0))) (h2 : IMap Try.prog 3 W bd (fun x => (D x).map (Value.int .i64)) n) (h4 : na ≤ c) (h5 : p ≠ bd) (h6 : p ≠ ba) (h7 : bd ≠ ba) (f1 : F p) (f2 : F bd) (f3 : F ba)
    (h8 : ∀ t v, f t = some v → W.ownsRow 0 3 1 v (A t).length (nums .i64 (A t)) ∧ ∀ k, v.ownBlock = some k → F k ∧ k ≠ p ∧ k ≠ bd ∧ k ≠ ba) (h9 : ∀ t, f t = none → A t = []) (ha : ∀ t t' v v', t ≠ t' → f t = some v → f t' = some v' → NeRow v v') (hc : ∀ t, (A t).length ≤ c) (hl : ∀ k, F k → k < W.heap.size)
    (t : Int) (hm : IMap Try.prog 3 W' ba (upd f t none) (if (f t).isSome then na - 1 else na)) (ht : Turns (fun i => i = ba) W W') :
    WheelAt W' F p now D n (putA A t []) c ∧ Turns F W W' := by
  have hk : ∀ k, F k → k ≠ ba → W'.heap[k]? = W.heap[k]? := fun k h e => ht.block k (hl k h) e
  refine ⟨⟨⟨bd, ba, _, _, by rw [hk p f1 h6]; exact h1, h2.move (hk bd f2 h7), hm, by split <;> omega, h5, h6, h7, f1, f2, f3, ?_, ?_, ?_, ?_⟩, fun k h => Nat.lt_of_lt_of_le (hl k h) ht.size⟩, ht.mono (fun i (h : i = ba) => h ▸ f3)⟩
  · intro t' v' hv'
    unfold upd at hv'
    unfold putA
    by_cases e : t' = t
    · rw [if_pos e] at hv'; cases hv'
    · rw [if_neg e] at hv' ⊢
      exact ⟨own_move (h8 t' v' hv').1 (fun k hk2 => hk k ((h8 t' v' hv').2 k hk2).1 ((h8 t' v' hv').2 k hk2).2.2.2), (h8 t' v' hv').2⟩
  · intro t' hv'
    unfold upd at hv'
    unfold putA
    by_cases e : t' = t
    · rw [if_pos e]
    · rw [if_neg e] at hv' ⊢; exact h9 t' hv'
  · intro t1 t2 v1 v2 hne hv1 hv2
    unfold upd at hv1 hv2
    by_cases e1 : t1 = t
    · rw [if_pos e1] at hv1; cases hv1
    · by_cases e2 : t2 = t
      · rw [if_pos e2] at hv2; cases hv2
      · rw [if_neg e1] at hv1
        rw [if_neg e2] at hv2
        exact ha t1 t2 v1 v2 hne hv1 hv2
  · intro t'
    unfold putA
    split
    · exact Nat.zero_le _
    · exact hc t'


theorem wf_of {x : Int} (h1 : -9223372036854775808 ≤ x) (h2 : x ≤ 9223372036854775807) : (Lit.int .i64 x).wf = true := by
  unfold Lit.wf
  rw [Bool.and_eq_true, decide_eq_true_eq, decide_eq_true_eq]
  exact ⟨h1, h2⟩
def tickD (D : Int → Option Int) (t : Int) : Int → Option Int := fun x => if D x = some t then none else D x
/-- Each number that is due stands with its tick; none stands there twice. -/
structure Inv (D : Int → Option Int) (A : Int → List Int) : Prop where
  all : ∀ x t, D x = some t → x ∈ A t
  one : ∀ t, (A t).Nodup

/-- What Tick leaves, and tells. -/
structure TickDone (W : World) (F : Nat → Prop) (p : Nat) (t : Int) (D : Int → Option Int) (n : Nat) (A : Int → List Int) (c : Nat) (e : Ending) (w' : World) : Prop where
  ex : ∃ Av cv, e = .returned (.slice Av (outs D (A t) t).length cv) ∧ w'.ownsRow W.heap.size 3 1 (.slice Av (outs D (A t) t).length cv) (outs D (A t) t).length (nums .i64 (sorted (outs D (A t) t)))
  wheel : WheelAt w' F p t (tickD D t) (n - (outs D (A t) t).length) (putA A t []) c
  turns : Turns F W w'

noncomputable def tk5.T : Bool × List (List Nat × List Nat) := rtab .any (opsOf Try.f11 5)
def tk5.B : List Nat := [0, 1, 3, 7, 0, 16, 48, 112, 255, 511, 0]
theorem tk5.tab : rtab .any (opsOf Try.f11 5) = tk5.T := rfl
theorem tk5.bits : waitsOk tk5.T.2 tk5.B = true := by kernel_rfl

theorem at_nat {W : World} {A : Option Addr} {xs : List Int} (h : Kd.C (Kd.int .i64) W A xs.length xs) (k : Nat) (hk : k < xs.length) : ∃ ad, A = some ad ∧ W.cell? (ad.add k) = some (.int .i64 xs[k]) := by
  obtain ⟨ad, e1, h2⟩ := Kd.at_int h (k : Int) (by omega) (by omega)
  refine ⟨ad, e1, ?_⟩
  have e0 : rd xs (k : Int) = xs[k] := by unfold rd; rw [Int.toNat_natCast, List.getD_eq_getElem?_getD, List.getElem?_eq_getElem hk]; rfl
  rw [e0] at h2
  simpa using h2

structure TickAt (W : World) (F : Nat → Prop) (p bd : Nat) (t : Int) (D : Int → Option Int) (n : Nat) (A : Int → List Int) (c : Nat) (Av : Option Addr) (cv : Nat) (A2 : Option Addr) (c2 : Nat) (k : Nat) (w : World) : Prop where
  wheel : WheelAt w F p t (cutD D ((A t).take k) t) (n - (outs D ((A t).take k) t).length) A c
  box1 : w.cell? ⟨p, 1, none⟩ = some (.map (some bd))
  row : w.ownsRow 0 3 1 (.slice Av (A t).length cv) (A t).length (nums .i64 (A t))
  out : w.ownsRow W.heap.size 3 1 (.slice A2 (outs D ((A t).take k) t).length c2) (outs D ((A t).take k) t).length (nums .i64 (outs D ((A t).take k) t))
  turns : Turns F W w

theorem TickAt.same {W : World} {F : Nat → Prop} {p bd : Nat} {t : Int} {D : Int → Option Int} {n : Nat} {A : Int → List Int} {c : Nat} {Av : Option Addr} {cv : Nat} {A2 : Option Addr} {c2 : Nat} {k : Nat} {w : World} (h : TickAt W F p bd t D n A c Av cv A2 c2 k w) (hlt : k < (A t).length) (e : D (A t)[k] ≠ some t) :
    TickAt W F p bd t D n A c Av cv A2 c2 (k + 1) w := ⟨by rw [cutD_no hlt e, outs_no hlt e]; exact h.wheel, h.box1, h.row, by rw [outs_no hlt e]; exact h.out, h.turns⟩
theorem own_ge {w : World} {base : Nat} {e : TypeId} {size n : Nat} {v : Value} {xs : List Value} (h : w.ownsRow base e size v n xs) (k : Nat) (hk : v.ownBlock = some k) : base ≤ k := by
  rcases h.2 with ⟨rfl, _⟩ | ⟨g, cap, cur, rfl, hb, _⟩
  · cases hk
  · cases hk; exact hb
theorem TickAt.hit {W : World} {F : Nat → Prop} {p bd : Nat} {t : Int} {D : Int → Option Int} {n : Nat} {A : Int → List Int} {c : Nat} {Av : Option Addr} {cv : Nat} {A2 : Option Addr} {c2 : Nat} {k : Nat} {w w5 w6 : World} {x : Int} {g cap : Nat} (h : TickAt W F p bd t D n A c Av cv A2 c2 k w) (hlt : k < (A t).length) (hx : (A t)[k] = x) (e : D x = some t) (hn : (A t).Nodup)
    (gl : ∀ k, F k → k < W.heap.size) (f1 : F p) (f2 : F bd) (g5 : p ≠ bd) (hob : ∀ k, (Value.slice Av (A t).length cv).ownBlock = some k → F k ∧ k ≠ p ∧ k ≠ bd)
    (ht : Turns (fun i => (Value.slice A2 (outs D ((A t).take k) t).length c2).ownBlock = some i) w w5)
    (hown : w5.ownsRow W.heap.size 3 1 (.slice (some ⟨g, 0, none⟩) ((outs D ((A t).take k) t).length + 1) cap) ((outs D ((A t).take k) t).length + 1) (nums .i64 (outs D ((A t).take k) t) ++ nums .i64 [x]))
    (hm : IMap Try.prog 3 w6 bd (upd (fun y => (cutD D ((A t).take k) t y).map (Value.int .i64)) x none) (if ((cutD D ((A t).take k) t x).map (Value.int .i64)).isSome then n - (outs D ((A t).take k) t).length - 1 else n - (outs D ((A t).take k) t).length)) (ht6 : Turns (fun i => i = bd) w5 w6) :
    TickAt W F p bd t D n A c Av cv (some ⟨g, 0, none⟩) cap (k + 1) w6 := by
  have hF : ∀ k, F k → w5.heap[k]? = w.heap[k]? := fun i hi => ht.block i (h.wheel.lt i hi) (fun hk => by have := own_ge h.out i hk; have := gl i hi; omega)
  have hb5 : w5.cell? ⟨p, 1, none⟩ = some (.map (some bd)) := (World.cell?_of_block (hF p f1)).trans h.box1
  subst hx
  have e2 : cutD D ((A t).take k) t (A t)[k] = some t := (cutD_at hn hlt).trans e
  refine ⟨?_, ht6.cell hb5 g5, ?_, ?_, ?_⟩
  · rw [cutD_yes hlt e, outs_yes hlt e]
    refine (h.wheel.move ht.size hF).due hb5 ht6 ?_
    have := upd_map (cutD D ((A t).take k) t) (A t)[k] none
    rw [Option.map_none] at this
    rw [this, e2] at hm
    simpa [Nat.sub_sub] using hm
  · refine own_move (own_move h.row (fun i hi => hF i (hob i hi).1)) (fun i hi => ht6.block i ?_ (hob i hi).2.2)
    exact Nat.lt_of_lt_of_le (own_lt h.row i hi) ht.size
  · rw [outs_yes hlt e, nums_append, List.length_append]
    refine own_move hown (fun i hi => ht6.block i (own_lt hown i hi) (fun eb => ?_))
    have h1 := own_ge hown i hi
    have h2 := gl bd f2
    omega
  · refine (h.turns.trans ht (fun i hi => .inr (own_ge h.out i hi))).trans ht6 (fun i hi => .inl ?_)
    rw [hi]; exact f2

set_option maxRecDepth 100000 in
set_option maxHeartbeats 1000000 in
theorem tick_calls (W : World) (F : Nat → Prop) (p : Nat) (now : Int) (D : Int → Option Int) (n : Nat) (A : Int → List Int) (c : Nat) (h : WheelAt W F p now D n A c) (hi : Inv D A)
   (hnow : 0 ≤ now) (hnow' : now ≤ 1099511627776) (hc : c ≤ 1048576) (t : Int) (ht : now + 1 = t) (hA : ∀ x ∈ A t, (Lit.int .i64 x).wf = true) :
    Calls Try.prog 11 #[.pointer (some ⟨p, 0, none⟩)] W (TickDone W F p t D n A c) := by
  have HI := Aside0.mk hi
  have HA := Aside0.mk hA
  have HH := Aside0.mk h
  have hlA := h
  obtain ⟨⟨bd, ba, na, f, g1, g2, g3, g4, g5, g6, g7, f1, f2, f3, g8, g9, ga, gc⟩, gl⟩ := hlA
  have c0 : W.cell? ⟨p, 0, none⟩ = some (.int .i64 now) := (blk_cell g1 0).trans rfl
  have z0 := blk_frozen g1 0
  have c1 : W.cell? ⟨p, 1, none⟩ = some (.map (some bd)) := (blk_cell g1 1).trans rfl
  have c2 : W.cell? ⟨p, 2, none⟩ = some (.map (some ba)) := (blk_cell g1 2).trans rfl
  have hwt : (Lit.int .i64 t).wf = true := wf_of (by omega) (by omega)
  have hwr : IntKind.i64.wrap (now + 1) = t := by rw [IntWalk.i64_in (now + 1) (by omega), ht]
  obtain ⟨Av, cv, ev, hcv, hCv, hOv⟩ := row_reads g8 g9 t
  have HOB : Aside0 (∀ k, (Value.slice Av (A t).length cv).ownBlock = some k → F k ∧ k ≠ p ∧ k ≠ bd ∧ k ≠ ba) := Aside0.mk (by
    intro k hk
    rw [← ev] at hk
    cases e3 : f t with
    | none => rw [e3] at hk; cases hk
    | some v => rw [e3] at hk; exact (g8 t v e3).2 k hk)
  obtain ⟨hT1, hT2⟩ := h.tick t
  have HW1 := Aside0.mk hT1
  have HT1 := Aside0.mk hT2
  have d0 : (W.setCell ⟨p, 0, none⟩ (.int .i64 t)).cell? ⟨p, 0, none⟩ = some (.int .i64 t) := by
    rw [blk_cell (blk_set g1 0 _)]; rfl
  have d1 : (W.setCell ⟨p, 0, none⟩ (.int .i64 t)).cell? ⟨p, 1, none⟩ = some (.map (some bd)) := by
    rw [blk_cell (blk_set g1 0 _)]; rfl
  have d2 : (W.setCell ⟨p, 0, none⟩ (.int .i64 t)).cell? ⟨p, 2, none⟩ = some (.map (some ba)) := by
    rw [blk_cell (blk_set g1 0 _)]; rfl
  have hne1 : ∀ k, k ≠ p → (W.setCell ⟨p, 0, none⟩ (.int .i64 t)).heap[k]? = W.heap[k]? := fun k hk => Below.heap_setCell _ _ _ _ (fun e => hk (by rw [e]))
  have HM := Aside0.mk (g3.move (hne1 ba (Ne.symm g6)))
  have hl8 := HM.out.look law Try.underlying3 Try.underlying55 (zero22 _) t hwt
  rw [ev] at hl8
  have EV := Aside0.mk ev
  have HOW := Aside0.mk (own_move hOv (fun k hk => hne1 k (HOB.out k hk).2.1))
  have hat : (A t).length ≤ 1048576 := Nat.le_trans (gc t) hc
  clear g1 g2 g3 g8 g9 ga hT1 hT2 hne1 hCv hOv h hi hA ev gc
  go_enter Try.func11, Try.ntmps11
  go_upto_region 5 with (go_at_call 22; refine (given_calls p bd _ c1).mono ?_; rintro e w' ⟨rfl, rfl⟩)
  clear c0 c1 c2 z0 hwr
  generalize W.setCell ⟨p, 0, none⟩ (.int .i64 t) = W1 at *
  have HW1' : Aside0 (WheelAt W1.drew F p t D n A c) := Aside0.mk HW1.out.drew
  have HT1' : Aside0 (Turns F W W1.drew) := Aside0.mk HT1.out.drew
  have HOW' : Aside0 (W1.drew.ownsRow 0 3 1 (.slice Av (A t).length cv) (A t).length (nums .i64 (A t))) := Aside0.mk HOW.out
  have hb1 : Aside0 (W1.drew.cell? ⟨p, 1, none⟩ = some (.map (some bd))) := Aside0.mk d1
  have hl9 : (Instr.lookup 55 (.map (some ba)) (.int .i64 t) false).run Try.prog W1.drew = .ok (.slice Av (A t).length cv) W1.drew := by
    have := HM.out.drew.look law Try.underlying3 Try.underlying55 (zero22 _) t hwt
    rw [EV.out] at this
    exact this
  clear HM HOW hl8 d1 HW1 HT1
  have HCV := Aside0.mk hcv
  clear hcv
  refine start_ (n := 11) (S := fun w' => w'.cell? ⟨p, 0, none⟩ = some (.int .i64 t) ∧ w'.cell? ⟨p, 2, none⟩ = some (.map (some ba)) ∧ (Instr.lookup 55 (.map (some ba)) (.int .i64 t) false).run Try.prog w' = .ok (.slice Av (A t).length cv) w') (ds := []) #[false, false, false, false, false, false, false, false, false, false, false] (by kernel_rfl) rfl rfl ⟨d0, d2, hl9⟩ (fun hHeld => ?_)
  refine with_tabW tk5.tab tk5.bits (fun HT_ HW_ => ?_)
  generalize W1.drew = W2 at *
  refine pure_ (i := 0) (N := some 18) (v := ?_) (a' := ?_) #[true, false, false, false, false, false, false, false, false, false, false] rfl rfl (any_of HT_.out (by kernel_rfl)) (fun _ _ _ h => h) (Or.inl ⟨by rfl, ?_⟩) ?_ ?_
  rotate_left
  · intro w'
    go_simp
    with_reducible rfl
  rotate_left
  · simp only [Act.put, List.setIfInBounds_toArray, List.set_cons_zero, List.set_cons_succ, i64_w, i32_w]
    rfl
  refine pure_ (i := 1) (N := some 19) (v := ?_) (a' := ?_) #[true, true, false, false, false, false, false, false, false, false, false] rfl rfl (any_of HT_.out (by kernel_rfl)) (fun _ _ _ h => h) (Or.inl ⟨by rfl, ?_⟩) ?_ ?_
  rotate_left
  · intro w'
    go_simp
    with_reducible rfl
  rotate_left
  · simp only [Act.put, List.setIfInBounds_toArray, List.set_cons_zero, List.set_cons_succ, i64_w, i32_w]
    rfl
  refine pure_ (i := 2) (N := some 20) (v := ?_) (a' := ?_) #[true, true, true, false, false, false, false, false, false, false, false] rfl rfl (any_of HT_.out (by kernel_rfl)) (fun _ _ _ h => h) (Or.inl ⟨by rfl, ?_⟩) ?_ ?_
  rotate_left
  · intro w'
    go_simp
    with_reducible rfl
  rotate_left
  · simp only [Act.put, List.setIfInBounds_toArray, List.set_cons_zero, List.set_cons_succ, i64_w, i32_w]
    rfl
  refine pure_ (i := 4) (N := some 22) (v := ?_) (a' := ?_) #[true, true, true, false, true, false, false, false, false, false, false] rfl rfl (any_of HT_.out (by kernel_rfl)) (fun _ _ _ h => h) (Or.inl ⟨by rfl, ?_⟩) ?_ ?_
  rotate_left
  · intro w'
    go_simp
    with_reducible rfl
  rotate_left
  · simp only [Act.put, List.setIfInBounds_toArray, List.set_cons_zero, List.set_cons_succ, i64_w, i32_w]
    rfl
  refine pure_ (i := 5) (N := some 23) (v := ?_) (a' := ?_) #[true, true, true, false, true, true, false, false, false, false, false] rfl rfl (any_of HT_.out (by kernel_rfl)) (fun _ _ _ h => h) (Or.inl ⟨by rfl, ?_⟩) ?_ ?_
  rotate_left
  · intro w'
    go_simp
    with_reducible rfl
  rotate_left
  · simp only [Act.put, List.setIfInBounds_toArray, List.set_cons_zero, List.set_cons_succ, i64_w, i32_w]
    rfl
  refine pure_ (i := 6) (N := some 24) (v := ?_) (a' := ?_) #[true, true, true, false, true, true, true, false, false, false, false] rfl rfl (any_of HT_.out (by kernel_rfl)) (fun _ _ _ h => h) (Or.inl ⟨by rfl, ?_⟩) ?_ ?_
  rotate_left
  · intro w'
    go_simp
    with_reducible rfl
  rotate_left
  · simp only [Act.put, List.setIfInBounds_toArray, List.set_cons_zero, List.set_cons_succ, i64_w, i32_w]
    rfl
  refine pure_ (i := 10) (N := some 28) (v := ?_) (a' := ?_) #[true, true, true, false, true, true, true, false, false, false, true] rfl rfl (any_of HT_.out (by kernel_rfl)) (fun _ _ _ h => h) (Or.inl ⟨by rfl, ?_⟩) ?_ ?_
  rotate_left
  · intro w'
    go_simp
    with_reducible rfl
  rotate_left
  · simp only [Act.put, List.setIfInBounds_toArray, List.set_cons_zero, List.set_cons_succ, i64_w, i32_w]
    rfl
  refine take_ (i := 3) (N := some 21) (v := ?_) (a' := ?_) #[true, true, true, true, true, true, true, false, false, false, true] rfl rfl (take_ofW HT_.out HW_.out (by kernel_rfl)) (fun _ _ _ h => h) (Or.inl ⟨by rfl, ?_⟩) hHeld ?_ ?_
  rotate_left
  · rintro w' ⟨s0, s1, s2⟩
    go_simp
    with_reducible rfl
  rotate_left
  · simp only [Act.put, List.setIfInBounds_toArray, List.set_cons_zero, List.set_cons_succ, i64_w, i32_w]
    rfl
  refine take_ (i := 7) (N := some 25) (v := ?_) (a' := ?_) #[true, true, true, true, true, true, true, true, false, false, true] rfl rfl (take_ofW HT_.out HW_.out (by kernel_rfl)) (fun _ _ _ h => h) (Or.inl ⟨by rfl, ?_⟩) hHeld ?_ ?_
  rotate_left
  · rintro w' ⟨s0, s1, s2⟩
    go_simp
    with_reducible rfl
  rotate_left
  · simp only [Act.put, List.setIfInBounds_toArray, List.set_cons_zero, List.set_cons_succ, i64_w, i32_w]
    rfl
  refine take_ (i := 8) (N := some 26) (v := ?_) (a' := ?_) #[true, true, true, true, true, true, true, true, true, false, true] rfl rfl (take_ofW HT_.out HW_.out (by kernel_rfl)) (fun _ _ _ h => h) (Or.inl ⟨by rfl, ?_⟩) hHeld ?_ ?_
  rotate_left
  · rintro w' ⟨s0, s1, s2⟩
    go_simp
    with_reducible rfl
  rotate_left
  · simp only [Act.put, List.setIfInBounds_toArray, List.set_cons_zero, List.set_cons_succ, i64_w, i32_w]
    rfl
  refine pure_ (i := 9) (N := some 27) (v := ?_) (a' := ?_) #[true, true, true, true, true, true, true, true, true, true, true] rfl rfl (any_of HT_.out (by kernel_rfl)) (fun _ _ _ h => h) (Or.inl ⟨by rfl, ?_⟩) ?_ ?_
  rotate_left
  · intro w'
    go_simp
    with_reducible rfl
  rotate_left
  · simp only [Act.put, List.setIfInBounds_toArray, List.set_cons_zero, List.set_cons_succ, i64_w, i32_w]
    rfl
  refine done_ (done_of HT_.out (by kernel_rfl)) ?_
  clear hl9 d0 d2 hHeld HT_ HW_
  go_wp2
  go_loopw [28, 3] (fun i v wr => ∃ (k : Nat) (A2 : Option Addr) (c2 : Nat), k ≤ (A t).length ∧ i = .int .i64 k ∧ v = .slice A2 (outs D ((A t).take k) t).length c2 ∧ Aside0 (TickAt W F p bd t D n A c Av cv A2 c2 k wr)) (fun i _ _ => (A t).length - (intOf i).toNat)
  case atStart =>
    refine ⟨0, none, 0, Nat.zero_le _, rfl, rfl, ⟨⟨?_, hb1.out, HOW'.out, own_nil _ _ _ _, HT1'.out⟩⟩⟩
    have e0 : cutD D ((A t).take 0) t = D := by funext x; simp [cutD]
    rw [e0]
    exact HW1'.out
  case round =>
    clear HW1' HT1' HOW' hb1
    obtain ⟨k, A2, c2, hk, rfl, rfl, HK⟩ := hrel
    obtain ⟨bd', ba', e0, e1, e2, hm⟩ := HK.out.wheel.box
    have ebd : bd' = bd := by have := e1.symm.trans HK.out.box1; simpa using this
    subst ebd
    have HM2 := Aside0.mk hm
    by_cases hlt : k < (A t).length
    · have hlt' : (k : Int) < ((A t).length : Int) := by omega
      have hk0 : (0 : Int) ≤ (k : Int) := by omega
      obtain ⟨ad, ea, hr⟩ := at_nat (Kd.C_of_reads (own_reads' HK.out.row)) k hlt
      cases ea
      have hwx : (Lit.int .i64 (A t)[k]).wf = true := HA.out _ (List.getElem_mem hlt)
      have hl := hm.look_ok law Try.underlying3 Try.underlying54 (zero3 _) (A t)[k] hwx
      simp only [cutD_at (HI.out.one t) hlt] at hl
      clear hm
      have hdk : Aside0 (D (A t)[k] = D (A t)[k]) := ⟨rfl⟩
      generalize hx : (A t)[k] = x at hl hr hdk
      cases hd : D x with
      | none =>
        simp only [hd, Option.map_none, Option.getD_none, Option.isSome_none] at hl
        clear hdk
        go_wp2
        go_roundw
        case rel => exact ⟨k + 1, A2, c2, by omega, by go_num, by rw [outs_no hlt (by rw [hx, hd]; simp)], ⟨HK.out.same hlt (by rw [hx, hd]; simp)⟩⟩
        case measure => simp [intOf]; omega
      | some y =>
        simp only [hd, Option.map_some, Option.getD_some, Option.isSome_some] at hl
        by_cases hy : y = t
        · subst hy
          have hy1 : (y == y) = true := by simp
          have hy2 : (y != y) = false := by simp
          have hge : Aside0 (∀ k, (Value.slice A2 (outs D ((A y).take k) y).length c2).ownBlock = some k → W.heap.size ≤ k) := ⟨fun k hk => by cases A2 with | none => cases hk | some a => exact own_base HK.out.out _ hk⟩
          have hnp : some p ≠ (Value.slice A2 (outs D ((A y).take k) y).length c2).ownBlock := fun e => by have := own_base HK.out.out p e.symm; have := gl p f1; omega
          have hnb : some bd' ≠ (Value.slice A2 (outs D ((A y).take k) y).length c2).ownBlock := fun e => by have := own_base HK.out.out bd' e.symm; have := gl bd' f2; omega
          have hlen : (outs D ((A y).take k) y).length ≤ 1048576 := by
            have h1 := List.length_filter_le (fun x => decide (D x = some y)) ((A y).take k)
            have h2 := List.length_take_le k (A y)
            unfold outs
            omega
          have hbase := HK.out.turns.size
          have e1' : (wr.alloc (.cells #[.int .i64 x] 3)).cell? ⟨p, 1, none⟩ = some (.map (some bd')) := pw_cell_below (below_alloc (Below.refl wr.heap.size wr) _) e1
          have HOA := Aside0.mk (own_move HK.out.out (w1 := wr.alloc (.cells #[.int .i64 x] 3)) (fun k hk => (below_alloc (Below.refl wr.heap.size wr) _).block k (own_lt HK.out.out k hk)))
          have HN4 := Aside0.mk (World.news_of_block (blk_new wr (.cells #[.int .i64 x] 3)))
          have HMA := Aside0.mk (HM2.out.alloc (.cells #[.int .i64 x] 3))
          obtain ⟨i0, hi0, hz0, hz1, hz2⟩ := info_parts info3
          have HLEN := Aside0.mk hlen
          clear hdk hlen
          go_wp2_with (first | (at_builtin; go_loud (refine wpList_append_lies _ rfl _ _ _ rfl W.heap.size 3 i0 _ 1 8 Try.underlying22 hi0 hz0 hz1 hz2 rfl (by omega) (.slice A2 (outs D ((A y).take k) y).length c2) (outs D ((A y).take k) y).length (nums .i64 (outs D ((A y).take k) y)) (by rfl) HOA.out ⟨wr.heap.size, 0, none⟩ 1 1 (nums .i64 [x]) (by rfl) rfl HN4.out (fun u hu => by obtain ⟨x, _, rfl⟩ := List.mem_map.1 hu; rfl) (by omega) (by unfold maxLen; have := HLEN.out; omega) (by have := HLEN.out; omega) (by simp; omega) (wr.heap.size + 1) (by simp) ?_; intro g cap w5 hown5 hgrow5 hloc5 hg5; have e5 := hgrow5.cell e1' hnp; have HM5 := Aside0.mk (HMA.out.kept hgrow5 hnb))) | (at_delete; go_loud (refine wpList_drop_imap rfl _ _ rfl law Try.underlying3 Try.underlying54 (by rfl) HM5.out x (by rfl) (hx ▸ hwx) ?_; intro w6 hm6 ht6)))
          have HT6 := Aside0.mk (TickAt.hit HK.out hlt hx hd (HI.out.one _) gl f1 f2 g5 (fun i hi => ⟨(HOB.out i hi).1, (HOB.out i hi).2.1, (HOB.out i hi).2.2.1⟩) (((Turns.refl _ wr).alloc _).trans (Turns.of_grown hgrow5) (fun i h => .inl h)) hown5 hm6 (turned_block ht6))
          go_roundw
          case rel => exact ⟨k + 1, some ⟨g, 0, none⟩, cap, by omega, by go_num, by rw [outs_yes hlt (by rw [hx, hd])]; simp, HT6⟩
          case measure => simp [intOf]; omega
        · have hy1 : (y == t) = false := by simp [hy]
          have hy2 : (y != t) = true := by simp [hy]
          go_wp2
          go_roundw
          case rel => exact ⟨k + 1, A2, c2, by omega, by go_num, by rw [outs_no hlt (by rw [hx, hd]; simpa using hy)], ⟨HK.out.same hlt (by rw [hx, hd]; simpa using hy)⟩⟩
          case measure => simp [intOf]; omega
    · have ek : k = (A t).length := by omega
      subst ek
      clear HM2 hm e0 e1 e2 hlt hk
      have hK0 := HK.out
      have ec : cutD D (A t) t = tickD D t := by
        funext x
        unfold cutD tickD
        by_cases e : D x = some t
        · rw [if_pos ⟨HI.out.all x t e, e⟩, if_pos e]
        · rw [if_neg (fun h => e h.2), if_neg e]
      rw [List.take_length]
      obtain ⟨kw, kb, kr, ko, kt⟩ := hK0
      rw [List.take_length] at kw ko
      rw [ec] at kw
      obtain ⟨⟨bd2, ba2, na2, f', k1, k2, k3, k4, k5, k6, k7, l1, l2, l3, k8, k9, ka, kc⟩, kl⟩ := kw
      have e0 : wr.cell? ⟨p, 0, none⟩ = some (.int .i64 t) := (blk_cell k1 0).trans rfl
      have e2 : wr.cell? ⟨p, 2, none⟩ = some (.map (some ba2)) := (blk_cell k1 2).trans rfl
      have KM := Aside0.mk k3
      have KO := Aside0.mk ko
      have KT := Aside0.mk kt
      have K1 := Aside0.mk k1
      have K2 := Aside0.mk k2
      have K8 := Aside0.mk k8
      have K9 := Aside0.mk k9
      have KA := Aside0.mk ka
      have KC := Aside0.mk kc
      have KL := Aside0.mk kl
      have hll : Aside0 ((outs D (A t) t).length ≤ 1048576) := ⟨by
        have h1 := List.length_filter_le (fun x => decide (D x = some t)) (A t)
        unfold outs
        omega⟩
      clear k1 k2 k3 ko kt kr kb k8 k9 ka kc kl HK ec
      go_upto_region 13 with fail
      go_still_tail 8, (by kernel_rfl)
      refine wpList_drop_imap rfl _ _ rfl law Try.underlying3 Try.underlying55 (by rfl) KM.out.drew t (by rfl) hwt ?_
      intro w6 hm6 ht6
      have KD : Aside0 (WheelAt w6 F p t (tickD D t) (n - (outs D (A t) t).length) (putA A t []) c ∧ Turns F wr w6) := ⟨by
        have h1 := WheelAt.lose (W := wr.drew) (W' := w6) K1.out K2.out.drew k4 k5 k6 k7 l1 l2 l3 K8.out K9.out KA.out KC.out KL.out t hm6 (turned_block ht6)
        exact ⟨h1.1, (Turns.refl F wr).drew.trans h1.2 (fun i h => .inl h)⟩⟩
      have KO6 := Aside0.mk (own_move (w1 := w6) KO.out (fun k hk => KD.out.2.block k (own_lt KO.out k hk) (fun hf => by have := own_base KO.out k hk; have := gl k hf; omega)))
      have KL6 : Aside0 (∀ k, F k → k < w6.heap.size) := ⟨KD.out.1.lt⟩
      clear hm6 ht6
      go_wp2_with (go_at_call 24; refine (sort_own w6 W.heap.size A2 c2 (outs D (A t) t) KO6.out hll.out).mono ?_; rintro e w7 ⟨rfl, hown7, ht7⟩; have KO7 := Aside0.mk hown7; have KT7 := Aside0.mk ht7; clear hown7 ht7)
      go_ret
      have hge : ∀ k, (Value.slice A2 (outs D (A t) t).length c2).ownBlock = some k → W.heap.size ≤ k := own_base KO6.out
      refine ⟨⟨A2, c2, rfl, KO7.out⟩, KD.out.1.move KT7.out.size (fun k hk => KT7.out.block k (KL6.out k hk) (fun h => by have := hge k h; have := gl k hk; omega)), (KT.out.trans KD.out.2 (fun i h => .inl h)).trans KT7.out (fun i h => .inr (hge i h))⟩

end Go.Proofs.Ytncmkcdnlcmiaaa.Wh
