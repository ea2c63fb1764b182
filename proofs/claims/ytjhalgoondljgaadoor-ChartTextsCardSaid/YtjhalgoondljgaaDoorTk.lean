/- Take and Only: whatever comes, and a value that lies there. -/
import Derived.Test.YtjhalgoondljgaaDoorVb
import Derived.Test.YtjhalgoondljgaaDoorPChartTextsx0
namespace Go.Proofs.YtjhalgoondljgaaDoor.Re
open Go.RowKit Go.Lib Go.Proofs.YtjhalgoondljgaaDoorW.PrintWords Go.Proofs.YtjhalgoondljgaaDoorW.PrintLast Go.Proofs.YtjhalgoondljgaaDoorW.PrintMore Base
set_option linter.unusedVariables false
set_option linter.unusedSimpArgs false
noncomputable def tk4.T : Bool × List (List Nat × List Nat) := rtab .any (opsOf Tryd.f28 4)
def tk4.B : List Nat := [0, 0, 2, 6, 14, 1, 33, 127]
theorem tk4.tab : rtab .any (opsOf Tryd.f28 4) = tk4.T := rfl
theorem tk4.bits : waitsOk tk4.T.2 tk4.B = true := by kernel_rfl
noncomputable def tk7.T : Bool × List (List Nat × List Nat) := rtab .any (opsOf Tryd.f28 7)
def tk7.B : List Nat := [0, 1, 0, 4, 12, 28, 3, 127, 255]
theorem tk7.tab : rtab .any (opsOf Tryd.f28 7) = tk7.T := rfl
theorem tk7.bits : waitsOk tk7.T.2 tk7.B = true := by kernel_rfl
noncomputable def ol1.T : Bool × List (List Nat × List Nat) := rtab .any (opsOf Tryd.f16 1)
def ol1.B : List Nat := [0, 1, 3, 7, 7, 7, 0, 79, 223, 511]
theorem ol1.tab : rtab .any (opsOf Tryd.f16 1) = ol1.T := rfl
theorem ol1.bits : waitsOk ol1.T.2 ol1.B = true := by kernel_rfl
noncomputable def ol3.T : Bool × List (List Nat × List Nat) := rtab .any (opsOf Tryd.f16 3)
def ol3.B : List Nat := [0, 0, 1, 7]
theorem ol3.tab : rtab .any (opsOf Tryd.f16 3) = ol3.T := rfl
theorem ol3.bits : waitsOk ol3.T.2 ol3.B = true := by kernel_rfl
def putq (w : World) (b : Nat) (k n s l : Value) : World := (((w.setCell ⟨b, 0, none⟩ k).setCell ⟨b, 1, none⟩ n).setCell ⟨b, 2, none⟩ s).setCell ⟨b, 3, none⟩ l
theorem four_far {w : World} {b g o : Nat} {u : Value} (h : w.cell? ⟨g, o, none⟩ = some u) (hne : ¬ g = b) (k n s l : Value) :
    ((((w.setCell ⟨b, 0, none⟩ k).setCell ⟨b, 1, none⟩ n).setCell ⟨b, 2, none⟩ s).setCell ⟨b, 3, none⟩ l).cell? ⟨g, o, none⟩ = some u := by
  rw [World.cell?_of_block (w := w)]
  · exact h
  · show _ = w.heap[g]?
    rw [Below.heap_setCell _ _ _ _ hne, Below.heap_setCell _ _ _ _ hne, Below.heap_setCell _ _ _ _ hne, Below.heap_setCell _ _ _ _ hne]
theorem four_below {B : Nat} {a w : World} {b : Nat} (h : Below B a w) (hb : B ≤ b) (k n s l : Value) : Below B a ((((w.setCell ⟨b, 0, none⟩ k).setCell ⟨b, 1, none⟩ n).setCell ⟨b, 2, none⟩ s).setCell ⟨b, 3, none⟩ l) :=
  (((h.setCell (p := ⟨b, 0, none⟩) hb _).setCell (p := ⟨b, 1, none⟩) hb _).setCell (p := ⟨b, 2, none⟩) hb _).setCell (p := ⟨b, 3, none⟩) hb _
theorem four_turns {F : Nat → Prop} {a w : World} {b : Nat} (h : Turns F a w) (hb : F b) (k n s l : Value) : Turns F a ((((w.setCell ⟨b, 0, none⟩ k).setCell ⟨b, 1, none⟩ n).setCell ⟨b, 2, none⟩ s).setCell ⟨b, 3, none⟩ l) :=
  (((h.set_ (p := ⟨b, 0, none⟩) hb _).set_ (p := ⟨b, 1, none⟩) hb _).set_ (p := ⟨b, 2, none⟩) hb _).set_ (p := ⟨b, 3, none⟩) hb _
theorem VAt.form {G : Nat → Prop} {w : World} {v : V} {k n s l : Value} (h : VAt G w v k n s l) : ∃ q0 q1 q2 A3 n3 c3, k = .int .i64 q0 ∧ n = .int .i64 q1 ∧ s = .string q2 ∧ l = .slice A3 n3 c3 := by
  cases h <;> exact ⟨_, _, _, _, _, _, rfl, rfl, rfl, rfl⟩

/-- What reading a text's value ends in; N: it may be refused; Q: which value, and where it ends. -/
def ReadDone (N : Prop) (Q : V → Nat → Prop) (s : ByteArray) (w : World) (p : Nat) (e : Ending) (w' : World) : Prop :=
  ∃ (x : Value) (b er : Int), e = .returned x ∧ IsIf x ∧ RdAt w' p s b er ∧ Turns (At p) w w' ∧ ((¬ er = 0 ∧ N) ∨ (er = 0 ∧ ∃ (v : V) (c : Nat), b = c ∧ c ≤ s.size ∧ AAt (fun g => w.heap.size ≤ g) w' v x ∧ Q v c))
def ReadsTo (N : Prop) (Q : V → Nat → Prop) (s : ByteArray) : Prop := ∀ (w : World) (p : Nat), RdAt w p s 0 0 → Calls Tryd.prog 34 #[.pointer (some ⟨p, 0, none⟩), .int .i64 0] w (ReadDone N Q s w p)
def TakeDone (N : Prop) (Q : V → Nat → Prop) (w : World) (e : Ending) (w' : World) : Prop :=
  Below w.heap.size w w' ∧ ((N ∧ ∃ er : Int, ¬ er = 0 ∧ e = .returned (.tuple #[.agg #[.int .i64 0, .int .i64 0, .string ⟨#[]⟩, .slice none 0 0], .int .i64 0, .int .i64 er])) ∨
    ∃ (v : V) (c : Nat) (k n s l : Value), e = .returned (.tuple #[.agg #[k, n, s, l], .int .i64 c, .int .i64 0]) ∧ VAt (fun g => w.heap.size ≤ g) w' v k n s l ∧ Q v c)

set_option maxRecDepth 100000 in
set_option maxHeartbeats 4000000 in
theorem take_calls (N : Prop) (Q : V → Nat → Prop) (s : ByteArray) (hs : s.size ≤ 2048) (hv : ReadsTo N Q s) (w : World) : Calls Tryd.prog 28 #[.string s] w (TakeDone N Q w) := by
  have HV := Aside0.mk hv
  clear hv
  obtain ⟨B, hB⟩ : ∃ B, w.heap.size = B := ⟨_, rfl⟩
  have HBE := Aside0.mk hB
  go_enter Tryd.func28, Tryd.ntmps28
  go_wp2_with fail
  obtain ⟨w2, hw2⟩ : ∃ w2, ((w.alloc (.cells #[.int .i64 0, .int .i64 0, .string ⟨#[]⟩, .slice none 0 0] 36)).alloc (.cells #[.string s, .int .i64 0, .int .i64 0] 68)) = w2 := ⟨_, rfl⟩
  have HRD : Aside0 (RdAt w2 (B + 1) s 0 0) := ⟨by rw [← hw2, ← HBE.out, ← size_alloc w (.cells #[.int .i64 0, .int .i64 0, .string ⟨#[]⟩, .slice none 0 0] 36)]; exact blk_new _ _⟩
  have HB2 : Aside0 (w2.heap[B]? = some (.cells #[.int .i64 0, .int .i64 0, .string ⟨#[]⟩, .slice none 0 0] 36 (0, 0))) := ⟨by rw [← hw2, ← HBE.out]; exact blk_alloc (blk_new _ _) _⟩
  have HW2 : Aside0 (Below w.heap.size w w2) := ⟨by rw [← hw2]; exact below_alloc (below_alloc (Below.refl _ _) _) _⟩
  have HS2 : Aside0 (w2.heap.size = B + 2) := ⟨by rw [← hw2, size_alloc, size_alloc, HBE.out]⟩
  rw [hw2]
  clear hw2 hB
  refine (HV.out w2 (B + 1) HRD.out).mono ?_
  rintro e w3 ⟨x, b, er, rfl, hif, hr3, ht3, hcase⟩
  have c1 := hr3.c1
  have c2 := hr3.c2
  have HR3 := Aside0.mk hr3
  have HT3 := Aside0.mk ht3
  have HCA := Aside0.mk hcase
  have HB3 : Aside0 (w3.heap[B]? = some (.cells #[.int .i64 0, .int .i64 0, .string ⟨#[]⟩, .slice none 0 0] 36 (0, 0))) := ⟨(ht3.block B (by rw [HS2.out]; omega) (by show ¬ B = B + 1; omega)).trans HB2.out⟩
  have HW3 : Aside0 (Below w.heap.size w w3) := ⟨⟨ht3.os.trans HW2.out.os, ht3.tape.trans HW2.out.tape, ht3.output.trans HW2.out.output, Nat.le_trans HW2.out.size ht3.size, fun i hi => (ht3.block i (Nat.lt_of_lt_of_le hi HW2.out.size) (by show ¬ i = B + 1; rw [HBE.out] at hi; omega)).trans (HW2.out.block i hi)⟩⟩
  clear hr3 ht3 hcase
  by_cases her : er = 0
  · subst her
    obtain ⟨v, c, rfl, hcs, hav, hq⟩ : ∃ (v : V) (c : Nat), b = c ∧ c ≤ s.size ∧ AAt (fun g => w2.heap.size ≤ g) w3 v x ∧ Q v c := by
      rcases HCA.out with ⟨h, _⟩ | ⟨_, h⟩
      · exact absurd rfl h
      · exact h
    have HAV := Aside0.mk hav
    have HQ := Aside0.mk hq
    have hc6 : ¬ (65536 : Int) < (c : Int) := by omega
    clear hav hq HCA
    go_upto_region 7 with (fail)
    have HBD : Aside0 (w3.drew.heap[B]? = some (.cells #[.int .i64 0, .int .i64 0, .string ⟨#[]⟩, .slice none 0 0] 36 (0, 0))) := ⟨HB3.out⟩
    have HWW : Aside0 (Below w.heap.size w w3.drew) := ⟨below_drew1 HW3.out⟩
    have HSD : Aside0 (B < w3.drew.heap.size) := ⟨by have := HR3.out.lt; show B < w3.heap.size; omega⟩
    have HWD : Aside0 (Below w3.heap.size w3 w3.drew) := ⟨below_drew1 (Below.refl _ _)⟩
    have HOF : Aside0 (∀ W, Below w3.heap.size w3 W → Calls Tryd.prog 35 #[x] W (OfDone W v)) := ⟨of_calls HAV.out⟩
    refine start_ (n := 9) (S := fun w' => w'.cell? ⟨B + 1, 1, none⟩ = some (.int .i64 (c : Int))) (ds := []) #[false, false, false, false, false, false, false, false, false] (by kernel_rfl) rfl rfl c1 (fun hHeld => ?_)
    refine with_tabW tk7.tab tk7.bits (fun HT_ HW_ => ?_)
    generalize hwD : w3.drew = wD at *
    refine pure_ (i := 0) (N := some 30) (v := ?_) (a' := ?_) #[true, false, false, false, false, false, false, false, false] rfl rfl (any_of HT_.out (by kernel_rfl)) (fun _ _ _ h => h) (Or.inl ⟨by rfl, ?_⟩) ?_ ?_
    rotate_left
    · intro w'
      go_simp
      with_reducible rfl
    rotate_left
    · simp only [Act.put, List.setIfInBounds_toArray, List.set_cons_zero, List.set_cons_succ, i64_w, i32_w]
      rfl
    refine pure_ (i := 2) (N := some 32) (v := ?_) (a' := ?_) #[true, false, true, false, false, false, false, false, false] rfl rfl (any_of HT_.out (by kernel_rfl)) (fun _ _ _ h => h) (Or.inl ⟨by rfl, ?_⟩) ?_ ?_
    rotate_left
    · intro w'
      go_simp
      with_reducible rfl
    rotate_left
    · simp only [Act.put, List.setIfInBounds_toArray, List.set_cons_zero, List.set_cons_succ, i64_w, i32_w]
      rfl
    refine pure_ (i := 3) (N := some 33) (v := ?_) (a' := ?_) #[true, false, true, true, false, false, false, false, false] rfl rfl (any_of HT_.out (by kernel_rfl)) (fun _ _ _ h => h) (Or.inl ⟨by rfl, ?_⟩) ?_ ?_
    rotate_left
    · intro w'
      go_simp
      with_reducible rfl
    rotate_left
    · simp only [Act.put, List.setIfInBounds_toArray, List.set_cons_zero, List.set_cons_succ, i64_w, i32_w]
      rfl
    refine pure_ (i := 4) (N := some 34) (v := ?_) (a' := ?_) #[true, false, true, true, true, false, false, false, false] rfl rfl (any_of HT_.out (by kernel_rfl)) (fun _ _ _ h => h) (Or.inl ⟨by rfl, ?_⟩) ?_ ?_
    rotate_left
    · intro w'
      go_simp
      with_reducible rfl
    rotate_left
    · simp only [Act.put, List.setIfInBounds_toArray, List.set_cons_zero, List.set_cons_succ, i64_w, i32_w]
      rfl
    refine take_ (i := 5) (N := some 35) (v := ?_) (a' := ?_) #[true, false, true, true, true, true, false, false, false] rfl rfl (take_ofW HT_.out HW_.out (by kernel_rfl)) (fun _ _ _ h => h) (Or.inl ⟨by rfl, ?_⟩) hHeld ?_ ?_
    rotate_left
    · rintro w' s0
      go_simp
      with_reducible rfl
    rotate_left
    · simp only [Act.put, List.setIfInBounds_toArray, List.set_cons_zero, List.set_cons_succ, i64_w, i32_w]
      rfl
    refine one_ (i := 1) (N := some 31) #[true, true, true, true, true, true, false, false, false] rfl rfl (one_of HT_.out (by kernel_rfl)) (by decide) (fun K hK => ?_)
    refine goes_ Tryd.func35 (by kernel_rfl) rfl #[x] (by rfl) rfl rfl (by (try simp only [List.map_toArray, List.map_cons, List.map_nil]); first | done | rfl) ?_
    refine (HOF.out wD HWD.out).mono ?_
    rintro e w5 ⟨k0, n0, s0, l0, rfl, hv5, hb5⟩
    refine ⟨_, rfl, ?_⟩
    have HV5 := Aside0.mk hv5
    have HB5 := Aside0.mk hb5
    refine hK.out _ _ (pw_cell_below hb5 hHeld) (fun hH2 => ?_)
    clear hHeld hK K hv5 hb5
    refine norm_ (a' := ?_) ?_ ?_
    rotate_left
    · simp only [Act.put, List.setIfInBounds_toArray, List.set_cons_zero, List.set_cons_succ, i64_w, i32_w]
      rfl
    refine one_ (i := 6) (N := none) #[true, true, true, true, true, true, true, false, false] rfl rfl (one_of HT_.out (by kernel_rfl)) (by decide) (fun K hK => ?_)
    have hb5 := blk_below HBD.out HB5.out
    have r0 : w5.cell? ⟨B, 0, none⟩ = some (.int .i64 0) := (blk_cell hb5 0).trans rfl
    have r1 : w5.cell? ⟨B, 1, none⟩ = some (.int .i64 0) := (blk_cell hb5 1).trans rfl
    have r2 : w5.cell? ⟨B, 2, none⟩ = some (.string ⟨#[]⟩) := (blk_cell hb5 2).trans rfl
    have r3 : w5.cell? ⟨B, 3, none⟩ = some (.slice none 0 0) := (blk_cell hb5 3).trans rfl
    have z0 := blk_frozen hb5 0
    have z1 := blk_frozen hb5 1
    have z2 := blk_frozen hb5 2
    have z3 := blk_frozen hb5 3
    obtain ⟨q0, q1, q2, A3, n3, c3, rfl, rfl, rfl, rfl⟩ := HV5.out.form
    refine skip_ (w1 := ?_) (by rfl) rfl ?_ ?_
    rotate_left
    · go_simp
      rfl
    refine hK.out _ _ ?_ (fun hH3 => ?_)
    · exact four_far hH2 (by simp) _ _ _ _
    clear hH2 hK K r0 r1 r2 r3 z0 z1 z2 z3
    refine pure_ (i := 7) (N := some 3) (v := ?_) (a' := ?_) #[true, true, true, true, true, true, true, true, false] rfl rfl (any_of HT_.out (by kernel_rfl)) (fun _ _ _ h => h) (Or.inl ⟨by rfl, ?_⟩) ?_ ?_
    rotate_left
    · intro w'
      go_simp
      with_reducible rfl
    rotate_left
    · simp only [Act.put, List.setIfInBounds_toArray, List.set_cons_zero, List.set_cons_succ, i64_w, i32_w]
      rfl
    refine pure_ (i := 8) (N := some 4) (v := ?_) (a' := ?_) #[true, true, true, true, true, true, true, true, true] rfl rfl (any_of HT_.out (by kernel_rfl)) (fun _ _ _ h => h) (Or.inl ⟨by rfl, ?_⟩) ?_ ?_
    rotate_left
    · intro w'
      go_simp
      with_reducible rfl
    rotate_left
    · simp only [Act.put, List.setIfInBounds_toArray, List.set_cons_zero, List.set_cons_succ, i64_w, i32_w]
      rfl
    refine done_ (done_of HT_.out (by kernel_rfl)) ?_
    obtain ⟨q0, q1, q2, A3, n3, c3, e0, e1, e2, e3⟩ := HV5.out.form
    have hbF := blk_put (blk_put (blk_put (blk_put (blk_below HBD.out HB5.out) 0 (.int .i64 q0) rfl) 1 (.int .i64 q1) rfl) 2 (.string q2) rfl) 3 (.slice A3 n3 c3) rfl
    have x0 := (blk_cell hbF 0).trans (rfl : _ = some (Value.int .i64 q0))
    have x1 := (blk_cell hbF 1).trans (rfl : _ = some (Value.int .i64 q1))
    have x2 := (blk_cell hbF 2).trans (rfl : _ = some (Value.string q2))
    have x3 := (blk_cell hbF 3).trans (rfl : _ = some (Value.slice A3 n3 c3))
    clear hbF hH3
    injection e0 with _ e0; injection e1 with _ e1; injection e2 with e2; injection e3 with e3 e4 e5
    subst e0 e1 e2 e3 e4 e5
    have HBF := Aside0.mk (four_below (b := B) (below_step HWW.out HB5.out) (by rw [HBE.out]; exact Nat.le_refl _) (.int .i64 q0) (.int .i64 q1) (.string q2) (.slice A3 n3 c3))
    have HVF := Aside0.mk (HV5.out.turns (four_turns (b := B) (F := fun i => i = B) (Turns.refl _ _) rfl (.int .i64 q0) (.int .i64 q1) (.string q2) (.slice A3 n3 c3)) (fun i hi _ h => by have := HSD.out; omega))
    go_wp2_with fail
    refine bodyPost_ret (v := .tuple #[.agg #[.int .i64 q0, .int .i64 q1, .string q2, .slice A3 n3 c3], .int .i64 (c : Int), .int .i64 0]) (by simp [results, Tryd.results28, go_sem, x0, x1, x2, x3]) rfl ⟨HBF.out, .inr ⟨v, c, _, _, _, _, rfl, HVF.out.mono (fun i hi _ => Nat.le_trans HWW.out.size hi), HQ.out⟩⟩
  · obtain ⟨hN⟩ : Nonempty N := by
      rcases HCA.out with ⟨_, h⟩ | ⟨h, _⟩
      · exact ⟨h⟩
      · exact absurd h her
    have HN := Aside0.mk hN
    clear hN HCA
    go_upto_region 4 with (fail)
    have HBD : Aside0 (w3.drew.heap[B]? = some (.cells #[.int .i64 0, .int .i64 0, .string ⟨#[]⟩, .slice none 0 0] 36 (0, 0))) := ⟨HB3.out⟩
    have HWW : Aside0 (Below w.heap.size w w3.drew) := ⟨below_drew1 HW3.out⟩
    refine start_ (n := 8) (S := fun w' => w'.cell? ⟨B + 1, 2, none⟩ = some (.int .i64 er)) (ds := []) #[false, false, false, false, false, false, false, false] (by kernel_rfl) rfl rfl c2 (fun hHeld => ?_)
    refine with_tabW tk4.tab tk4.bits (fun HT_ HW_ => ?_)
    generalize hwD : w3.drew = wD at *
    refine pure_ (i := 0) (N := some 18) (v := ?_) (a' := ?_) #[true, false, false, false, false, false, false, false] rfl rfl (any_of HT_.out (by kernel_rfl)) (fun _ _ _ h => h) (Or.inl ⟨by rfl, ?_⟩) ?_ ?_
    rotate_left
    · intro w'
      go_simp
      with_reducible rfl
    rotate_left
    · simp only [Act.put, List.setIfInBounds_toArray, List.set_cons_zero, List.set_cons_succ, i64_w, i32_w]
      rfl
    refine pure_ (i := 1) (N := some 19) (v := ?_) (a' := ?_) #[true, true, false, false, false, false, false, false] rfl rfl (any_of HT_.out (by kernel_rfl)) (fun _ _ _ h => h) (Or.inl ⟨by rfl, ?_⟩) ?_ ?_
    rotate_left
    · intro w'
      go_simp
      with_reducible rfl
    rotate_left
    · simp only [Act.put, List.setIfInBounds_toArray, List.set_cons_zero, List.set_cons_succ, i64_w, i32_w]
      rfl
    refine pure_ (i := 2) (N := some 20) (v := ?_) (a' := ?_) #[true, true, true, false, false, false, false, false] rfl rfl (any_of HT_.out (by kernel_rfl)) (fun _ _ _ h => h) (Or.inl ⟨by rfl, ?_⟩) ?_ ?_
    rotate_left
    · intro w'
      go_simp
      with_reducible rfl
    rotate_left
    · simp only [Act.put, List.setIfInBounds_toArray, List.set_cons_zero, List.set_cons_succ, i64_w, i32_w]
      rfl
    refine pure_ (i := 3) (N := some 21) (v := ?_) (a' := ?_) #[true, true, true, true, false, false, false, false] rfl rfl (any_of HT_.out (by kernel_rfl)) (fun _ _ _ h => h) (Or.inl ⟨by rfl, ?_⟩) ?_ ?_
    rotate_left
    · intro w'
      go_simp
      with_reducible rfl
    rotate_left
    · simp only [Act.put, List.setIfInBounds_toArray, List.set_cons_zero, List.set_cons_succ, i64_w, i32_w]
      rfl
    refine take_ (i := 4) (N := some 22) (v := ?_) (a' := ?_) #[true, true, true, true, true, false, false, false] rfl rfl (take_ofW HT_.out HW_.out (by kernel_rfl)) (fun _ _ _ h => h) (Or.inl ⟨by rfl, ?_⟩) hHeld ?_ ?_
    rotate_left
    · rintro w' s0
      go_simp
      with_reducible rfl
    rotate_left
    · simp only [Act.put, List.setIfInBounds_toArray, List.set_cons_zero, List.set_cons_succ, i64_w, i32_w]
      rfl
    refine one_ (i := 5) (N := none) #[true, true, true, true, true, true, false, false] rfl rfl (one_of HT_.out (by kernel_rfl)) (by decide) (fun K hK => ?_)
    have r0 : wD.cell? ⟨B, 0, none⟩ = some (.int .i64 0) := (blk_cell HBD.out 0).trans rfl
    have r1 : wD.cell? ⟨B, 1, none⟩ = some (.int .i64 0) := (blk_cell HBD.out 1).trans rfl
    have r2 : wD.cell? ⟨B, 2, none⟩ = some (.string ⟨#[]⟩) := (blk_cell HBD.out 2).trans rfl
    have r3 : wD.cell? ⟨B, 3, none⟩ = some (.slice none 0 0) := (blk_cell HBD.out 3).trans rfl
    have z0 := blk_frozen HBD.out 0
    have z1 := blk_frozen HBD.out 1
    have z2 := blk_frozen HBD.out 2
    have z3 := blk_frozen HBD.out 3
    refine skip_ (w1 := ?_) (by rfl) rfl ?_ ?_
    rotate_left
    · go_simp
      rfl
    refine hK.out _ _ ?_ (fun hH2 => ?_)
    · exact four_far hHeld (by simp) _ _ _ _
    clear hHeld hK K r0 r1 r2 r3 z0 z1 z2 z3
    refine pure_ (i := 6) (N := some 3) (v := ?_) (a' := ?_) #[true, true, true, true, true, true, true, false] rfl rfl (any_of HT_.out (by kernel_rfl)) (fun _ _ _ h => h) (Or.inl ⟨by rfl, ?_⟩) ?_ ?_
    rotate_left
    · intro w'
      go_simp
      with_reducible rfl
    rotate_left
    · simp only [Act.put, List.setIfInBounds_toArray, List.set_cons_zero, List.set_cons_succ, i64_w, i32_w]
      rfl
    refine pure_ (i := 7) (N := some 4) (v := ?_) (a' := ?_) #[true, true, true, true, true, true, true, true] rfl rfl (any_of HT_.out (by kernel_rfl)) (fun _ _ _ h => h) (Or.inl ⟨by rfl, ?_⟩) ?_ ?_
    rotate_left
    · intro w'
      go_simp
      with_reducible rfl
    rotate_left
    · simp only [Act.put, List.setIfInBounds_toArray, List.set_cons_zero, List.set_cons_succ, i64_w, i32_w]
      rfl
    refine done_ (done_of HT_.out (by kernel_rfl)) ?_
    have hbF := blk_put (blk_put (blk_put (blk_put HBD.out 0 (.int .i64 0) rfl) 1 (.int .i64 0) rfl) 2 (.string ⟨#[]⟩) rfl) 3 (.slice none 0 0) rfl
    have x0 := (blk_cell hbF 0).trans (rfl : _ = some (Value.int .i64 0))
    have x1 := (blk_cell hbF 1).trans (rfl : _ = some (Value.int .i64 0))
    have x2 := (blk_cell hbF 2).trans (rfl : _ = some (Value.string ⟨#[]⟩))
    have x3 := (blk_cell hbF 3).trans (rfl : _ = some (Value.slice none 0 0))
    clear hbF hH2
    have HBF := Aside0.mk (four_below (b := B) HWW.out (by rw [HBE.out]; exact Nat.le_refl _) (.int .i64 0) (.int .i64 0) (.string ⟨#[]⟩) (.slice none 0 0))
    go_wp2_with fail
    refine bodyPost_ret (v := .tuple #[.agg #[.int .i64 0, .int .i64 0, .string ⟨#[]⟩, .slice none 0 0], .int .i64 0, .int .i64 er]) (by simp [results, Tryd.results28, go_sem, x0, x1, x2, x3]) rfl ⟨HBF.out, .inl ⟨HN.out, er, her, rfl⟩⟩
end Go.Proofs.YtjhalgoondljgaaDoor.Re
