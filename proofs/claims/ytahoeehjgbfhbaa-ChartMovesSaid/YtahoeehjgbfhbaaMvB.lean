/- ChartMoves: the law's walk. -/
import Derived.Test.YtahoeehjgbfhbaaMvA
namespace Go.Proofs.Ytahoeehjgbfhbaa.Ch
open Base Go.RowKit Go.Proofs.YtahoeehjgbfhbaaW.PrintWords Go.Proofs.YtahoeehjgbfhbaaW.PrintLast Go.Proofs.YtahoeehjgbfhbaaW.PrintMore
set_option linter.unusedVariables false
set_option linter.unusedSimpArgs false
open PChartMoves (S31 k31)

noncomputable def mv7.T : Bool × List (List Nat × List Nat) := rtab .any (opsOf Try.f4 7)
def mv7.B : List Nat := [0, 0, 3, 7, 15, 15, 63, 127, 255, 511, 511, 2047, 4095, 8191, 16383, 16383, 65535, 131071, 262143, 524287, 1048575, 524287, 4194303, 8388607, 16777215, 33554431, 67108863, 134217727, 268435455]
theorem mv7.tab : rtab .any (opsOf Try.f4 7) = mv7.T := rfl
theorem mv7.bits : waitsOk mv7.T.2 mv7.B = true := by kernel_rfl

set_option maxHeartbeats 1000000 in
theorem moves_long (ep : Int) (A : Option Addr) (c : Nat) (xs : List Int) (ep' : Int) (A' : Option Addr) (c' : Nat) (ys : List Int) (s f t : Int) (w : World) (h : 100 < xs.length ∨ 100 < ys.length) :
    Calls Try.prog 4 #[.agg #[.int .i64 ep, .slice A xs.length c], .agg #[.int .i64 ep', .slice A' ys.length c'], .agg #[.int .i64 s, .int .i64 f, .int .i64 t]] w (Yes w) := by
  by_cases h1 : 100 < xs.length
  · clear h
    go_enter Try.func4, Try.ntmps4
    go_wp2_with (go_at_call 7; refine (awake_calls _).mono ?_; rintro e w6 ⟨rfl, hb6⟩)
    go_ret
    exact ⟨rfl, below_step (below_alloc (below_alloc (below_alloc (Below.refl _ _) _) _) _) hb6⟩
  · have h2 : 100 < ys.length := by omega
    clear h
    go_enter Try.func4, Try.ntmps4
    go_wp2_with (go_at_call 7; refine (awake_calls _).mono ?_; rintro e w6 ⟨rfl, hb6⟩)
    go_ret
    exact ⟨rfl, below_step (below_alloc (below_alloc (below_alloc (Below.refl _ _) _) _) _) hb6⟩

set_option maxHeartbeats 2000000 in
theorem moves_calls (ep : Int) (A : Option Addr) (c : Nat) (xs : List Int) (ep' : Int) (A' : Option Addr) (c' : Nat) (ys : List Int) (s f t : Int) (w : World)
  (hr : Kd.C (Kd.int .i64) w A xs.length xs) (hcc : xs.length ≤ c) (hr' : Kd.C (Kd.int .i64) w A' ys.length ys) (hcc' : ys.length ≤ c') :
    Calls Try.prog 4 #[.agg #[.int .i64 ep, .slice A xs.length c], .agg #[.int .i64 ep', .slice A' ys.length c'], .agg #[.int .i64 s, .int .i64 f, .int .i64 t]] w (Yes w) := by
  by_cases hlong : 100 < xs.length ∨ 100 < ys.length
  · exact moves_long ep A c xs ep' A' c' ys s f t w hlong
  have h1 : ¬ 100 < xs.length := by omega
  have h2 : ¬ 100 < ys.length := by omega
  have HX := Aside0.mk hr.2.1
  have HR := Aside0.mk hr
  have HR' := Aside0.mk hr'
  have HCA := Aside0.mk hcc
  have HCB := Aside0.mk hcc'
  clear hr hr' hcc hcc' hlong
  go_enter Try.func4, Try.ntmps4
  have hb0 := below_alloc (below_alloc (below_alloc (Below.refl w.heap.size w) (.cells #[.int .i64 ep, .slice A xs.length c] 24)) (.cells #[.int .i64 ep', .slice A' ys.length c'] 24)) (.cells #[.int .i64 s, .int .i64 f, .int .i64 t] 31)
  go_wp2_with fail
  refine (diff_both ep A c xs ep' A' c' ys _ (Kd.C_below HR.out hb0) HCA.out (Kd.C_below HR'.out hb0) HCB.out).mono ?_
  rintro e w1 ⟨⟨A1, c1, rfl, hc1, hC1⟩, hb1⟩
  have q0 : w1.cell? ⟨w.heap.size, 0, none⟩ = some (.int .i64 ep) := pw_cell_below hb1 (by simp [World.cell?_alloc_new, go_sem])
  have q1 : w1.cell? ⟨w.heap.size, 1, none⟩ = some (.slice A xs.length c) := pw_cell_below hb1 (by go_simp)
  have q2 : w1.cell? ⟨w.heap.size + 1, 0, none⟩ = some (.int .i64 ep') := pw_cell_below hb1 (by go_simp)
  have q3 : w1.cell? ⟨w.heap.size + 1, 1, none⟩ = some (.slice A' ys.length c') := pw_cell_below hb1 (by go_simp)
  have q4 : w1.cell? ⟨w.heap.size + 1 + 1, 0, none⟩ = some (.int .i64 s) := pw_cell_below hb1 (by go_simp)
  have q5 : w1.cell? ⟨w.heap.size + 1 + 1, 1, none⟩ = some (.int .i64 f) := pw_cell_below hb1 (by go_simp)
  have q6 : w1.cell? ⟨w.heap.size + 1 + 1, 2, none⟩ = some (.int .i64 t) := pw_cell_below hb1 (by go_simp)
  have HL1 := Aside0.mk hC1
  have HC1 := Aside0.mk hc1
  have hz := hb1.size
  have hB1 := below_step hb0 hb1
  have hz1 : w.heap.size + 2 < w1.heap.size := by simp at hz; omega
  clear hC1 hc1 hz hb0 hb1
  go_wp2_with fail
  refine (rdiff_both ep A c xs ep' A' c' ys _ (Kd.C_below HR.out hB1) HCA.out (Kd.C_below HR'.out hB1) HCB.out).mono ?_
  rintro e w2 ⟨⟨A2, c2, rfl, hc2, hC2⟩, hb2⟩
  have r0 := pw_cell_below hb2 q0
  have r1 := pw_cell_below hb2 q1
  have r4 := pw_cell_below hb2 q4
  have r5 := pw_cell_below hb2 q5
  have r6 := pw_cell_below hb2 q6
  have HL1' := Aside0.mk (Kd.C_below HL1.out hb2)
  have HL2 := Aside0.mk hC2
  have HC2 := Aside0.mk hc2
  have hB2 := below_step hB1 hb2
  have hz2 : w.heap.size + 2 < w2.heap.size := by have := hb2.size; omega
  clear q0 q1 q2 q3 q4 q5 q6 hC2 hc2 hb2 hB1 HL1 hz1
  go_wp2_with fail
  refine (done_both ep A c xs s f t _ (Kd.C_below HR.out hB2) HCA.out).mono ?_
  rintro e w3 ⟨⟨A3, c3, rfl, hc3, hC3, _⟩, hb3⟩
  have q0 := pw_cell_below hb3 r0
  have q1 := pw_cell_below hb3 r1
  have q4 := pw_cell_below hb3 r4
  have q5 := pw_cell_below hb3 r5
  have q6 := pw_cell_below hb3 r6
  have HL1 := Aside0.mk (Kd.C_below HL1'.out hb3)
  have HL2' := Aside0.mk (Kd.C_below HL2.out hb3)
  have HL3 := Aside0.mk hC3
  have HC3 := Aside0.mk hc3
  have hB3 := below_step hB2 hb3
  have hz3 : w.heap.size + 1 + 1 < w3.heap.size := by have := hb3.size; omega
  have hz3a : w.heap.size < w3.heap.size := by omega
  clear r0 r1 r4 r5 r6 hC3 hc3 hb3 hB2 HL1' HL2 hz2
  go_wp2_with fail
  have hbx := below_alloc (Below.refl w3.heap.size w3) (.cells #[.int .i64 (dEp ep xs s f t), .slice A3 (dL ep xs s f t).length c3] 24)
  have hB3' := below_step hB3 hbx
  refine (rdone_both ep A c xs s f t _ (Kd.C_below HR.out hB3') HCA.out).mono ?_
  rintro e w4 ⟨⟨A4, c4, rfl, hc4, hC4, _⟩, hb4⟩
  have hb34 := below_step hbx hb4
  have r0 := pw_cell_below hb34 q0
  have r1 := pw_cell_below hb34 q1
  have r8 : w4.cell? ⟨w3.heap.size, 0, none⟩ = some (.int .i64 (dEp ep xs s f t)) := pw_cell_below hb4 (by go_simp)
  have r9 : w4.cell? ⟨w3.heap.size, 1, none⟩ = some (.slice A3 (dL ep xs s f t).length c3) := pw_cell_below hb4 (by go_simp)
  have HL1' := Aside0.mk (Kd.C_below HL1.out hb34)
  have HL2 := Aside0.mk (Kd.C_below HL2'.out hb34)
  have HL3' := Aside0.mk (Kd.C_below HL3.out hb34)
  have HL4 := Aside0.mk hC4
  have HC4 := Aside0.mk hc4
  have hB4 := below_step hB3 hb34
  have hz4 : w3.heap.size < w4.heap.size := by have := hb4.size; simp at this; omega
  clear q0 q1 q4 q5 q6 hC4 hc4 hb4 hb34 hB3 hB3' hbx HL1 HL2' HL3
  go_wp2_with fail
  have hby := below_alloc (Below.refl w4.heap.size w4) (.cells #[.int .i64 (dEp ep xs s f t), .slice A4 (dL ep xs s f t).length c4] 24)
  have p0 := pw_cell_below hby r8
  have p1 := pw_cell_below hby r9
  have p2 : (w4.alloc (.cells #[.int .i64 (dEp ep xs s f t), .slice A4 (dL ep xs s f t).length c4] 24)).cell? ⟨w4.heap.size, 0, none⟩ = some (.int .i64 (dEp ep xs s f t)) := by go_simp
  have p3 : (w4.alloc (.cells #[.int .i64 (dEp ep xs s f t), .slice A4 (dL ep xs s f t).length c4] 24)).cell? ⟨w4.heap.size, 1, none⟩ = some (.slice A4 (dL ep xs s f t).length c4) := by go_simp
  have p4 := pw_cell_below hby r0
  have p5 := pw_cell_below hby r1
  have HBY := Aside0.mk hby
  have HB5 := below_step hB4 hby
  have HL1 := Aside0.mk (Kd.C_below HL1'.out hby)
  have HL2' := Aside0.mk (Kd.C_below HL2.out hby)
  have HL3 := Aside0.mk (Kd.C_below HL3'.out hby)
  have HL4' := Aside0.mk (Kd.C_below HL4.out hby)
  clear r0 r1 r8 r9 hby hB4 HL1' HL2 HL3' HL4 HBY
  generalize w4.alloc (.cells #[.int .i64 (dEp ep xs s f t), .slice A4 (dL ep xs s f t).length c4] 24) = Wc at *
  generalize w3.heap.size = g11 at *
  generalize w4.heap.size = g13 at *
  have HL2 := HL2'
  have HL4 := HL4'
  have HRW := Aside0.mk (Kd.C_below HR.out HB5)
  clear HL2' HL4' HR HR' hz3 hz3a hz4
  have HR := HRW
  clear HRW
  have HB0 := Aside0.mk (HB5)
  have HBX := Aside0.mk (below_drew1 (Below.refl Wc.heap.size Wc))
  refine start_ (n := 29) (S := fun w' => w'.cell? ⟨g11, 0, none⟩ = some (.int .i64 (dEp ep xs s f t)) ∧ w'.cell? ⟨g11, 1, none⟩ = some (.slice A3 (dL ep xs s f t).length c3) ∧ w'.cell? ⟨g13, 0, none⟩ = some (.int .i64 (dEp ep xs s f t)) ∧ w'.cell? ⟨g13, 1, none⟩ = some (.slice A4 (dL ep xs s f t).length c4) ∧ w'.cell? ⟨w.heap.size, 0, none⟩ = some (.int .i64 ep) ∧ w'.cell? ⟨w.heap.size, 1, none⟩ = some (.slice A xs.length c)) (ds := []) #[false, false, false, false, false, false, false, false, false, false, false, false, false, false, false, false, false, false, false, false, false, false, false, false, false, false, false, false, false] (by kernel_rfl) rfl rfl ⟨p0, p1, p2, p3, p4, p5⟩ (fun hHeld => ?_)
  refine with_tabW mv7.tab mv7.bits (fun HT_ HW_ => ?_)
  generalize Wc.drew = wD at *
  refine pure_ (i := 0) (N := some 50) (v := ?_) (a' := ?_) #[true, false, false, false, false, false, false, false, false, false, false, false, false, false, false, false, false, false, false, false, false, false, false, false, false, false, false, false, false] rfl rfl (any_of HT_.out (by kernel_rfl)) (fun _ _ _ h => h) (Or.inl ⟨by rfl, ?_⟩) ?_ ?_
  rotate_left
  · intro w'
    go_simp
    with_reducible rfl
  rotate_left
  · simp only [Act.put, List.setIfInBounds_toArray, List.set_cons_zero, List.set_cons_succ, i64_w, i32_w]
    rfl
  refine pure_ (i := 1) (N := some 51) (v := ?_) (a' := ?_) #[true, true, false, false, false, false, false, false, false, false, false, false, false, false, false, false, false, false, false, false, false, false, false, false, false, false, false, false, false] rfl rfl (any_of HT_.out (by kernel_rfl)) (fun _ _ _ h => h) (Or.inl ⟨by rfl, ?_⟩) ?_ ?_
  rotate_left
  · intro w'
    go_simp
    with_reducible rfl
  rotate_left
  · simp only [Act.put, List.setIfInBounds_toArray, List.set_cons_zero, List.set_cons_succ, i64_w, i32_w]
    rfl
  refine one_ (i := 2) (N := some 52) #[true, true, true, false, false, false, false, false, false, false, false, false, false, false, false, false, false, false, false, false, false, false, false, false, false, false, false, false, false] rfl rfl (one_of HT_.out (by kernel_rfl)) (by decide) (fun K hK => ?_)
  refine goes_ Try.func13 (by kernel_rfl) rfl #[.slice A1 (fL ep xs ep' ys).length c1, .slice A2 (fL ep xs ep' ys).length c2] (by rfl) rfl rfl (by (try simp only [List.map_toArray, List.map_cons, List.map_nil]); first | done | rfl) ?_
  refine (PChartMoves.ploverref12_SameMoves.calls ((fL ep xs ep' ys).length + 1) A1 c1 _ A2 c2 _ true _ (Kd.C_below HL1.out HBX.out) HC1.out (Kd.C_below HL2.out HBX.out) HC2.out (Pl.sameMoves_f _ (fL_len ep xs ep' ys))).mono ?_
  rintro e w9 ⟨rfl, hdr9⟩
  have hb9 := hdr9.below
  refine ⟨_, rfl, ?_⟩
  refine hK.out _ _ ⟨pw_cell_below hb9 hHeld.1, pw_cell_below hb9 hHeld.2.1, pw_cell_below hb9 hHeld.2.2.1, pw_cell_below hb9 hHeld.2.2.2.1, pw_cell_below hb9 hHeld.2.2.2.2.1, pw_cell_below hb9 hHeld.2.2.2.2.2⟩ (fun hH2 => ?_)
  clear hHeld
  have hHeld := hH2
  clear hH2
  have hbX := Aside0.mk (below_step HBX.out hb9)
  clear HBX
  have HBX := hbX
  clear hbX hb9 hK K
  refine norm_ (a' := ?_) ?_ ?_
  rotate_left
  · simp only [Act.put, List.setIfInBounds_toArray, List.set_cons_zero, List.set_cons_succ, i64_w, i32_w]
    rfl
  refine pure_ (i := 3) (N := some 53) (v := ?_) (a' := ?_) #[true, true, true, true, false, false, false, false, false, false, false, false, false, false, false, false, false, false, false, false, false, false, false, false, false, false, false, false, false] rfl rfl (any_of HT_.out (by kernel_rfl)) (fun _ _ _ h => h) (Or.inl ⟨by rfl, ?_⟩) ?_ ?_
  rotate_left
  · intro w'
    go_simp
    with_reducible rfl
  rotate_left
  · simp only [Act.put, List.setIfInBounds_toArray, List.set_cons_zero, List.set_cons_succ, i64_w, i32_w]
    rfl
  refine pure_ (i := 4) (N := some 54) (v := ?_) (a' := ?_) #[true, true, true, true, true, false, false, false, false, false, false, false, false, false, false, false, false, false, false, false, false, false, false, false, false, false, false, false, false] rfl rfl (any_of HT_.out (by kernel_rfl)) (fun _ _ _ h => h) (Or.inl ⟨by rfl, ?_⟩) ?_ ?_
  rotate_left
  · intro w'
    go_simp
    with_reducible rfl
  rotate_left
  · simp only [Act.put, List.setIfInBounds_toArray, List.set_cons_zero, List.set_cons_succ, i64_w, i32_w]
    rfl
  refine pure_ (i := 5) (N := some 55) (v := ?_) (a' := ?_) #[true, true, true, true, true, true, false, false, false, false, false, false, false, false, false, false, false, false, false, false, false, false, false, false, false, false, false, false, false] rfl rfl (any_of HT_.out (by kernel_rfl)) (fun _ _ _ h => h) (Or.inl ⟨by rfl, ?_⟩) ?_ ?_
  rotate_left
  · intro w'
    go_simp
    with_reducible rfl
  rotate_left
  · simp only [Act.put, List.setIfInBounds_toArray, List.set_cons_zero, List.set_cons_succ, i64_w, i32_w]
    rfl
  refine pure_ (i := 6) (N := some 56) (v := ?_) (a' := ?_) #[true, true, true, true, true, true, true, false, false, false, false, false, false, false, false, false, false, false, false, false, false, false, false, false, false, false, false, false, false] rfl rfl (any_of HT_.out (by kernel_rfl)) (fun _ _ _ h => h) (Or.inl ⟨by rfl, ?_⟩) ?_ ?_
  rotate_left
  · intro w'
    go_simp
    with_reducible rfl
  rotate_left
  · simp only [Act.put, List.setIfInBounds_toArray, List.set_cons_zero, List.set_cons_succ, i64_w, i32_w]
    rfl
  refine pure_ (i := 7) (N := some 57) (v := ?_) (a' := ?_) #[true, true, true, true, true, true, true, true, false, false, false, false, false, false, false, false, false, false, false, false, false, false, false, false, false, false, false, false, false] rfl rfl (any_of HT_.out (by kernel_rfl)) (fun _ _ _ h => h) (Or.inl ⟨by rfl, ?_⟩) ?_ ?_
  rotate_left
  · intro w'
    go_simp
    with_reducible rfl
  rotate_left
  · simp only [Act.put, List.setIfInBounds_toArray, List.set_cons_zero, List.set_cons_succ, i64_w, i32_w]
    rfl
  refine pure_ (i := 8) (N := some 58) (v := ?_) (a' := ?_) #[true, true, true, true, true, true, true, true, true, false, false, false, false, false, false, false, false, false, false, false, false, false, false, false, false, false, false, false, false] rfl rfl (any_of HT_.out (by kernel_rfl)) (fun _ _ _ h => h) (Or.inl ⟨by rfl, ?_⟩) ?_ ?_
  rotate_left
  · intro w'
    go_simp
    with_reducible rfl
  rotate_left
  · simp only [Act.put, List.setIfInBounds_toArray, List.set_cons_zero, List.set_cons_succ, i64_w, i32_w]
    rfl
  refine take_ (i := 9) (N := some 59) (v := ?_) (a' := ?_) #[true, true, true, true, true, true, true, true, true, true, false, false, false, false, false, false, false, false, false, false, false, false, false, false, false, false, false, false, false] rfl rfl (take_ofW HT_.out HW_.out (by kernel_rfl)) (fun _ _ _ h => h) (Or.inl ⟨by rfl, ?_⟩) hHeld ?_ ?_
  rotate_left
  · rintro w' ⟨s0, s1, s2, s3, s4, s5⟩
    go_simp
    with_reducible rfl
  rotate_left
  · simp only [Act.put, List.setIfInBounds_toArray, List.set_cons_zero, List.set_cons_succ, i64_w, i32_w]
    rfl
  refine take_ (i := 10) (N := some 60) (v := ?_) (a' := ?_) #[true, true, true, true, true, true, true, true, true, true, true, false, false, false, false, false, false, false, false, false, false, false, false, false, false, false, false, false, false] rfl rfl (take_ofW HT_.out HW_.out (by kernel_rfl)) (fun _ _ _ h => h) (Or.inl ⟨by rfl, ?_⟩) hHeld ?_ ?_
  rotate_left
  · rintro w' ⟨s0, s1, s2, s3, s4, s5⟩
    go_simp
    with_reducible rfl
  rotate_left
  · simp only [Act.put, List.setIfInBounds_toArray, List.set_cons_zero, List.set_cons_succ, i64_w, i32_w]
    rfl
  refine one_ (i := 11) (N := some 61) #[true, true, true, true, true, true, true, true, true, true, true, true, false, false, false, false, false, false, false, false, false, false, false, false, false, false, false, false, false] rfl rfl (one_of HT_.out (by kernel_rfl)) (by decide) (fun K hK => ?_)
  refine goes_ Try.func14 (by kernel_rfl) rfl #[.agg #[.int .i64 (dEp ep xs s f t), .slice A3 (dL ep xs s f t).length c3], .agg #[.int .i64 (dEp ep xs s f t), .slice A4 (dL ep xs s f t).length c4]] (by rfl) rfl rfl (by (try simp only [List.map_toArray, List.map_cons, List.map_nil]); first | done | rfl) ?_
  refine (PChartMoves.ploverref12_Same.calls ((dL ep xs s f t).length + 1) _ A3 c3 _ _ A4 c4 _ true _ (Kd.C_below HL3.out HBX.out) HC3.out (Kd.C_below HL4.out HBX.out) HC4.out (by rw [Pl.same_f _ _ _ _ HL3.out.2.1]; simp)).mono ?_
  rintro e w9 ⟨rfl, hb9⟩
  refine ⟨_, rfl, ?_⟩
  refine hK.out _ _ ⟨pw_cell_below hb9 hHeld.1, pw_cell_below hb9 hHeld.2.1, pw_cell_below hb9 hHeld.2.2.1, pw_cell_below hb9 hHeld.2.2.2.1, pw_cell_below hb9 hHeld.2.2.2.2.1, pw_cell_below hb9 hHeld.2.2.2.2.2⟩ (fun hH2 => ?_)
  clear hHeld
  have hHeld := hH2
  clear hH2
  have hbX := Aside0.mk (below_step HBX.out hb9)
  clear HBX
  have HBX := hbX
  clear hbX hb9 hK K
  refine norm_ (a' := ?_) ?_ ?_
  rotate_left
  · simp only [Act.put, List.setIfInBounds_toArray, List.set_cons_zero, List.set_cons_succ, i64_w, i32_w]
    rfl
  refine pure_ (i := 12) (N := some 62) (v := ?_) (a' := ?_) #[true, true, true, true, true, true, true, true, true, true, true, true, true, false, false, false, false, false, false, false, false, false, false, false, false, false, false, false, false] rfl rfl (any_of HT_.out (by kernel_rfl)) (fun _ _ _ h => h) (Or.inl ⟨by rfl, ?_⟩) ?_ ?_
  rotate_left
  · intro w'
    go_simp
    with_reducible rfl
  rotate_left
  · simp only [Act.put, List.setIfInBounds_toArray, List.set_cons_zero, List.set_cons_succ, i64_w, i32_w]
    rfl
  refine pure_ (i := 13) (N := some 63) (v := ?_) (a' := ?_) #[true, true, true, true, true, true, true, true, true, true, true, true, true, true, false, false, false, false, false, false, false, false, false, false, false, false, false, false, false] rfl rfl (any_of HT_.out (by kernel_rfl)) (fun _ _ _ h => h) (Or.inl ⟨by rfl, ?_⟩) ?_ ?_
  rotate_left
  · intro w'
    go_simp
    with_reducible rfl
  rotate_left
  · simp only [Act.put, List.setIfInBounds_toArray, List.set_cons_zero, List.set_cons_succ, i64_w, i32_w]
    rfl
  refine pure_ (i := 14) (N := some 64) (v := ?_) (a' := ?_) #[true, true, true, true, true, true, true, true, true, true, true, true, true, true, true, false, false, false, false, false, false, false, false, false, false, false, false, false, false] rfl rfl (any_of HT_.out (by kernel_rfl)) (fun _ _ _ h => h) (Or.inl ⟨by rfl, ?_⟩) ?_ ?_
  rotate_left
  · intro w'
    go_simp
    with_reducible rfl
  rotate_left
  · simp only [Act.put, List.setIfInBounds_toArray, List.set_cons_zero, List.set_cons_succ, i64_w, i32_w]
    rfl
  refine pure_ (i := 15) (N := some 65) (v := ?_) (a' := ?_) #[true, true, true, true, true, true, true, true, true, true, true, true, true, true, true, true, false, false, false, false, false, false, false, false, false, false, false, false, false] rfl rfl (any_of HT_.out (by kernel_rfl)) (fun _ _ _ h => h) (Or.inl ⟨by rfl, ?_⟩) ?_ ?_
  rotate_left
  · intro w'
    go_simp
    with_reducible rfl
  rotate_left
  · simp only [Act.put, List.setIfInBounds_toArray, List.set_cons_zero, List.set_cons_succ, i64_w, i32_w]
    rfl
  refine pure_ (i := 16) (N := some 66) (v := ?_) (a' := ?_) #[true, true, true, true, true, true, true, true, true, true, true, true, true, true, true, true, true, false, false, false, false, false, false, false, false, false, false, false, false] rfl rfl (any_of HT_.out (by kernel_rfl)) (fun _ _ _ h => h) (Or.inl ⟨by rfl, ?_⟩) ?_ ?_
  rotate_left
  · intro w'
    go_simp
    with_reducible rfl
  rotate_left
  · simp only [Act.put, List.setIfInBounds_toArray, List.set_cons_zero, List.set_cons_succ, i64_w, i32_w]
    rfl
  refine pure_ (i := 17) (N := some 67) (v := ?_) (a' := ?_) #[true, true, true, true, true, true, true, true, true, true, true, true, true, true, true, true, true, true, false, false, false, false, false, false, false, false, false, false, false] rfl rfl (any_of HT_.out (by kernel_rfl)) (fun _ _ _ h => h) (Or.inl ⟨by rfl, ?_⟩) ?_ ?_
  rotate_left
  · intro w'
    go_simp
    with_reducible rfl
  rotate_left
  · simp only [Act.put, List.setIfInBounds_toArray, List.set_cons_zero, List.set_cons_succ, i64_w, i32_w]
    rfl
  refine pure_ (i := 18) (N := some 68) (v := ?_) (a' := ?_) #[true, true, true, true, true, true, true, true, true, true, true, true, true, true, true, true, true, true, true, false, false, false, false, false, false, false, false, false, false] rfl rfl (any_of HT_.out (by kernel_rfl)) (fun _ _ _ h => h) (Or.inl ⟨by rfl, ?_⟩) ?_ ?_
  rotate_left
  · intro w'
    go_simp
    with_reducible rfl
  rotate_left
  · simp only [Act.put, List.setIfInBounds_toArray, List.set_cons_zero, List.set_cons_succ, i64_w, i32_w]
    rfl
  refine take_ (i := 19) (N := some 69) (v := ?_) (a' := ?_) #[true, true, true, true, true, true, true, true, true, true, true, true, true, true, true, true, true, true, true, true, false, false, false, false, false, false, false, false, false] rfl rfl (take_ofW HT_.out HW_.out (by kernel_rfl)) (fun _ _ _ h => h) (Or.inl ⟨by rfl, ?_⟩) hHeld ?_ ?_
  rotate_left
  · rintro w' ⟨s0, s1, s2, s3, s4, s5⟩
    go_simp
    with_reducible rfl
  rotate_left
  · simp only [Act.put, List.setIfInBounds_toArray, List.set_cons_zero, List.set_cons_succ, i64_w, i32_w]
    rfl
  refine take_ (i := 21) (N := some 71) (v := ?_) (a' := ?_) #[true, true, true, true, true, true, true, true, true, true, true, true, true, true, true, true, true, true, true, true, false, true, false, false, false, false, false, false, false] rfl rfl (take_ofW HT_.out HW_.out (by kernel_rfl)) (fun _ _ _ h => h) (Or.inl ⟨by rfl, ?_⟩) hHeld ?_ ?_
  rotate_left
  · rintro w' ⟨s0, s1, s2, s3, s4, s5⟩
    go_simp
    with_reducible rfl
  rotate_left
  · simp only [Act.put, List.setIfInBounds_toArray, List.set_cons_zero, List.set_cons_succ, i64_w, i32_w]
    rfl
  refine one_ (i := 20) (N := some 70) #[true, true, true, true, true, true, true, true, true, true, true, true, true, true, true, true, true, true, true, true, true, true, false, false, false, false, false, false, false] rfl rfl (one_of HT_.out (by kernel_rfl)) (by decide) (fun K hK => ?_)
  refine goes_ Try.func6 (by kernel_rfl) rfl #[.agg #[.int .i64 ep, .slice A xs.length c]] (by rfl) rfl rfl (by (try simp only [List.map_toArray, List.map_cons, List.map_nil]); first | done | rfl) ?_
  refine (check_calls ep A c xs _ (Kd.C_below HR.out HBX.out) HX.out).mono ?_
  rintro e w9 ⟨rfl, hb9⟩
  refine ⟨_, rfl, ?_⟩
  refine hK.out _ _ ⟨pw_cell_below hb9 hHeld.1, pw_cell_below hb9 hHeld.2.1, pw_cell_below hb9 hHeld.2.2.1, pw_cell_below hb9 hHeld.2.2.2.1, pw_cell_below hb9 hHeld.2.2.2.2.1, pw_cell_below hb9 hHeld.2.2.2.2.2⟩ (fun hH2 => ?_)
  clear hHeld
  have hHeld := hH2
  clear hH2
  have hbX := Aside0.mk (below_step HBX.out hb9)
  clear HBX
  have HBX := hbX
  clear hbX hb9 hK K
  refine norm_ (a' := ?_) ?_ ?_
  rotate_left
  · simp only [Act.put, List.setIfInBounds_toArray, List.set_cons_zero, List.set_cons_succ, i64_w, i32_w]
    rfl
  refine one_ (i := 22) (N := some 72) #[true, true, true, true, true, true, true, true, true, true, true, true, true, true, true, true, true, true, true, true, true, true, true, false, false, false, false, false, false] rfl rfl (one_of HT_.out (by kernel_rfl)) (by decide) (fun K hK => ?_)
  refine goes_ Try.func15 (by kernel_rfl) rfl #[.agg #[.int .i64 ep, .slice A xs.length c]] (by rfl) rfl rfl (by (try simp only [List.map_toArray, List.map_cons, List.map_nil]); first | done | rfl) ?_
  refine (PChartMoves.ploverref12_Check.calls (xs.length + 1) ep A c xs (ckI ep xs) _ (Kd.C_below HR.out HBX.out) HCA.out (check_f ep xs HX.out)).mono ?_
  rintro e w9 ⟨rfl, hb9⟩
  refine ⟨_, rfl, ?_⟩
  refine hK.out _ _ ⟨pw_cell_below hb9 hHeld.1, pw_cell_below hb9 hHeld.2.1, pw_cell_below hb9 hHeld.2.2.1, pw_cell_below hb9 hHeld.2.2.2.1, pw_cell_below hb9 hHeld.2.2.2.2.1, pw_cell_below hb9 hHeld.2.2.2.2.2⟩ (fun hH2 => ?_)
  clear hHeld
  have hHeld := hH2
  clear hH2
  have hbX := Aside0.mk (below_step HBX.out hb9)
  clear HBX
  have HBX := hbX
  clear hbX hb9 hK K
  refine norm_ (a' := ?_) ?_ ?_
  rotate_left
  · simp only [Act.put, List.setIfInBounds_toArray, List.set_cons_zero, List.set_cons_succ, i64_w, i32_w]
    rfl
  refine pure_ (i := 23) (N := some 73) (v := ?_) (a' := ?_) #[true, true, true, true, true, true, true, true, true, true, true, true, true, true, true, true, true, true, true, true, true, true, true, true, false, false, false, false, false] rfl rfl (any_of HT_.out (by kernel_rfl)) (fun _ _ _ h => h) (Or.inl ⟨by rfl, ?_⟩) ?_ ?_
  rotate_left
  · intro w'
    go_simp
    with_reducible rfl
  rotate_left
  · simp only [Act.put, List.setIfInBounds_toArray, List.set_cons_zero, List.set_cons_succ, i64_w, i32_w]
    rfl
  refine pure_ (i := 24) (N := some 74) (v := ?_) (a' := ?_) #[true, true, true, true, true, true, true, true, true, true, true, true, true, true, true, true, true, true, true, true, true, true, true, true, true, false, false, false, false] rfl rfl (any_of HT_.out (by kernel_rfl)) (fun _ _ _ h => h) (Or.inl ⟨by rfl, ?_⟩) ?_ ?_
  rotate_left
  · intro w'
    go_simp
    with_reducible rfl
  rotate_left
  · simp only [Act.put, List.setIfInBounds_toArray, List.set_cons_zero, List.set_cons_succ, i64_w, i32_w]
    rfl
  refine pure_ (i := 25) (N := some 75) (v := ?_) (a' := ?_) #[true, true, true, true, true, true, true, true, true, true, true, true, true, true, true, true, true, true, true, true, true, true, true, true, true, true, false, false, false] rfl rfl (any_of HT_.out (by kernel_rfl)) (fun _ _ _ h => h) (Or.inl ⟨by rfl, ?_⟩) ?_ ?_
  rotate_left
  · intro w'
    go_simp
    with_reducible rfl
  rotate_left
  · simp only [Act.put, List.setIfInBounds_toArray, List.set_cons_zero, List.set_cons_succ, i64_w, i32_w]
    rfl
  refine one_ (i := 26) (N := some 76) #[true, true, true, true, true, true, true, true, true, true, true, true, true, true, true, true, true, true, true, true, true, true, true, true, true, true, true, false, false] rfl rfl (one_of HT_.out (by kernel_rfl)) (by decide) (fun K hK => ?_)
  refine goes_ Try.func7 (by kernel_rfl) rfl #[] (by rfl) rfl rfl (by (try simp only [List.map_toArray, List.map_cons, List.map_nil]); first | done | rfl) ?_
  refine (awake_calls _).mono ?_
  rintro e w9 ⟨rfl, hb9⟩
  refine ⟨_, rfl, ?_⟩
  refine hK.out _ _ ⟨pw_cell_below hb9 hHeld.1, pw_cell_below hb9 hHeld.2.1, pw_cell_below hb9 hHeld.2.2.1, pw_cell_below hb9 hHeld.2.2.2.1, pw_cell_below hb9 hHeld.2.2.2.2.1, pw_cell_below hb9 hHeld.2.2.2.2.2⟩ (fun hH2 => ?_)
  clear hHeld
  have hHeld := hH2
  clear hH2
  have hbX := Aside0.mk (below_step HBX.out hb9)
  clear HBX
  have HBX := hbX
  clear hbX hb9 hK K
  refine norm_ (a' := ?_) ?_ ?_
  rotate_left
  · simp only [Act.put, List.setIfInBounds_toArray, List.set_cons_zero, List.set_cons_succ, i64_w, i32_w]
    rfl
  refine pure_ (i := 27) (N := some 77) (v := ?_) (a' := ?_) #[true, true, true, true, true, true, true, true, true, true, true, true, true, true, true, true, true, true, true, true, true, true, true, true, true, true, true, true, false] rfl rfl (any_of HT_.out (by kernel_rfl)) (fun _ _ _ h => h) (Or.inl ⟨by rfl, ?_⟩) ?_ ?_
  rotate_left
  · intro w'
    go_simp
    with_reducible rfl
  rotate_left
  · simp only [Act.put, List.setIfInBounds_toArray, List.set_cons_zero, List.set_cons_succ, i64_w, i32_w]
    rfl
  refine pure_ (i := 28) (N := some 6) (v := ?_) (a' := ?_) #[true, true, true, true, true, true, true, true, true, true, true, true, true, true, true, true, true, true, true, true, true, true, true, true, true, true, true, true, true] rfl rfl (any_of HT_.out (by kernel_rfl)) (fun _ _ _ h => h) (Or.inl ⟨by rfl, ?_⟩) ?_ ?_
  rotate_left
  · intro w'
    go_simp
    with_reducible rfl
  rotate_left
  · simp only [Act.put, List.setIfInBounds_toArray, List.set_cons_zero, List.set_cons_succ, i64_w, i32_w]
    rfl
  refine done_ (done_of HT_.out (by kernel_rfl)) ?_
  go_wp2
  go_ret
  exact ⟨rfl, below_step HB0.out HBX.out⟩

end Go.Proofs.Ytahoeehjgbfhbaa.Ch
