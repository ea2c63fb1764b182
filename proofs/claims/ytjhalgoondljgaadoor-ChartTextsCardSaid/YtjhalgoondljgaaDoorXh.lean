/- The reference's Of as a Lean function: the kit's print. -/
import Derived.Test.YtjhalgoondljgaaDoorPChartTextsx0
import Derived.Test.YtjhalgoondljgaaDoorXf
import Derived.Test.YtjhalgoondljgaaDoorPChartTextsx10
namespace Go.Proofs.YtjhalgoondljgaaDoor.PChartTexts
open Go.RowKit Go.Proofs.YtjhalgoondljgaaDoorW.PrintWords Go.Proofs.YtjhalgoondljgaaDoorW.PrintLast Go.Proofs.YtjhalgoondljgaaDoorW.PrintMore
attribute [local go_sem] max2_int min2_int max_two min_two max_three min_three max_four min_four   -- for this text's walks alone
set_option linter.unusedVariables false
set_option linter.unusedSimpArgs false

/-! ### ploverref12_Of: function 8 -/
mutual
def ploverref12_Of.j0 : Nat → ByteArray → Bool → Int → Int → ByteArray → List (S36) → Option (Int × List Int × Int)
  | 0, _, _, _, _, _, _ => none
  | k + 1, x0, x22, x266000, x266001, x266002, x266003 => if x22 = true then (some (0, ([] : List Int), 20)) else (if 0 < (x266003.length : Int) then (ploverref12_Of.l0 k x0 0 x266000 x266001 x266002 x266003 ((rd_T36 x266003 0).f1) ([] : List Int)) else (none))
def ploverref12_Of.l0 : Nat → ByteArray → Int → Int → Int → ByteArray → List (S36) → Int → List Int → Option (Int × List Int × Int)
  | 0, _, _, _, _, _, _, _, _ => none
  | k + 1, x0, x7, x266000, x266001, x266002, x266003, x268000, x268001 => if 1 < (x266003.length : Int) then (if x7 < (((rd_T36 x266003 1).f3).length : Int) then (if 0 ≤ x7 then (if x268001.length < 17592186044416 then (ploverref12_Of.l0 k x0 (wrap64 (x7 + 1)) x266000 x266001 x266002 x266003 x268000 (x268001 ++ [(rd_T36 ((rd_T36 x266003 1).f3) x7).f1])) else (none)) else (none)) else ((ploverref12_Text.f k x268000 x268001).bind fun bt274 => (if bt274.2 = 0 then (if bt274.1.toList = x0.toList then (some (x268000, x268001, 0)) else (some (0, ([] : List Int), 20))) else (some (0, ([] : List Int), 20))))) else (none)
end
def ploverref12_Of.f (k : Nat) (a0 : ByteArray) : Option (Int × List Int × Int) := (ploverref02_Only.f k a0).bind fun bt258 => (if bt258.2.2.2.2 = 0 then (ploverref12_Of.j0 k a0 ((bt258.2.2.2.1.length : Int) != 2) bt258.1 bt258.2.1 bt258.2.2.1 bt258.2.2.2.1) else (ploverref12_Of.j0 k a0 true bt258.1 bt258.2.1 bt258.2.2.1 bt258.2.2.2.1))
theorem ploverref12_Of.mono_l : ∀ k, (∀ y0 y1 y2 y3 y4 y5, LeO (ploverref12_Of.j0 k y0 y1 y2 y3 y4 y5) (ploverref12_Of.j0 (k + 1) y0 y1 y2 y3 y4 y5)) ∧ (∀ y0 y1 y2 y3 y4 y5 y6 y7, LeO (ploverref12_Of.l0 k y0 y1 y2 y3 y4 y5 y6 y7) (ploverref12_Of.l0 (k + 1) y0 y1 y2 y3 y4 y5 y6 y7))
  | 0 => ⟨fun _ _ _ _ _ _ r h => by simp [ploverref12_Of.j0] at h, fun _ _ _ _ _ _ _ _ r h => by simp [ploverref12_Of.l0] at h⟩
  | k + 1 => by
    obtain ⟨ih0, ih1⟩ := ploverref12_Of.mono_l k
    refine ⟨?_, ?_⟩
    · intro y0 y1 y2 y3 y4 y5
      unfold ploverref12_Of.j0
      repeat' first
      | (with_reducible exact ih0 _ _ _ _ _ _)
      | (with_reducible exact ih1 _ _ _ _ _ _ _ _)
      | (with_reducible exact ploverref02_Only.mono _ _)
      | (with_reducible exact ploverref12_Text.mono _ _ _)
      | (with_reducible exact LeO.refl _)
      | (with_reducible exact LeO.none _)
      | (with_reducible refine LeO.ite ?_ ?_)
      | (with_reducible refine LeO.bind ?_ (fun _ => ?_))
      | exact ih0 _ _ _ _ _ _
      | exact ih1 _ _ _ _ _ _ _ _
      | exact ploverref02_Only.mono _ _
      | exact ploverref12_Text.mono _ _ _
      | exact LeO.none _
      | refine LeO.ite ?_ ?_
      | refine LeO.bind ?_ (fun _ => ?_)
    · intro y0 y1 y2 y3 y4 y5 y6 y7
      unfold ploverref12_Of.l0
      repeat' first
      | (with_reducible exact ih0 _ _ _ _ _ _)
      | (with_reducible exact ih1 _ _ _ _ _ _ _ _)
      | (with_reducible exact ploverref02_Only.mono _ _)
      | (with_reducible exact ploverref12_Text.mono _ _ _)
      | (with_reducible exact LeO.refl _)
      | (with_reducible exact LeO.none _)
      | (with_reducible refine LeO.ite ?_ ?_)
      | (with_reducible refine LeO.bind ?_ (fun _ => ?_))
      | exact ih0 _ _ _ _ _ _
      | exact ih1 _ _ _ _ _ _ _ _
      | exact ploverref02_Only.mono _ _
      | exact ploverref12_Text.mono _ _ _
      | exact LeO.none _
      | refine LeO.ite ?_ ?_
      | refine LeO.bind ?_ (fun _ => ?_)
theorem ploverref12_Of.mono : ∀ a0 k, LeO (ploverref12_Of.f k a0) (ploverref12_Of.f (k + 1) a0) := by
  intro a0 k
  obtain ⟨ih0, ih1⟩ := ploverref12_Of.mono_l k
  unfold ploverref12_Of.f
  repeat' first
      | (with_reducible exact ih0 _ _ _ _ _ _)
      | (with_reducible exact ih1 _ _ _ _ _ _ _ _)
      | (with_reducible exact ploverref02_Only.mono _ _)
      | (with_reducible exact ploverref12_Text.mono _ _ _)
      | (with_reducible exact LeO.refl _)
      | (with_reducible exact LeO.none _)
      | (with_reducible refine LeO.ite ?_ ?_)
      | (with_reducible refine LeO.bind ?_ (fun _ => ?_))
      | exact ih0 _ _ _ _ _ _
      | exact ih1 _ _ _ _ _ _ _ _
      | exact ploverref02_Only.mono _ _
      | exact ploverref12_Text.mono _ _ _
      | exact LeO.none _
      | refine LeO.ite ?_ ?_
      | refine LeO.bind ?_ (fun _ => ?_)
def ploverref12_Of.T8 : Bool × List (List Nat × List Nat) := (true, [([], []), ([0], [0]), ([], []), ([2], [2]), ([3], [3]), ([4], [4]), ([5], [5]), ([], []), ([6, 7], [6, 7]), ([8], [8]), ([9], [9]), ([10], [10]), ([1, 11], [1, 11]), ([0, 1, 2, 3, 4, 5, 6, 7, 8, 9, 10, 11, 12], []), ([13, 12, 12, 0, 1, 2, 3, 4, 5, 6, 7, 8, 9, 10, 11, 12], [12, 13])])
def ploverref12_Of.B8 : List Nat := [0, 1, 0, 4, 12, 28, 60, 0, 252, 508, 1020, 2044, 4095, 8191, 16383]
theorem ploverref12_Of.tab8 : rtab .any (opsOf Tryd.f8 8) = ploverref12_Of.T8 := by kernel_rfl
theorem ploverref12_Of.bits8 : waitsOk ploverref12_Of.T8.2 ploverref12_Of.B8 = true := by kernel_rfl
set_option maxHeartbeats 8000000 in
set_option maxRecDepth 100000 in
theorem ploverref12_Of.calls (k : Nat) (a0 : ByteArray) (r1 : Int) (r2 : List Int) (r3 : Int) (w : World) (h : ploverref12_Of.f k a0 = some (r1, r2, r3)) :
    Calls Tryd.prog 8 #[.string a0] w fun e w' => ∃ v1_ : Value, e = .returned (.tuple #[.agg #[.int .i64 r1, v1_], .int .i64 r3]) ∧ Kd.R (Kd.int .i64) 3 w' w.heap.size (fun _ => True) v1_ r2 ∧ Below w.heap.size w w' := by
  have hu24 := Tryd.underlying24
  have hu36 := Tryd.underlying36
  have HB := Aside0.mk (Below.refl w.heap.size w)
  have H : ((ploverref02_Only.f k a0).bind fun bt258 => (if bt258.2.2.2.2 = 0 then (ploverref12_Of.j0 k a0 ((bt258.2.2.2.1.length : Int) != 2) bt258.1 bt258.2.1 bt258.2.2.1 bt258.2.2.2.1) else (ploverref12_Of.j0 k a0 true bt258.1 bt258.2.1 bt258.2.2.1 bt258.2.2.2.1))) = some (r1, r2, r3) := h
  clear h
  replace H := Option.bind_eq_some_iff.mp H
  obtain ⟨⟨t258, t259, t260, t261, t264⟩, A20, H⟩ := H
  replace H : (if t264 = 0 then (ploverref12_Of.j0 k a0 ((t261.length : Int) != 2) t258 t259 t260 t261) else (ploverref12_Of.j0 k a0 true t258 t259 t260 t261)) = some (r1, r2, r3) := H
  have A2 := Aside0.mk A20
  clear A20
  have HC3 := Aside0.mk H
  clear H
  go_enter Tryd.func8, Tryd.ntmps8
  go_upto_region 2 with (first | ((with_reducible refine gate_dst (N := 2) rfl ?_); (try (refine gate_guard (by rfl) ?_; dsimp only)); refine box_event ?hg (N := 2) ?hd (cs := #[.int .i64 0, .slice none 0 0]) (t := 24) ?hr ?_; (case hd => rfl); (case hg => rfl); (case hr => first | (go_simp; done) | (go_simp; rfl)); intro gb257 hg w4 hbox hb; have n0_ := Aside0.mk (below_step (by repeat (first | (with_reducible first | exact HB.out | apply below_alloc | apply pw_below_drewN | apply below_drew1) | exact HB.out)) hb); have n1_ := Aside0.mk (hbox); have n2_ := Aside0.mk ((by rw [hg]; exact (below_size (by repeat (first | (with_reducible first | exact HB.out | apply below_alloc | apply pw_below_drewN | apply below_drew1) | exact HB.out))) : w.heap.size ≤ gb257)); have n3_ := Aside0.mk ((by rw [hg]; exact (below_size (by repeat (first | (with_reducible first | exact HB.out | apply below_alloc | apply pw_below_drewN | apply below_drew1) | exact HB.out))) : w.heap.size ≤ gb257)); clear HB; have HB := n0_; have BK257 := n1_; have GW257 := n2_; have GE257 := n3_; clear n0_ n1_ n2_ n3_; clear hb hbox hg) | ((with_reducible refine gate_callee (f := 17) rfl ?_); refine goesL_ (some 12) rfl rfl Tryd.func17 (by kernel_rfl) rfl #[.string a0] rfl (by (try simp only [List.map_toArray, List.map_cons, List.map_nil]); first | done | rfl | (simp only [List.length_drop, List.length_take]; rfl)) ?_; (with_reducible refine (ploverref02_Only.calls k a0 t258 t259 t260 t261 t264 _ A2.out).mono ?_); rintro e w5 ⟨v262, rfl, ho0, hb⟩; refine ⟨_, rfl, ?_⟩; have n0_ := Aside0.mk (Kd.R_lower ho0 (below_size (by repeat (first | (with_reducible first | exact HB.out | apply below_alloc | apply pw_below_drewN | apply below_drew1 | refine below_set ?_ GE257.out) | exact HB.out)))); have n1_ := Aside0.mk (blk_below (g := gb257) (o := .cells #[.int .i64 0, .slice none 0 0] 24 (0, 0)) (by (with_reducible repeat (first | refine blk_drewN ?_ _ | refine blk_drew ?_ | refine blk_alloc ?_ _)); exact BK257.out) hb); have n2_ := Aside0.mk (below_step (by repeat (first | (with_reducible first | exact HB.out | apply below_alloc | apply pw_below_drewN | apply below_drew1 | refine below_set ?_ GE257.out) | exact HB.out)) hb); clear BK257; clear HB; have HO263 := n0_; have BK257 := n1_; have HB := n2_; clear n0_ n1_ n2_; (try clear hb); (try clear hb2); (try clear hk); (try clear hi); (try clear ho0)) | ((with_reducible refine gate_dst (N := 4) rfl ?_); (try (refine gate_guard (by rfl) ?_; dsimp only)); refine box_event ?hg (N := 4) ?hd (cs := #[.int .i64 0, .int .i64 0, .string (⟨#[]⟩ : ByteArray), .slice none 0 0]) (t := 36) ?hr ?_; (case hd => rfl); (case hg => rfl); (case hr => first | (go_simp; done) | (go_simp; rfl)); intro gb265 hg w6 hbox hb; have n0_ := Aside0.mk (Kd.R_below (Kd.R_elderB (by (with_reducible repeat (first | apply Kd.R_alloc | apply Kd.R_drewN | apply Kd.R_drew)); exact HO263.out) gb265 (Nat.le_of_eq hg.symm)) hb); have n1_ := Aside0.mk (blk_below (g := gb257) (o := .cells #[.int .i64 0, .slice none 0 0] 24 (0, 0)) (by (with_reducible repeat (first | refine blk_drewN ?_ _ | refine blk_drew ?_ | refine blk_alloc ?_ _)); exact BK257.out) hb); have n2_ := Aside0.mk (below_step (by repeat (first | (with_reducible first | exact HB.out | apply below_alloc | apply pw_below_drewN | apply below_drew1 | refine below_set ?_ GE257.out) | exact HB.out)) hb); have n3_ := Aside0.mk (hbox); have n4_ := Aside0.mk ((by rw [hg]; exact (below_size (by repeat (first | (with_reducible first | exact HB.out | apply below_alloc | apply pw_below_drewN | apply below_drew1 | refine below_set ?_ GE257.out) | exact HB.out))) : w.heap.size ≤ gb265)); have n5_ := Aside0.mk ((by rw [hg]; exact (below_size (by repeat (first | (with_reducible first | exact HB.out | apply below_alloc | apply pw_below_drewN | apply below_drew1 | refine below_set ?_ GE257.out) | exact HB.out))) : w.heap.size ≤ gb265)); have n6_ := Aside0.mk ((by rw [hg]; exact Nat.ne_of_lt (blk_lt (g := gb257) (o := .cells #[.int .i64 0, .slice none 0 0] 24 (0, 0)) (by (with_reducible repeat (first | refine blk_drewN ?_ _ | refine blk_drew ?_ | refine blk_alloc ?_ _)); exact BK257.out)) : gb257 ≠ gb265)); have n7_ := Aside0.mk ((by rw [hg]; exact Nat.ne_of_gt (blk_lt (g := gb257) (o := .cells #[.int .i64 0, .slice none 0 0] 24 (0, 0)) (by (with_reducible repeat (first | refine blk_drewN ?_ _ | refine blk_drew ?_ | refine blk_alloc ?_ _)); exact BK257.out)) : gb265 ≠ gb257)); clear HO263; clear BK257; clear HB; have HO263 := n0_; have BK257 := n1_; have HB := n2_; have BK265 := n3_; have GW265 := n4_; have GE265 := n5_; have NB257_265 := n6_; have NB265_257 := n7_; clear n0_ n1_ n2_ n3_ n4_ n5_ n6_ n7_; clear hb hbox hg; have hnb7 := NB265_257.out; have hnc7 := NB257_265.out; have hcz8_0 : w6.cell? ⟨gb265, 0, none⟩ = some (.int .i64 0) := (blk_cell BK265.out 0).trans rfl; have hcz8_1 : w6.cell? ⟨gb265, 1, none⟩ = some (.int .i64 0) := (blk_cell BK265.out 1).trans rfl; have hcz8_2 : w6.cell? ⟨gb265, 2, none⟩ = some (.string (⟨#[]⟩ : ByteArray)) := (blk_cell BK265.out 2).trans rfl; have hcz8_3 : w6.cell? ⟨gb265, 3, none⟩ = some (.slice none 0 0) := (blk_cell BK265.out 3).trans rfl; have hfz8_0 := blk_frozen BK265.out 0; have hfz8_1 := blk_frozen BK265.out 1; have hfz8_2 := blk_frozen BK265.out 2; have hfz8_3 := blk_frozen BK265.out 3; obtain ⟨Ao9, co9, eo9⟩ := Kd.R_slice HO263.out; subst eo9))
  (try simp only [Act.put, List.setIfInBounds_toArray, List.set_cons_zero, List.set_cons_succ])
  go_cut [22] (fun v22 wc => ∃ (kq : Nat) (x22_2 : Bool), v22 = .bool x22_2 ∧ Aside0 (ploverref12_Of.j0 kq a0 x22_2 t258 t259 t260 t261 = some (r1, r2, r3)) ∧ Aside0 (kq ≤ k) ∧ Aside0 (Kd.R k36 36 wc w.heap.size (fun k_ => k_ ≠ gb265) (.slice Ao9 t261.length co9) t261) ∧ Aside0 (wc.heap[gb257]? = some (.cells #[.int .i64 0, (.slice none 0 0)] 24 (0, 0))) ∧ Aside0 (wc.heap[gb265]? = some (.cells #[.int .i64 t258, .int .i64 t259, .string t260, (.slice Ao9 t261.length co9)] 36 (0, 0))) ∧ Aside0 (Below w.heap.size w wc))
  case first =>
    have H := HC3.out
    clear HC3
    by_cases c10 : t264 = 0
    · rw [if_pos c10] at H
      have c10b0 : (t264 == 0) = true := beq_iff_eq.mpr c10
      have c10b1 : (t264 != 0) = false := bne_eq_false_iff_eq.mpr c10
      clear c10
      (first | rw [c10b0] | (simp only [i64_w, i32_w]; rw [c10b0]) | skip)
      have H' := Aside0.mk H
      clear H
      have hnb11 := NB265_257.out
      have hnc11 := NB257_265.out
      have hcz12_0 : w6.cell? ⟨gb265, 0, none⟩ = some (.int .i64 0) := (blk_cell BK265.out 0).trans rfl
      have hcz12_1 : w6.cell? ⟨gb265, 1, none⟩ = some (.int .i64 0) := (blk_cell BK265.out 1).trans rfl
      have hcz12_2 : w6.cell? ⟨gb265, 2, none⟩ = some (.string (⟨#[]⟩ : ByteArray)) := (blk_cell BK265.out 2).trans rfl
      have hcz12_3 : w6.cell? ⟨gb265, 3, none⟩ = some (.slice none 0 0) := (blk_cell BK265.out 3).trans rfl
      have hfz12_0 := blk_frozen BK265.out 0
      have hfz12_1 := blk_frozen BK265.out 1
      have hfz12_2 := blk_frozen BK265.out 2
      have hfz12_3 := blk_frozen BK265.out 3
      go_wp2
      go_meet
      case rel => exact ⟨_, (((t261.length : Int) != 2)), (by first | rfl | (simp; done) | (simp [*]; done)), H', ⟨by first | omega | exact Nat.le_refl _⟩, ⟨by (with_reducible repeat (first | apply Kd.R_alloc | apply Kd.R_drewN | apply Kd.R_drew)); exact Kd.R_mono (Kd.R_far (p := ⟨gb265, 3, none⟩) (Kd.R_far (p := ⟨gb265, 2, none⟩) (Kd.R_far (p := ⟨gb265, 1, none⟩) (Kd.R_far (p := ⟨gb265, 0, none⟩) (Kd.R_mono HO263.out (fun k_ hk => (⟨hk, hk.2⟩ : _ ∧ k_ ≠ gb265))) (fun _ hk => hk.2) (.int .i64 t258)) (fun _ hk => hk.2) (.int .i64 t259)) (fun _ hk => hk.2) (.string t260)) (fun _ hk => hk.2) (.slice Ao9 t261.length co9)) (fun _ hk => hk.1.2)⟩, ⟨by (with_reducible repeat (first | refine blk_drewN ?_ _ | refine blk_drew ?_ | refine blk_alloc ?_ _)); refine blk_far ?_ NB257_265.out _; (with_reducible repeat (first | refine blk_drewN ?_ _ | refine blk_drew ?_ | refine blk_alloc ?_ _)); refine blk_far ?_ NB257_265.out _; (with_reducible repeat (first | refine blk_drewN ?_ _ | refine blk_drew ?_ | refine blk_alloc ?_ _)); refine blk_far ?_ NB257_265.out _; (with_reducible repeat (first | refine blk_drewN ?_ _ | refine blk_drew ?_ | refine blk_alloc ?_ _)); refine blk_far ?_ NB257_265.out _; (with_reducible repeat (first | refine blk_drewN ?_ _ | refine blk_drew ?_ | refine blk_alloc ?_ _)); exact BK257.out⟩, ⟨by (with_reducible repeat (first | refine blk_drewN ?_ _ | refine blk_drew ?_ | refine blk_alloc ?_ _)); refine blk_put (cs := #[.int .i64 t258, .int .i64 t259, .string t260, .slice none 0 0]) ?_ 3 _ rfl; (with_reducible repeat (first | refine blk_drewN ?_ _ | refine blk_drew ?_ | refine blk_alloc ?_ _)); refine blk_put (cs := #[.int .i64 t258, .int .i64 t259, .string (⟨#[]⟩ : ByteArray), .slice none 0 0]) ?_ 2 _ rfl; (with_reducible repeat (first | refine blk_drewN ?_ _ | refine blk_drew ?_ | refine blk_alloc ?_ _)); refine blk_put (cs := #[.int .i64 t258, .int .i64 0, .string (⟨#[]⟩ : ByteArray), .slice none 0 0]) ?_ 1 _ rfl; (with_reducible repeat (first | refine blk_drewN ?_ _ | refine blk_drew ?_ | refine blk_alloc ?_ _)); refine blk_put (cs := #[.int .i64 0, .int .i64 0, .string (⟨#[]⟩ : ByteArray), .slice none 0 0]) ?_ 0 _ rfl; (with_reducible repeat (first | refine blk_drewN ?_ _ | refine blk_drew ?_ | refine blk_alloc ?_ _)); exact BK265.out⟩, ⟨by repeat (first | (with_reducible first | exact HB.out | apply below_alloc | apply pw_below_drewN | apply below_drew1 | refine below_set ?_ GE257.out | refine below_set ?_ GE265.out) | exact HB.out)⟩⟩
    · rw [if_neg c10] at H
      have c10b0 : (t264 == 0) = false := beq_eq_false_iff_ne.mpr c10
      have c10b1 : (t264 != 0) = true := bne_iff_ne.mpr c10
      (first | rw [c10b0] | (simp only [i64_w, i32_w]; rw [c10b0]) | skip)
      have H' := Aside0.mk H
      clear H
      go_wp2
      go_meet
      case rel => exact ⟨_, (true), (by first | rfl | (simp; done) | (simp [*]; done)), H', ⟨by first | omega | exact Nat.le_refl _⟩, ⟨by (with_reducible repeat (first | apply Kd.R_alloc | apply Kd.R_drewN | apply Kd.R_drew)); exact Kd.R_mono (Kd.R_far (p := ⟨gb265, 3, none⟩) (Kd.R_far (p := ⟨gb265, 2, none⟩) (Kd.R_far (p := ⟨gb265, 1, none⟩) (Kd.R_far (p := ⟨gb265, 0, none⟩) (Kd.R_mono HO263.out (fun k_ hk => (⟨hk, hk.2⟩ : _ ∧ k_ ≠ gb265))) (fun _ hk => hk.2) (.int .i64 t258)) (fun _ hk => hk.2) (.int .i64 t259)) (fun _ hk => hk.2) (.string t260)) (fun _ hk => hk.2) (.slice Ao9 t261.length co9)) (fun _ hk => hk.1.2)⟩, ⟨by (with_reducible repeat (first | refine blk_drewN ?_ _ | refine blk_drew ?_ | refine blk_alloc ?_ _)); refine blk_far ?_ NB257_265.out _; (with_reducible repeat (first | refine blk_drewN ?_ _ | refine blk_drew ?_ | refine blk_alloc ?_ _)); refine blk_far ?_ NB257_265.out _; (with_reducible repeat (first | refine blk_drewN ?_ _ | refine blk_drew ?_ | refine blk_alloc ?_ _)); refine blk_far ?_ NB257_265.out _; (with_reducible repeat (first | refine blk_drewN ?_ _ | refine blk_drew ?_ | refine blk_alloc ?_ _)); refine blk_far ?_ NB257_265.out _; (with_reducible repeat (first | refine blk_drewN ?_ _ | refine blk_drew ?_ | refine blk_alloc ?_ _)); exact BK257.out⟩, ⟨by (with_reducible repeat (first | refine blk_drewN ?_ _ | refine blk_drew ?_ | refine blk_alloc ?_ _)); refine blk_put (cs := #[.int .i64 t258, .int .i64 t259, .string t260, .slice none 0 0]) ?_ 3 _ rfl; (with_reducible repeat (first | refine blk_drewN ?_ _ | refine blk_drew ?_ | refine blk_alloc ?_ _)); refine blk_put (cs := #[.int .i64 t258, .int .i64 t259, .string (⟨#[]⟩ : ByteArray), .slice none 0 0]) ?_ 2 _ rfl; (with_reducible repeat (first | refine blk_drewN ?_ _ | refine blk_drew ?_ | refine blk_alloc ?_ _)); refine blk_put (cs := #[.int .i64 t258, .int .i64 0, .string (⟨#[]⟩ : ByteArray), .slice none 0 0]) ?_ 1 _ rfl; (with_reducible repeat (first | refine blk_drewN ?_ _ | refine blk_drew ?_ | refine blk_alloc ?_ _)); refine blk_put (cs := #[.int .i64 0, .int .i64 0, .string (⟨#[]⟩ : ByteArray), .slice none 0 0]) ?_ 0 _ rfl; (with_reducible repeat (first | refine blk_drewN ?_ _ | refine blk_drew ?_ | refine blk_alloc ?_ _)); exact BK265.out⟩, ⟨by repeat (first | (with_reducible first | exact HB.out | apply below_alloc | apply pw_below_drewN | apply below_drew1 | refine below_set ?_ GE257.out | refine below_set ?_ GE265.out) | exact HB.out)⟩⟩
  case rest =>
    clear HC3
    try clear c1
    try clear p2
    try clear c7
    try clear c8
    try clear c10
    try clear c10b0
    try clear c10b1
    try clear c11
    try clear hcz12_0
    try clear hcz12_1
    try clear hcz12_2
    try clear hcz12_3
    try clear hcz8_0
    try clear hcz8_1
    try clear hcz8_2
    try clear hcz8_3
    try clear hfz12_0
    try clear hfz12_1
    try clear hfz12_2
    try clear hfz12_3
    try clear hfz8_0
    try clear hfz8_1
    try clear hfz8_2
    try clear hfz8_3
    obtain ⟨kq, x22_2, rfl, HA, HJ2, HO_266003, BK257, BK265, HB⟩ := hcut
    cases kq with
    | zero => exact absurd HA.out (by simp [ploverref12_Of.j0])
    | succ kj2 =>
      have H := HA.out
      clear HA
      simp only [ploverref12_Of.j0] at H
      by_cases c13 : x22_2 = true
      · subst c13
        have H1 : (some (0, ([] : List Int), 20)) = some (r1, r2, r3) := by rw [if_pos rfl] at H; exact H
        clear H
        have H := H1
        clear H1
        simp only [Option.some.injEq, Prod.mk.injEq] at H
        obtain ⟨rfl, rfl, rfl⟩ := H
        have hnb14 := NB257_265.out
        have hnc14 := NB265_257.out
        have hcz15_0 : wc.cell? ⟨gb257, 0, none⟩ = some (.int .i64 0) := (blk_cell BK257.out 0).trans rfl
        have hcz15_1 : wc.cell? ⟨gb257, 1, none⟩ = some (.slice none 0 0) := (blk_cell BK257.out 1).trans rfl
        have hfz15_0 := blk_frozen BK257.out 0
        have hfz15_1 := blk_frozen BK257.out 1
        go_wp2
        refine bodyPost_ret (results_ct rfl _ _ gb257 24 #[.int .i64 0, .slice none 0 0] (0, 0) _ rfl (by (with_reducible repeat (first | refine blk_drewN ?_ _ | refine blk_drew ?_ | refine blk_alloc ?_ _)); refine blk_put (cs := #[.int .i64 0, .slice none 0 0]) ?_ 1 _ rfl; (with_reducible repeat (first | refine blk_drewN ?_ _ | refine blk_drew ?_ | refine blk_alloc ?_ _)); refine blk_put (cs := #[.int .i64 0, .slice none 0 0]) ?_ 0 _ rfl; (with_reducible repeat (first | refine blk_drewN ?_ _ | refine blk_drew ?_ | refine blk_alloc ?_ _)); exact BK257.out) Tryd.underlying24 rfl (by kernel_rfl)) rfl ?_
        exact ⟨_, by first | rfl | (simp [errW_none, errW_some] <;> rfl) | (simp [*, errW_none, errW_some] <;> rfl), by first | exact Kd.R_nil _ _ _ _ _ | exact Kd.N_nil _ _ _ _ _ | exact Kd.V_nil _ _ _ _ _ | exact Kd.Q_nil _ _ _ _ _ | exact Kd.S_nil _ _ _ _ _, by repeat (first | (with_reducible first | exact HB.out | apply below_alloc | apply pw_below_drewN | apply below_drew1 | refine below_set ?_ GE257.out | refine below_set ?_ GE265.out) | exact HB.out)⟩
      · replace c13 := Bool.eq_false_iff.mpr c13
        subst c13
        have H1 : (if 0 < (t261.length : Int) then (ploverref12_Of.l0 kj2 a0 0 t258 t259 t260 t261 ((rd_T36 t261 0).f1) ([] : List Int)) else (none)) = some (r1, r2, r3) := by rw [if_neg (show ¬ (false = true) by decide)] at H; exact H
        clear H
        have H := H1
        clear H1
        by_cases c16 : 0 < (t261.length : Int)
        · rw [if_pos c16] at H
          have c16b0 : decide (0 < (t261.length : Int)) = true := decide_eq_true c16
          have c16b1 : decide (0 < t261.length) = true := decide_eq_true (by omega)
          clear c16
          have H' := Aside0.mk H
          clear H
          have hnb17 := NB265_257.out
          have hnc17 := NB257_265.out
          have hcz18_0 : wc.cell? ⟨gb265, 0, none⟩ = some (.int .i64 t258) := (blk_cell BK265.out 0).trans rfl
          have hcz18_1 : wc.cell? ⟨gb265, 1, none⟩ = some (.int .i64 t259) := (blk_cell BK265.out 1).trans rfl
          have hcz18_2 : wc.cell? ⟨gb265, 2, none⟩ = some (.string t260) := (blk_cell BK265.out 2).trans rfl
          have hcz18_3 : wc.cell? ⟨gb265, 3, none⟩ = some (.slice Ao9 t261.length co9) := (blk_cell BK265.out 3).trans rfl
          have hfz18_0 := blk_frozen BK265.out 0
          have hfz18_1 := blk_frozen BK265.out 1
          have hfz18_2 := blk_frozen BK265.out 2
          have hfz18_3 := blk_frozen BK265.out 3
          have p266 : 0 ≤ (0 : Int) := (by omega)
          have q266 : 0 < (t261.length : Int) := of_decide_eq_true (by first | (with_reducible assumption) | assumption)
          obtain ⟨ad266, A266_3, c266_3, e266, hx266_0, hx266_1, hx266_2, hx266_3, hl266_3, hi266_3⟩ := at_T36 (Kd.R_reads' HO_266003.out).2.2 0 p266 q266
          cases e266
          obtain ⟨ce266, hce266, hMe266, hcc266⟩ := Kd.R_get HO_266003.out z36 0 p266 (by first | exact q266 | exact of_decide_eq_true (by first | (with_reducible assumption) | assumption) | (have e_ := (Kd.R_reads' HO_266003.out).1; omega))
          obtain ⟨ve266_3, rfl, ge266_3⟩ := k36_openM hMe266
          have hv266_3 := hcc266 3 _ rfl
          rw [add_field _ _ 3 (by omega)] at hv266_3
          replace hv266_3 := Option.some.inj (hv266_3.symm.trans hx266_3)
          rw [hv266_3] at ge266_3
          have HL266_3 := Aside0.mk (show Kd.R k36 36 _ _ _ _ ((rd_T36 t261 0).f3) from ge266_3)
          clear hv266_3 ge266_3
          clear hcc266 hce266
          have qi266 : (0 < t261.length) = True := eq_true (by omega)
          (try rw [show ((0 : Int)).toNat = 0 from rfl] at hx266_0)
          (try rw [show 0 * 4 = 0 from rfl] at hx266_0)
          (try rw [Addr.add_zero'] at hx266_0)
          (try rw [show ((0 : Int)).toNat = 0 from rfl] at hx266_1)
          (try rw [show 0 * 4 = 0 from rfl] at hx266_1)
          (try rw [Addr.add_zero'] at hx266_1)
          (try rw [show ((0 : Int)).toNat = 0 from rfl] at hx266_2)
          (try rw [show 0 * 4 = 0 from rfl] at hx266_2)
          (try rw [Addr.add_zero'] at hx266_2)
          (try rw [show ((0 : Int)).toNat = 0 from rfl] at hx266_3)
          (try rw [show 0 * 4 = 0 from rfl] at hx266_3)
          (try rw [Addr.add_zero'] at hx266_3)
          have HR266_3 := Aside0.mk hi266_3
          have HC266_3 := Aside0.mk hl266_3
          clear hi266_3 hl266_3
          replace p266 := eq_true p266
          replace q266 := eq_true q266
          go_wp2_with (first | ((with_reducible refine gate_dst (N := 6) rfl ?_); (try (refine gate_guard (by rfl) ?_; dsimp only)); refine box_event ?hg (N := 6) ?hd (cs := #[.int .i64 0, .slice none 0 0]) (t := 24) ?hr ?_; (case hd => rfl); (case hg => rfl); (case hr => first | (go_simp; done) | (go_simp; rfl)); intro gb267 hg w19 hbox hb; have n0_ := Aside0.mk (Kd.R_below (by (with_reducible repeat (first | apply Kd.R_alloc | apply Kd.R_drewN | apply Kd.R_drew)); exact HO_266003.out) hb); have n1_ := Aside0.mk (Kd.R_below (by (with_reducible repeat (first | apply Kd.R_alloc | apply Kd.R_drewN | apply Kd.R_drew)); exact HL266_3.out) hb); have n2_ := Aside0.mk (blk_below (g := gb257) (o := .cells #[.int .i64 0, .slice none 0 0] 24 (0, 0)) (by (with_reducible repeat (first | refine blk_drewN ?_ _ | refine blk_drew ?_ | refine blk_alloc ?_ _)); exact BK257.out) hb); have n3_ := Aside0.mk (blk_below (g := gb265) (o := .cells #[.int .i64 t258, .int .i64 t259, .string t260, .slice (some ad266) t261.length co9] 36 (0, 0)) (by (with_reducible repeat (first | refine blk_drewN ?_ _ | refine blk_drew ?_ | refine blk_alloc ?_ _)); exact BK265.out) hb); have n4_ := Aside0.mk (Kd.C_below (by repeat (first | (with_reducible exact HR266_3.out) | (with_reducible refine Kd.C_alloc ?_ _) | (with_reducible refine Kd.C_drewN ?_ _) | (with_reducible refine Kd.C_drew ?_) | exact HR266_3.out)) hb); have n5_ := Aside0.mk (below_step (by repeat (first | (with_reducible first | exact HB.out | apply below_alloc | apply pw_below_drewN | apply below_drew1 | refine below_set ?_ GE257.out | refine below_set ?_ GE265.out) | exact HB.out)) hb); have n6_ := Aside0.mk (hbox); have n7_ := Aside0.mk ((by rw [hg]; exact (below_size (by repeat (first | (with_reducible first | exact HB.out | apply below_alloc | apply pw_below_drewN | apply below_drew1 | refine below_set ?_ GE257.out | refine below_set ?_ GE265.out) | exact HB.out))) : w.heap.size ≤ gb267)); have n8_ := Aside0.mk ((by rw [hg]; exact (below_size (by repeat (first | (with_reducible first | exact HB.out | apply below_alloc | apply pw_below_drewN | apply below_drew1 | refine below_set ?_ GE257.out | refine below_set ?_ GE265.out) | exact HB.out))) : w.heap.size ≤ gb267)); have n9_ := Aside0.mk ((by rw [hg]; exact Nat.ne_of_lt (blk_lt (g := gb257) (o := .cells #[.int .i64 0, .slice none 0 0] 24 (0, 0)) (by (with_reducible repeat (first | refine blk_drewN ?_ _ | refine blk_drew ?_ | refine blk_alloc ?_ _)); exact BK257.out)) : gb257 ≠ gb267)); have n10_ := Aside0.mk ((by rw [hg]; exact Nat.ne_of_gt (blk_lt (g := gb257) (o := .cells #[.int .i64 0, .slice none 0 0] 24 (0, 0)) (by (with_reducible repeat (first | refine blk_drewN ?_ _ | refine blk_drew ?_ | refine blk_alloc ?_ _)); exact BK257.out)) : gb267 ≠ gb257)); have n11_ := Aside0.mk ((by rw [hg]; exact Nat.ne_of_lt (blk_lt (g := gb265) (o := .cells #[.int .i64 t258, .int .i64 t259, .string t260, .slice (some ad266) t261.length co9] 36 (0, 0)) (by (with_reducible repeat (first | refine blk_drewN ?_ _ | refine blk_drew ?_ | refine blk_alloc ?_ _)); exact BK265.out)) : gb265 ≠ gb267)); have n12_ := Aside0.mk ((by rw [hg]; exact Nat.ne_of_gt (blk_lt (g := gb265) (o := .cells #[.int .i64 t258, .int .i64 t259, .string t260, .slice (some ad266) t261.length co9] 36 (0, 0)) (by (with_reducible repeat (first | refine blk_drewN ?_ _ | refine blk_drew ?_ | refine blk_alloc ?_ _)); exact BK265.out)) : gb267 ≠ gb265)); clear HO_266003; clear HL266_3; clear BK257; clear BK265; clear HR266_3; clear HB; have HO_266003 := n0_; have HL266_3 := n1_; have BK257 := n2_; have BK265 := n3_; have HR266_3 := n4_; have HB := n5_; have BK267 := n6_; have GW267 := n7_; have GE267 := n8_; have NB257_267 := n9_; have NB267_257 := n10_; have NB265_267 := n11_; have NB267_265 := n12_; clear n0_ n1_ n2_ n3_ n4_ n5_ n6_ n7_ n8_ n9_ n10_ n11_ n12_; clear hb hbox hg; have hnb20 := NB267_257.out; have hnc20 := NB257_267.out; have hnb21 := NB267_265.out; have hnc21 := NB265_267.out; have hcz22_0 : w19.cell? ⟨gb267, 0, none⟩ = some (.int .i64 0) := (blk_cell BK267.out 0).trans rfl; have hcz22_1 : w19.cell? ⟨gb267, 1, none⟩ = some (.slice none 0 0) := (blk_cell BK267.out 1).trans rfl; have hfz22_0 := blk_frozen BK267.out 0; have hfz22_1 := blk_frozen BK267.out 1))
          go_loopg [7] kj2 (fun kq v7 w' => ∃ (x7_2 : Int) (x268001_2 : List Int) (u268001 : Value), v7 = .int .i64 x7_2 ∧ Aside0 (ploverref12_Of.l0 kq a0 x7_2 t258 t259 t260 t261 ((rd_T36 t261 0).f1) x268001_2 = some (r1, r2, r3)) ∧ Aside0 (kq ≤ kj2) ∧ Aside0 (Kd.R k36 36 w' w.heap.size (fun k_ => k_ ≠ gb265) (.slice (some ad266) t261.length co9) t261) ∧ Aside0 (Kd.R (Kd.int .i64) 3 w' w.heap.size (fun _ => True) u268001 x268001_2) ∧ Aside0 (w'.heap[gb257]? = some (.cells #[.int .i64 0, (.slice none 0 0)] 24 (0, 0))) ∧ Aside0 (w'.heap[gb265]? = some (.cells #[.int .i64 t258, .int .i64 t259, .string t260, (.slice (some ad266) t261.length co9)] 36 (0, 0))) ∧ Aside0 (w'.heap[gb267]? = some (.cells #[.int .i64 ((rd_T36 t261 0).f1), u268001] 24 (0, 0))) ∧ Aside0 (Below w.heap.size w w'))
          case atStart => exact ⟨(0), (([] : List Int)), (.slice none 0 0), (by first | rfl | (simp; done) | (simp [*]; done)), H', ⟨Nat.le_refl _⟩, ⟨by (with_reducible repeat (first | apply Kd.R_alloc | apply Kd.R_drewN | apply Kd.R_drew)); exact Kd.R_mono (Kd.R_far (p := ⟨gb267, 1, none⟩) (Kd.R_far (p := ⟨gb267, 0, none⟩) (Kd.R_types HO_266003.out BK267.out (by decide)) (fun _ hk => hk.2) (.int .i64 ((rd_T36 t261 0).f1))) (fun _ hk => hk.2) (.slice none 0 0)) (fun _ hk => hk.1)⟩, ⟨by first | exact Kd.R_nil _ _ _ _ _ | exact Kd.N_nil _ _ _ _ _ | exact Kd.V_nil _ _ _ _ _ | exact Kd.Q_nil _ _ _ _ _ | exact Kd.S_nil _ _ _ _ _⟩, ⟨by (with_reducible repeat (first | refine blk_drewN ?_ _ | refine blk_drew ?_ | refine blk_alloc ?_ _)); refine blk_far ?_ NB257_267.out _; (with_reducible repeat (first | refine blk_drewN ?_ _ | refine blk_drew ?_ | refine blk_alloc ?_ _)); refine blk_far ?_ NB257_267.out _; (with_reducible repeat (first | refine blk_drewN ?_ _ | refine blk_drew ?_ | refine blk_alloc ?_ _)); exact BK257.out⟩, ⟨by (with_reducible repeat (first | refine blk_drewN ?_ _ | refine blk_drew ?_ | refine blk_alloc ?_ _)); refine blk_far ?_ NB265_267.out _; (with_reducible repeat (first | refine blk_drewN ?_ _ | refine blk_drew ?_ | refine blk_alloc ?_ _)); refine blk_far ?_ NB265_267.out _; (with_reducible repeat (first | refine blk_drewN ?_ _ | refine blk_drew ?_ | refine blk_alloc ?_ _)); exact BK265.out⟩, ⟨by (with_reducible repeat (first | refine blk_drewN ?_ _ | refine blk_drew ?_ | refine blk_alloc ?_ _)); refine blk_put (cs := #[.int .i64 ((rd_T36 t261 0).f1), .slice none 0 0]) ?_ 1 _ rfl; (with_reducible repeat (first | refine blk_drewN ?_ _ | refine blk_drew ?_ | refine blk_alloc ?_ _)); refine blk_put (cs := #[.int .i64 0, .slice none 0 0]) ?_ 0 _ rfl; (with_reducible repeat (first | refine blk_drewN ?_ _ | refine blk_drew ?_ | refine blk_alloc ?_ _)); exact BK267.out⟩, ⟨by repeat (first | (with_reducible first | exact HB.out | apply below_alloc | apply pw_below_drewN | apply below_drew1 | refine below_set ?_ GE257.out | refine below_set ?_ GE265.out | refine below_set ?_ GE267.out) | exact HB.out)⟩⟩
          case round =>
            clear H'
            try clear c1
            try clear c2
            try clear p2
            try clear q2
            try clear hx2
            try clear qi2
            try clear c7
            try clear c8
            try clear c10
            try clear c10b0
            try clear c10b1
            try clear c11
            try clear c13
            try clear c14
            try clear c16
            try clear c16b0
            try clear c16b1
            try clear c17
            try clear c20
            try clear c21
            try clear hcz12_0
            try clear hcz12_1
            try clear hcz12_2
            try clear hcz12_3
            try clear hcz15_0
            try clear hcz15_1
            try clear hcz18_0
            try clear hcz18_1
            try clear hcz18_2
            try clear hcz18_3
            try clear hcz22_0
            try clear hcz22_1
            try clear hcz8_0
            try clear hcz8_1
            try clear hcz8_2
            try clear hcz8_3
            try clear hfz12_0
            try clear hfz12_1
            try clear hfz12_2
            try clear hfz12_3
            try clear hfz15_0
            try clear hfz15_1
            try clear hfz18_0
            try clear hfz18_1
            try clear hfz18_2
            try clear hfz18_3
            try clear hfz22_0
            try clear hfz22_1
            try clear hfz8_0
            try clear hfz8_1
            try clear hfz8_2
            try clear hfz8_3
            try clear hx266_0
            try clear hx266_1
            try clear hx266_2
            try clear hx266_3
            try clear p2
            try clear p266
            try clear q266
            obtain ⟨x7_2, x268001_2, u268001, rfl, HA, HK2, HO_266003, HO_268001, BK257, BK265, BK267, HB⟩ := hrel
            cases gk with
            | zero => exact absurd HA.out (by simp [ploverref12_Of.l0])
            | succ k2 =>
              have H := HA.out
              clear HA
              simp only [ploverref12_Of.l0] at H
              by_cases c23 : 1 < (t261.length : Int)
              · rw [if_pos c23] at H
                have c23b0 : decide (1 < (t261.length : Int)) = true := decide_eq_true c23
                have c23b1 : decide (1 < t261.length) = true := decide_eq_true (by omega)
                clear c23
                by_cases c24 : x7_2 < (((rd_T36 t261 1).f3).length : Int)
                · rw [if_pos c24] at H
                  have c24b0 : decide (x7_2 < (((rd_T36 t261 1).f3).length : Int)) = true := decide_eq_true c24
                  clear c24
                  by_cases c25 : 0 ≤ x7_2
                  · rw [if_pos c25] at H
                    have c25b0 : decide (0 ≤ x7_2) = true := decide_eq_true c25
                    clear c25
                    by_cases c26 : x268001_2.length < 17592186044416
                    · rw [if_pos c26] at H
                      have LMc26 := Aside0.mk c26
                      clear c26
                      obtain ⟨y271, hy271⟩ : ∃ y_ : List Int, y_ = (x268001_2 ++ [(rd_T36 ((rd_T36 t261 1).f3) x7_2).f1]) := ⟨_, rfl⟩
                      replace H : (ploverref12_Of.l0 k2 a0 (wrap64 (x7_2 + 1)) t258 t259 t260 t261 ((rd_T36 t261 0).f1) y271) = some (r1, r2, r3) := by first | (rw [hy271]; with_reducible exact H) | (have H2_ := (Option.bind_some _ _).symm.trans H; rw [hy271]; with_reducible exact H2_) | (have H2_ := (Option.bind_some _ _).symm.trans H; with_reducible exact H2_) | with_reducible exact H | (rw [hy271]; exact H) | exact H
                      have Ny271 := Aside0.mk hy271
                      clear hy271
                      have H' := Aside0.mk H
                      clear H
                      have hnb27 := NB265_257.out
                      have hnc27 := NB257_265.out
                      have hnb28 := NB265_267.out
                      have hnc28 := NB267_265.out
                      have hcz29_0 : wr.cell? ⟨gb265, 0, none⟩ = some (.int .i64 t258) := (blk_cell BK265.out 0).trans rfl
                      have hcz29_1 : wr.cell? ⟨gb265, 1, none⟩ = some (.int .i64 t259) := (blk_cell BK265.out 1).trans rfl
                      have hcz29_2 : wr.cell? ⟨gb265, 2, none⟩ = some (.string t260) := (blk_cell BK265.out 2).trans rfl
                      have hcz29_3 : wr.cell? ⟨gb265, 3, none⟩ = some (.slice (some ad266) t261.length co9) := (blk_cell BK265.out 3).trans rfl
                      have hfz29_0 := blk_frozen BK265.out 0
                      have hfz29_1 := blk_frozen BK265.out 1
                      have hfz29_2 := blk_frozen BK265.out 2
                      have hfz29_3 := blk_frozen BK265.out 3
                      have p268 : 0 ≤ (1 : Int) := (by omega)
                      have q268 : 1 < (t261.length : Int) := of_decide_eq_true (by first | (with_reducible assumption) | assumption)
                      obtain ⟨ad268, A268_3, c268_3, e268, hx268_0, hx268_1, hx268_2, hx268_3, hl268_3, hi268_3⟩ := at_T36 (Kd.R_reads' HO_266003.out).2.2 1 p268 q268
                      obtain rfl : ad266 = ad268 := (by injection e268)
                      obtain ⟨ce268, hce268, hMe268, hcc268⟩ := Kd.R_get HO_266003.out z36 1 p268 (by first | exact q268 | exact of_decide_eq_true (by first | (with_reducible assumption) | assumption) | (have e_ := (Kd.R_reads' HO_266003.out).1; omega))
                      obtain ⟨ve268_3, rfl, ge268_3⟩ := k36_openM hMe268
                      have hv268_3 := hcc268 3 _ rfl
                      rw [add_field _ _ 3 (by omega)] at hv268_3
                      replace hv268_3 := Option.some.inj (hv268_3.symm.trans hx268_3)
                      rw [hv268_3] at ge268_3
                      have HL268_3 := Aside0.mk (show Kd.R k36 36 _ _ _ _ ((rd_T36 t261 1).f3) from ge268_3)
                      clear hv268_3 ge268_3
                      clear hcc268 hce268
                      (try simp only [show (1 : Int).toNat = 1 from rfl, Nat.reduceMul, Nat.reduceEqDiff, Go.Addr.add, ↓reduceIte] at hx268_0)
                      (try simp only [show (1 : Int).toNat = 1 from rfl, Nat.reduceMul, Nat.reduceEqDiff, Go.Addr.add, ↓reduceIte] at hx268_1)
                      (try simp only [show (1 : Int).toNat = 1 from rfl, Nat.reduceMul, Nat.reduceEqDiff, Go.Addr.add, ↓reduceIte] at hx268_2)
                      (try simp only [show (1 : Int).toNat = 1 from rfl, Nat.reduceMul, Nat.reduceEqDiff, Go.Addr.add, ↓reduceIte] at hx268_3)
                      have qi268 : (1 < t261.length) = True := eq_true (by omega)
                      (try rw [show ((1 : Int)).toNat = 1 from rfl] at hx268_0)
                      (try rw [show 1 * 4 = 4 from rfl] at hx268_0)
                      (try rw [show ((1 : Int)).toNat = 1 from rfl] at hx268_1)
                      (try rw [show 1 * 4 = 4 from rfl] at hx268_1)
                      (try rw [show ((1 : Int)).toNat = 1 from rfl] at hx268_2)
                      (try rw [show 1 * 4 = 4 from rfl] at hx268_2)
                      (try rw [show ((1 : Int)).toNat = 1 from rfl] at hx268_3)
                      (try rw [show 1 * 4 = 4 from rfl] at hx268_3)
                      have HR268_3 := Aside0.mk hi268_3
                      have HC268_3 := Aside0.mk hl268_3
                      clear hi268_3 hl268_3
                      replace p268 := eq_true p268
                      replace q268 := eq_true q268
                      try go_wp2
                      have n0_ := Aside0.mk (Kd.R_drew HO_266003.out)
                      have n1_ := Aside0.mk (Kd.R_drew HO_268001.out)
                      have n2_ := Aside0.mk (Kd.R_drew HL268_3.out)
                      have n3_ := Aside0.mk (blk_drew BK257.out)
                      have n4_ := Aside0.mk (blk_drew BK265.out)
                      have n5_ := Aside0.mk (blk_drew BK267.out)
                      have n6_ := Aside0.mk (Kd.C_drew HR268_3.out)
                      have n7_ := Aside0.mk (below_drew1 HB.out)
                      clear HO_266003
                      clear HO_268001
                      clear HL268_3
                      clear BK257
                      clear BK265
                      clear BK267
                      clear HR268_3
                      clear HB
                      have HO_266003 := n0_
                      have HO_268001 := n1_
                      have HL268_3 := n2_
                      have BK257 := n3_
                      have BK265 := n4_
                      have BK267 := n5_
                      have HR268_3 := n6_
                      have HB := n7_
                      clear n0_ n1_ n2_ n3_ n4_ n5_ n6_ n7_
                      have p269 : 0 ≤ (1 : Int) := (by omega)
                      have q269 : 1 < (t261.length : Int) := of_decide_eq_true (by first | (with_reducible assumption) | assumption)
                      obtain ⟨ad269, A269_3, c269_3, e269, hx269_0, hx269_1, hx269_2, hx269_3, hl269_3, hi269_3⟩ := at_T36 (Kd.R_reads' HO_266003.out).2.2 1 p269 q269
                      obtain rfl : ad266 = ad269 := (by injection e269)
                      obtain ⟨ce269, hce269, hMe269, hcc269⟩ := Kd.R_get HO_266003.out z36 1 p269 (by first | exact q269 | exact of_decide_eq_true (by first | (with_reducible assumption) | assumption) | (have e_ := (Kd.R_reads' HO_266003.out).1; omega))
                      obtain ⟨ve269_3, rfl, ge269_3⟩ := k36_openM hMe269
                      have hv269_3 := hcc269 3 _ rfl
                      rw [add_field _ _ 3 (by omega)] at hv269_3
                      replace hv269_3 := Option.some.inj (hv269_3.symm.trans hx269_3)
                      rw [hv269_3] at ge269_3
                      have HL269_3 := Aside0.mk (show Kd.R k36 36 _ _ _ _ ((rd_T36 t261 1).f3) from ge269_3)
                      clear hv269_3 ge269_3
                      clear hcc269 hce269
                      (try simp only [show (1 : Int).toNat = 1 from rfl, Nat.reduceMul, Nat.reduceEqDiff, Go.Addr.add, ↓reduceIte] at hx269_0)
                      (try simp only [show (1 : Int).toNat = 1 from rfl, Nat.reduceMul, Nat.reduceEqDiff, Go.Addr.add, ↓reduceIte] at hx269_1)
                      (try simp only [show (1 : Int).toNat = 1 from rfl, Nat.reduceMul, Nat.reduceEqDiff, Go.Addr.add, ↓reduceIte] at hx269_2)
                      (try simp only [show (1 : Int).toNat = 1 from rfl, Nat.reduceMul, Nat.reduceEqDiff, Go.Addr.add, ↓reduceIte] at hx269_3)
                      have qi269 : (1 < t261.length) = True := eq_true (by omega)
                      (try rw [show ((1 : Int)).toNat = 1 from rfl] at hx269_0)
                      (try rw [show 1 * 4 = 4 from rfl] at hx269_0)
                      (try rw [show ((1 : Int)).toNat = 1 from rfl] at hx269_1)
                      (try rw [show 1 * 4 = 4 from rfl] at hx269_1)
                      (try rw [show ((1 : Int)).toNat = 1 from rfl] at hx269_2)
                      (try rw [show 1 * 4 = 4 from rfl] at hx269_2)
                      (try rw [show ((1 : Int)).toNat = 1 from rfl] at hx269_3)
                      (try rw [show 1 * 4 = 4 from rfl] at hx269_3)
                      have HR269_3 := Aside0.mk hi269_3
                      have HC269_3 := Aside0.mk hl269_3
                      clear hi269_3 hl269_3
                      replace p269 := eq_true p269
                      replace q269 := eq_true q269
                      have p270 : 0 ≤ (x7_2 : Int) := of_decide_eq_true (by first | (with_reducible assumption) | assumption)
                      have q270 : x7_2 < (((rd_T36 t261 1).f3).length : Int) := of_decide_eq_true (by first | (with_reducible assumption) | assumption)
                      obtain ⟨ad270, A270_3, c270_3, e270, hx270_0, hx270_1, hx270_2, hx270_3, hl270_3, hi270_3⟩ := at_T36 (by repeat (first | (with_reducible exact HR269_3.out) | (with_reducible refine Kd.C_alloc ?_ _) | (with_reducible refine Kd.C_drewN ?_ _) | (with_reducible refine Kd.C_drew ?_) | exact HR269_3.out)) x7_2 p270 q270
                      cases e270
                      obtain ⟨ce270, hce270, hMe270, hcc270⟩ := Kd.R_get HL269_3.out z36 x7_2 p270 (by first | exact q270 | exact of_decide_eq_true (by first | (with_reducible assumption) | assumption) | (have e_ := (Kd.R_reads' HL269_3.out).1; omega))
                      obtain ⟨ve270_3, rfl, ge270_3⟩ := k36_openM hMe270
                      have hv270_3 := hcc270 3 _ rfl
                      rw [add_field _ _ 3 (by omega)] at hv270_3
                      replace hv270_3 := Option.some.inj (hv270_3.symm.trans hx270_3)
                      rw [hv270_3] at ge270_3
                      have HL270_3 := Aside0.mk (show Kd.R k36 36 _ _ _ _ ((rd_T36 ((rd_T36 t261 1).f3) x7_2).f3) from ge270_3)
                      clear hv270_3 ge270_3
                      clear hcc270 hce270
                      have HR270_3 := Aside0.mk hi270_3
                      have HC270_3 := Aside0.mk hl270_3
                      clear hi270_3 hl270_3
                      replace p270 := eq_true p270
                      replace q270 := eq_true q270
                      refine start_ (n := 15) (S := fun w' => w'.cell? ⟨gb267, 0, none⟩ = some (.int .i64 ((rd_T36 t261 0).f1)) ∧ w'.cell? ⟨gb267, 1, none⟩ = some (u268001) ∧ w'.cell? ⟨gb265, 0, none⟩ = some (.int .i64 t258) ∧ w'.cell? ⟨gb265, 1, none⟩ = some (.int .i64 t259) ∧ w'.cell? ⟨gb265, 2, none⟩ = some (.string t260) ∧ w'.cell? ⟨gb265, 3, none⟩ = some (.slice (some ad266) t261.length co9) ∧ w'.cell? ⟨ad266.block, ad266.off + 4, none⟩ = some (.int .i64 ((rd_T36 t261 1).f0)) ∧ w'.cell? ⟨ad266.block, ad266.off + 4 + 1, none⟩ = some (.int .i64 ((rd_T36 t261 1).f1)) ∧ w'.cell? ⟨ad266.block, ad266.off + 4 + 2, none⟩ = some (.string ((rd_T36 t261 1).f2)) ∧ w'.cell? ⟨ad266.block, ad266.off + 4 + 3, none⟩ = some (.slice (some ad270) ((rd_T36 t261 1).f3).length c269_3) ∧ w'.cell? (ad270.add ((x7_2).toNat * 4)) = some (.int .i64 ((rd_T36 ((rd_T36 t261 1).f3) x7_2).f0)) ∧ w'.cell? ⟨(ad270.add ((x7_2).toNat * 4)).block, (ad270.add ((x7_2).toNat * 4)).off + 1, none⟩ = some (.int .i64 ((rd_T36 ((rd_T36 t261 1).f3) x7_2).f1)) ∧ w'.cell? ⟨(ad270.add ((x7_2).toNat * 4)).block, (ad270.add ((x7_2).toNat * 4)).off + 2, none⟩ = some (.string ((rd_T36 ((rd_T36 t261 1).f3) x7_2).f2)) ∧ w'.cell? ⟨(ad270.add ((x7_2).toNat * 4)).block, (ad270.add ((x7_2).toNat * 4)).off + 3, none⟩ = some (.slice A270_3 ((rd_T36 ((rd_T36 t261 1).f3) x7_2).f3).length c270_3)) (ds := [12, 14]) #[false, false, false, false, false, false, false, false, false, false, false, false, false, false, false] (by kernel_rfl) rfl rfl ⟨(blk_cell BK267.out 0).trans rfl, (blk_cell BK267.out 1).trans rfl, (blk_cell BK265.out 0).trans rfl, (blk_cell BK265.out 1).trans rfl, (blk_cell BK265.out 2).trans rfl, (blk_cell BK265.out 3).trans rfl, hx269_0, hx269_1, hx269_2, hx269_3, hx270_0, hx270_1, hx270_2, hx270_3⟩ (fun hHeld => ?_); refine with_tabW ploverref12_Of.tab8 ploverref12_Of.bits8 (fun HT_ HW_ => ?_)
                      generalize wr.drew = w30 at HO_266003 HO_268001 HL268_3 BK257 BK265 BK267 HR268_3 HB HL269_3 HL270_3 HR269_3 HR270_3 hx269_0 hx269_1 hx269_2 hx269_3 hx270_0 hx270_1 hx270_2 hx270_3 hHeld ⊢
                      refine pure_ (i := 0) (N := some 40) (v := ?_) (a' := ?_) #[true, false, false, false, false, false, false, false, false, false, false, false, false, false, false] rfl rfl (any_of HT_.out (by kernel_rfl)) (fun _ _ _ h => h) (Or.inl ⟨by rfl, ?_⟩) ?_ ?_
                      rotate_left
                      · intro w'
                        go_simp
                        with_reducible rfl
                      rotate_left
                      · simp only [Act.put, List.setIfInBounds_toArray, List.set_cons_zero, List.set_cons_succ, i64_w, i32_w]
                        rfl
                      refine pure_ (i := 2) (N := some 42) (v := ?_) (a' := ?_) #[true, false, true, false, false, false, false, false, false, false, false, false, false, false, false] rfl rfl (any_of HT_.out (by kernel_rfl)) (fun _ _ _ h => h) (Or.inl ⟨by rfl, ?_⟩) ?_ ?_
                      rotate_left
                      · intro w'
                        go_simp
                        with_reducible rfl
                      rotate_left
                      · simp only [Act.put, List.setIfInBounds_toArray, List.set_cons_zero, List.set_cons_succ, i64_w, i32_w]
                        rfl
                      refine pure_ (i := 7) (N := some 47) (v := ?_) (a' := ?_) #[true, false, true, false, false, false, false, true, false, false, false, false, false, false, false] rfl rfl (any_of HT_.out (by kernel_rfl)) (fun _ _ _ h => h) (Or.inl ⟨by rfl, ?_⟩) ?_ ?_
                      rotate_left
                      · intro w'
                        go_simp
                        with_reducible rfl
                      rotate_left
                      · simp only [Act.put, List.setIfInBounds_toArray, List.set_cons_zero, List.set_cons_succ, i64_w, i32_w]
                        rfl
                      refine take_ (i := 1) (N := some 41) (v := ?_) (a' := ?_) #[true, true, true, false, false, false, false, true, false, false, false, false, false, false, false] rfl rfl (take_ofW HT_.out HW_.out (by kernel_rfl)) (fun _ _ _ h => h) (Or.inl ⟨by rfl, ?_⟩) hHeld ?_ ?_
                      rotate_left
                      · rintro w' ⟨s0, s1, s2, s3, s4, s5, s6, s7, s8, s9, s10, s11, s12, s13⟩
                        go_simp
                        with_reducible rfl
                      rotate_left
                      · simp only [Act.put, List.setIfInBounds_toArray, List.set_cons_zero, List.set_cons_succ, i64_w, i32_w]
                        rfl
                      refine take_ (i := 3) (N := some 43) (v := ?_) (a' := ?_) #[true, true, true, true, false, false, false, true, false, false, false, false, false, false, false] rfl rfl (take_ofW HT_.out HW_.out (by kernel_rfl)) (fun _ _ _ h => h) (Or.inl ⟨by rfl, ?_⟩) hHeld ?_ ?_
                      rotate_left
                      · rintro w' ⟨s0, s1, s2, s3, s4, s5, s6, s7, s8, s9, s10, s11, s12, s13⟩
                        go_simp
                        with_reducible rfl
                      rotate_left
                      · simp only [Act.put, List.setIfInBounds_toArray, List.set_cons_zero, List.set_cons_succ, i64_w, i32_w]
                        rfl
                      refine pure_ (i := 4) (N := some 44) (v := ?_) (a' := ?_) #[true, true, true, true, true, false, false, true, false, false, false, false, false, false, false] rfl rfl (any_of HT_.out (by kernel_rfl)) (fun _ _ _ h => h) (Or.inl ⟨by rfl, ?_⟩) ?_ ?_
                      rotate_left
                      · intro w'
                        go_simp
                        with_reducible rfl
                      rotate_left
                      · simp only [Act.put, List.setIfInBounds_toArray, List.set_cons_zero, List.set_cons_succ, i64_w, i32_w]
                        rfl
                      refine pure_ (i := 5) (N := some 45) (v := ?_) (a' := ?_) #[true, true, true, true, true, true, false, true, false, false, false, false, false, false, false] rfl rfl (any_of HT_.out (by kernel_rfl)) (fun _ _ _ h => h) (Or.inl ⟨by rfl, ?_⟩) ?_ ?_
                      rotate_left
                      · intro w'
                        go_simp
                        with_reducible rfl
                      rotate_left
                      · simp only [Act.put, List.setIfInBounds_toArray, List.set_cons_zero, List.set_cons_succ, i64_w, i32_w]
                        rfl
                      refine take_ (i := 6) (N := some 46) (v := ?_) (a' := ?_) #[true, true, true, true, true, true, true, true, false, false, false, false, false, false, false] rfl rfl (take_ofW HT_.out HW_.out (by kernel_rfl)) (fun _ _ _ h => h) (Or.inl ⟨by rfl, ?_⟩) hHeld ?_ ?_
                      rotate_left
                      · rintro w' ⟨s0, s1, s2, s3, s4, s5, s6, s7, s8, s9, s10, s11, s12, s13⟩
                        go_simp
                        with_reducible rfl
                      rotate_left
                      · simp only [Act.put, List.setIfInBounds_toArray, List.set_cons_zero, List.set_cons_succ, i64_w, i32_w]
                        rfl
                      refine pure_ (i := 8) (N := some 48) (v := ?_) (a' := ?_) #[true, true, true, true, true, true, true, true, true, false, false, false, false, false, false] rfl rfl (any_of HT_.out (by kernel_rfl)) (fun _ _ _ h => h) (Or.inl ⟨by rfl, ?_⟩) ?_ ?_
                      rotate_left
                      · intro w'
                        go_simp
                        with_reducible rfl
                      rotate_left
                      · simp only [Act.put, List.setIfInBounds_toArray, List.set_cons_zero, List.set_cons_succ, i64_w, i32_w]
                        rfl
                      refine pure_ (i := 9) (N := some 49) (v := ?_) (a' := ?_) #[true, true, true, true, true, true, true, true, true, true, false, false, false, false, false] rfl rfl (any_of HT_.out (by kernel_rfl)) (fun _ _ _ h => h) (Or.inl ⟨by rfl, ?_⟩) ?_ ?_
                      rotate_left
                      · intro w'
                        go_simp
                        with_reducible rfl
                      rotate_left
                      · simp only [Act.put, List.setIfInBounds_toArray, List.set_cons_zero, List.set_cons_succ, i64_w, i32_w]
                        rfl
                      refine take_ (i := 10) (N := some 50) (v := ?_) (a' := ?_) #[true, true, true, true, true, true, true, true, true, true, true, false, false, false, false] rfl rfl (take_ofW HT_.out HW_.out (by kernel_rfl)) (fun _ _ _ h => h) (Or.inl ⟨by rfl, ?_⟩) hHeld ?_ ?_
                      rotate_left
                      · rintro w' ⟨s0, s1, s2, s3, s4, s5, s6, s7, s8, s9, s10, s11, s12, s13⟩
                        go_simp
                        with_reducible rfl
                      rotate_left
                      · simp only [Act.put, List.setIfInBounds_toArray, List.set_cons_zero, List.set_cons_succ, i64_w, i32_w]
                        rfl
                      refine one_ (i := 11) (N := some 51) #[true, true, true, true, true, true, true, true, true, true, true, true, false, false, false] rfl rfl (one_of HT_.out (by kernel_rfl)) (by decide) (fun K hK => ?_)
                      refine value_ (w1 := ?_) (v := ?_) (by rfl) rfl ?_ ?_
                      rotate_left 2
                      · go_simp
                        constructor
                        · rfl
                        · rfl
                      refine hK.out _ _ ⟨(blk_cell (blk_alloc BK267.out _) 0).trans rfl, (blk_cell (blk_alloc BK267.out _) 1).trans rfl, (blk_cell (blk_alloc BK265.out _) 0).trans rfl, (blk_cell (blk_alloc BK265.out _) 1).trans rfl, (blk_cell (blk_alloc BK265.out _) 2).trans rfl, (blk_cell (blk_alloc BK265.out _) 3).trans rfl, (World.cell?_alloc_lt _ _ _ (World.block_lt_of_cell? _ _ (hHeld.2.2.2.2.2.2.1))).trans (hHeld.2.2.2.2.2.2.1), (World.cell?_alloc_lt _ _ _ (World.block_lt_of_cell? _ _ (hHeld.2.2.2.2.2.2.2.1))).trans (hHeld.2.2.2.2.2.2.2.1), (World.cell?_alloc_lt _ _ _ (World.block_lt_of_cell? _ _ (hHeld.2.2.2.2.2.2.2.2.1))).trans (hHeld.2.2.2.2.2.2.2.2.1), (World.cell?_alloc_lt _ _ _ (World.block_lt_of_cell? _ _ (hHeld.2.2.2.2.2.2.2.2.2.1))).trans (hHeld.2.2.2.2.2.2.2.2.2.1), (World.cell?_alloc_lt _ _ _ (World.block_lt_of_cell? _ _ (hHeld.2.2.2.2.2.2.2.2.2.2.1))).trans (hHeld.2.2.2.2.2.2.2.2.2.2.1), (World.cell?_alloc_lt _ _ _ (World.block_lt_of_cell? _ _ (hHeld.2.2.2.2.2.2.2.2.2.2.2.1))).trans (hHeld.2.2.2.2.2.2.2.2.2.2.2.1), (World.cell?_alloc_lt _ _ _ (World.block_lt_of_cell? _ _ (hHeld.2.2.2.2.2.2.2.2.2.2.2.2.1))).trans (hHeld.2.2.2.2.2.2.2.2.2.2.2.2.1), (World.cell?_alloc_lt _ _ _ (World.block_lt_of_cell? _ _ (hHeld.2.2.2.2.2.2.2.2.2.2.2.2.2))).trans (hHeld.2.2.2.2.2.2.2.2.2.2.2.2.2)⟩ (fun hHeld => ?_)
                      clear hK K
                      refine norm_ (a' := ?_) ?_ ?_
                      rotate_left
                      · show Act.put _ (some 51) _ = _
                        simp only [Act.put, List.setIfInBounds_toArray, List.set_cons_zero, List.set_cons_succ, i64_w, i32_w]
                        rfl
                      refine last_ (i := 12) (N := some 52) #[true, true, true, true, true, true, true, true, true, true, true, true, true, false, false] rfl rfl (one_of HT_.out (by kernel_rfl)) (by decide) (fun K hK => ?_)
                      refine Kd.R_append_step (Kd.int .i64) (w0 := w) w.heap.size (by rfl) (.tmp 41) (.tmp 51) 22 3 (.int .i64 0) 8 rfl Tryd.underlying22 info3 rfl (by decide) (by omega) u268001 x268001_2 ((rd_T36 ((rd_T36 t261 1).f3) x7_2).f1) [.int .i64 ((rd_T36 ((rd_T36 t261 1).f3) x7_2).f1)] (fun _ => True) (fun _ => False) rfl rfl ?aP (fun _ hk => hk.elim) ?aF ?aO ?aB ?aS ?aL ?_
                      (case aP => exact rfl)
                      (case aB => exact (by repeat (first | (with_reducible first | exact HB.out | apply below_alloc | apply pw_below_drewN | apply below_drew1 | refine below_set ?_ GE257.out | refine below_set ?_ GE265.out | refine below_set ?_ GE267.out) | exact HB.out)))
                      (case aF => exact (fun _ _ => trivial))
                      (case aO => exact (by (with_reducible repeat (first | apply Kd.R_alloc | apply Kd.R_drewN | apply Kd.R_drew)); exact HO_268001.out))
                      (case aS => exact (below_size (by repeat (first | (with_reducible first | exact HB.out | apply below_alloc | apply pw_below_drewN | apply below_drew1 | refine below_set ?_ GE257.out | refine below_set ?_ GE265.out | refine below_set ?_ GE267.out) | exact HB.out))))
                      (case aL => have := LMc26.out; omega)
                      intro v272 w31 ho hb hg hat
                      rw [← Ny271.out] at ho
                      have n0_ := Aside0.mk (Kd.R_over' (by (with_reducible repeat (first | apply Kd.R_alloc | apply Kd.R_drewN | apply Kd.R_drew)); exact HO_266003.out) (Kd.R_typed (by (with_reducible repeat (first | apply Kd.R_alloc | apply Kd.R_drewN | apply Kd.R_drew)); exact HO_268001.out)) (by decide) hg)
                      have n1_ := Aside0.mk (blk_grown (g := gb257) (o := .cells #[.int .i64 0, .slice none 0 0] 24 (0, 0)) (by (with_reducible repeat (first | refine blk_drewN ?_ _ | refine blk_drew ?_ | refine blk_alloc ?_ _)); exact BK257.out) hg (Kd.R_ne HO_268001.out BK257.out (by decide)))
                      have n2_ := Aside0.mk (blk_grown (g := gb265) (o := .cells #[.int .i64 t258, .int .i64 t259, .string t260, .slice (some ad266) t261.length co9] 36 (0, 0)) (by (with_reducible repeat (first | refine blk_drewN ?_ _ | refine blk_drew ?_ | refine blk_alloc ?_ _)); exact BK265.out) hg (Kd.R_ne HO_268001.out BK265.out (by decide)))
                      have n3_ := Aside0.mk (blk_grown (g := gb267) (o := .cells #[.int .i64 ((rd_T36 t261 0).f1), u268001] 24 (0, 0)) (by (with_reducible repeat (first | refine blk_drewN ?_ _ | refine blk_drew ?_ | refine blk_alloc ?_ _)); exact BK267.out) hg (Kd.R_ne HO_268001.out BK267.out (by decide)))
                      have n4_ := Aside0.mk (Kd.R_over' (by (with_reducible repeat (first | apply Kd.R_alloc | apply Kd.R_drewN | apply Kd.R_drew)); exact HL268_3.out) (Kd.R_typed (by (with_reducible repeat (first | apply Kd.R_alloc | apply Kd.R_drewN | apply Kd.R_drew)); exact HO_268001.out)) (by decide) hg)
                      have n5_ := Aside0.mk (Kd.R_over' (by (with_reducible repeat (first | apply Kd.R_alloc | apply Kd.R_drewN | apply Kd.R_drew)); exact HL269_3.out) (Kd.R_typed (by (with_reducible repeat (first | apply Kd.R_alloc | apply Kd.R_drewN | apply Kd.R_drew)); exact HO_268001.out)) (by decide) hg)
                      have n6_ := Aside0.mk (Kd.R_over' (by (with_reducible repeat (first | apply Kd.R_alloc | apply Kd.R_drewN | apply Kd.R_drew)); exact HL270_3.out) (Kd.R_typed (by (with_reducible repeat (first | apply Kd.R_alloc | apply Kd.R_drewN | apply Kd.R_drew)); exact HO_268001.out)) (by decide) hg)
                      have n7_ := Aside0.mk (hb)
                      have n8_ := Aside0.mk (ho)
                      clear HO_266003
                      clear BK257
                      clear BK265
                      clear BK267
                      clear HL268_3
                      clear HL269_3
                      clear HL270_3
                      clear HB
                      clear HO_268001
                      have HO_266003 := n0_
                      have BK257 := n1_
                      have BK265 := n2_
                      have BK267 := n3_
                      have HL268_3 := n4_
                      have HL269_3 := n5_
                      have HL270_3 := n6_
                      have HB := n7_
                      have HO273 := n8_
                      clear n0_ n1_ n2_ n3_ n4_ n5_ n6_ n7_ n8_
                      clear ho hb hg hat
                      obtain ⟨Ao32, co32, eo32⟩ := Kd.R_slice HO273.out
                      (first | subst eo32 | (injection eo32 with f1_ f2_ f3_; have f4_ := f1_.symm; have f5_ := f3_.symm; clear f1_ f2_ f3_; subst f4_; subst f5_))
                      refine hK.out _ _ ?_
                      clear hK K
                      refine norm_ (a' := ?_) ?_ ?_
                      rotate_left
                      · show Act.put _ (some 52) _ = _
                        simp only [Act.put, List.setIfInBounds_toArray, List.set_cons_zero, List.set_cons_succ, i64_w, i32_w]
                        rfl
                      refine pure_ (i := 13) (N := some 53) (v := ?_) (a' := ?_) #[true, true, true, true, true, true, true, true, true, true, true, true, true, true, false] rfl rfl (any_of HT_.out (by kernel_rfl)) (fun _ _ _ h => h) (Or.inl ⟨by rfl, ?_⟩) ?_ ?_
                      rotate_left
                      · intro w'
                        go_simp
                        with_reducible rfl
                      rotate_left
                      · simp only [Act.put, List.setIfInBounds_toArray, List.set_cons_zero, List.set_cons_succ, i64_w, i32_w]
                        rfl
                      refine last_ (i := 14) (N := none) #[true, true, true, true, true, true, true, true, true, true, true, true, true, true, true] rfl rfl (one_of HT_.out (by kernel_rfl)) (by decide) (fun K hK => ?_)
                      have hs33 : w31.cell? ⟨gb267, 1, none⟩ = some (u268001) := (blk_cell BK267.out 1).trans rfl
                      have hfs33 := blk_frozen BK267.out 1
                      have hns33_0 := NB257_267.out
                      have hns33_1 := NB265_267.out
                      have hms33_0 := NB267_257.out
                      have hms33_1 := NB267_265.out
                      refine skip_ (w1 := ?_) (by rfl) rfl ?_ ?_
                      rotate_left
                      · go_simp
                        rfl
                      refine hK.out _ _ ?_
                      clear hK K
                      refine done_ (done_of HT_.out (by kernel_rfl)) ?_
                      try go_wp2
                      go_roundg k2
                      case measure => have := HJ2.out; have := HK2.out; omega
                      case rel => exact ⟨(wrap64 (x7_2 + 1)), (y271), (.slice Ao32 y271.length co32), (by first | rfl | (simp; done) | (simp [*]; done)), H', ⟨by have := HJ2.out; have := HK2.out; omega⟩, ⟨by (with_reducible repeat (first | apply Kd.R_alloc | apply Kd.R_drewN | apply Kd.R_drew)); exact Kd.R_mono (Kd.R_far (p := ⟨gb267, 1, none⟩) (Kd.R_types HO_266003.out BK267.out (by decide)) (fun _ hk => hk.2) (.slice Ao32 y271.length co32)) (fun _ hk => hk.1)⟩, ⟨by (with_reducible repeat (first | apply Kd.R_alloc | apply Kd.R_drewN | apply Kd.R_drew)); exact Kd.R_mono (Kd.R_far (p := ⟨gb267, 1, none⟩) (Kd.R_types HO273.out BK267.out (by decide)) (fun _ hk => hk.2) (.slice Ao32 y271.length co32)) (fun _ hk => trivial)⟩, ⟨by (with_reducible repeat (first | refine blk_drewN ?_ _ | refine blk_drew ?_ | refine blk_alloc ?_ _)); refine blk_far ?_ NB257_267.out _; (with_reducible repeat (first | refine blk_drewN ?_ _ | refine blk_drew ?_ | refine blk_alloc ?_ _)); exact BK257.out⟩, ⟨by (with_reducible repeat (first | refine blk_drewN ?_ _ | refine blk_drew ?_ | refine blk_alloc ?_ _)); refine blk_far ?_ NB265_267.out _; (with_reducible repeat (first | refine blk_drewN ?_ _ | refine blk_drew ?_ | refine blk_alloc ?_ _)); exact BK265.out⟩, ⟨by (with_reducible repeat (first | refine blk_drewN ?_ _ | refine blk_drew ?_ | refine blk_alloc ?_ _)); refine blk_put (cs := #[.int .i64 ((rd_T36 t261 0).f1), u268001]) ?_ 1 _ rfl; (with_reducible repeat (first | refine blk_drewN ?_ _ | refine blk_drew ?_ | refine blk_alloc ?_ _)); exact BK267.out⟩, ⟨by repeat (first | (with_reducible first | exact HB.out | apply below_alloc | apply pw_below_drewN | apply below_drew1 | refine below_set ?_ GE257.out | refine below_set ?_ GE265.out | refine below_set ?_ GE267.out) | exact HB.out)⟩⟩
                    · rw [if_neg c26] at H
                      exact absurd H (by simp)
                  · rw [if_neg c25] at H
                    exact absurd H (by simp)
                · rw [if_neg c24] at H
                  have c24b0 : decide (x7_2 < (((rd_T36 t261 1).f3).length : Int)) = false := decide_eq_false c24
                  clear c24
                  replace H := Option.bind_eq_some_iff.mp H
                  obtain ⟨⟨t274, t275⟩, A340, H⟩ := H
                  replace H : (if t275 = 0 then (if t274.toList = a0.toList then (some (((rd_T36 t261 0).f1), x268001_2, 0)) else (some (0, ([] : List Int), 20))) else (some (0, ([] : List Int), 20))) = some (r1, r2, r3) := H
                  have A34 := Aside0.mk A340
                  clear A340
                  by_cases c35 : t275 = 0
                  · rw [if_pos c35] at H
                    have c35b0 : (t275 == 0) = true := beq_iff_eq.mpr c35
                    have c35b1 : (t275 != 0) = false := bne_eq_false_iff_eq.mpr c35
                    clear c35
                    by_cases c36 : t274.toList = a0.toList
                    · rw [if_pos c36] at H
                      have c36b0 : (t274.toList == a0.toList) = true := beq_iff_eq.mpr c36
                      have c36b1 : (t274.toList != a0.toList) = false := bne_eq_false_iff_eq.mpr c36
                      clear c36
                      simp only [Option.some.injEq, Prod.mk.injEq] at H
                      obtain ⟨rfl, rfl, rfl⟩ := H
                      have hnb37 := NB265_257.out
                      have hnc37 := NB257_265.out
                      have hnb38 := NB265_267.out
                      have hnc38 := NB267_265.out
                      have hcz39_0 : wr.cell? ⟨gb265, 0, none⟩ = some (.int .i64 t258) := (blk_cell BK265.out 0).trans rfl
                      have hcz39_1 : wr.cell? ⟨gb265, 1, none⟩ = some (.int .i64 t259) := (blk_cell BK265.out 1).trans rfl
                      have hcz39_2 : wr.cell? ⟨gb265, 2, none⟩ = some (.string t260) := (blk_cell BK265.out 2).trans rfl
                      have hcz39_3 : wr.cell? ⟨gb265, 3, none⟩ = some (.slice (some ad266) t261.length co9) := (blk_cell BK265.out 3).trans rfl
                      have hfz39_0 := blk_frozen BK265.out 0
                      have hfz39_1 := blk_frozen BK265.out 1
                      have hfz39_2 := blk_frozen BK265.out 2
                      have hfz39_3 := blk_frozen BK265.out 3
                      have p268 : 0 ≤ (1 : Int) := (by omega)
                      have q268 : 1 < (t261.length : Int) := of_decide_eq_true (by first | (with_reducible assumption) | assumption)
                      obtain ⟨ad268, A268_3, c268_3, e268, hx268_0, hx268_1, hx268_2, hx268_3, hl268_3, hi268_3⟩ := at_T36 (Kd.R_reads' HO_266003.out).2.2 1 p268 q268
                      obtain rfl : ad266 = ad268 := (by injection e268)
                      obtain ⟨ce268, hce268, hMe268, hcc268⟩ := Kd.R_get HO_266003.out z36 1 p268 (by first | exact q268 | exact of_decide_eq_true (by first | (with_reducible assumption) | assumption) | (have e_ := (Kd.R_reads' HO_266003.out).1; omega))
                      obtain ⟨ve268_3, rfl, ge268_3⟩ := k36_openM hMe268
                      have hv268_3 := hcc268 3 _ rfl
                      rw [add_field _ _ 3 (by omega)] at hv268_3
                      replace hv268_3 := Option.some.inj (hv268_3.symm.trans hx268_3)
                      rw [hv268_3] at ge268_3
                      have HL268_3 := Aside0.mk (show Kd.R k36 36 _ _ _ _ ((rd_T36 t261 1).f3) from ge268_3)
                      clear hv268_3 ge268_3
                      clear hcc268 hce268
                      (try simp only [show (1 : Int).toNat = 1 from rfl, Nat.reduceMul, Nat.reduceEqDiff, Go.Addr.add, ↓reduceIte] at hx268_0)
                      (try simp only [show (1 : Int).toNat = 1 from rfl, Nat.reduceMul, Nat.reduceEqDiff, Go.Addr.add, ↓reduceIte] at hx268_1)
                      (try simp only [show (1 : Int).toNat = 1 from rfl, Nat.reduceMul, Nat.reduceEqDiff, Go.Addr.add, ↓reduceIte] at hx268_2)
                      (try simp only [show (1 : Int).toNat = 1 from rfl, Nat.reduceMul, Nat.reduceEqDiff, Go.Addr.add, ↓reduceIte] at hx268_3)
                      have qi268 : (1 < t261.length) = True := eq_true (by omega)
                      (try rw [show ((1 : Int)).toNat = 1 from rfl] at hx268_0)
                      (try rw [show 1 * 4 = 4 from rfl] at hx268_0)
                      (try rw [show ((1 : Int)).toNat = 1 from rfl] at hx268_1)
                      (try rw [show 1 * 4 = 4 from rfl] at hx268_1)
                      (try rw [show ((1 : Int)).toNat = 1 from rfl] at hx268_2)
                      (try rw [show 1 * 4 = 4 from rfl] at hx268_2)
                      (try rw [show ((1 : Int)).toNat = 1 from rfl] at hx268_3)
                      (try rw [show 1 * 4 = 4 from rfl] at hx268_3)
                      have HR268_3 := Aside0.mk hi268_3
                      have HC268_3 := Aside0.mk hl268_3
                      clear hi268_3 hl268_3
                      replace p268 := eq_true p268
                      replace q268 := eq_true q268
                      have hnb40 := NB267_257.out
                      have hnc40 := NB257_267.out
                      have hcz41_0 : wr.cell? ⟨gb267, 0, none⟩ = some (.int .i64 ((rd_T36 t261 0).f1)) := (blk_cell BK267.out 0).trans rfl
                      have hcz41_1 : wr.cell? ⟨gb267, 1, none⟩ = some (u268001) := (blk_cell BK267.out 1).trans rfl
                      have hfz41_0 := blk_frozen BK267.out 0
                      have hfz41_1 := blk_frozen BK267.out 1
                      obtain ⟨Ao42, co42, eo42⟩ := Kd.R_slice HO_268001.out
                      subst eo42
                      go_wp2_with (first | ((with_reducible refine gate_callee (f := 6) rfl ?_); refine goesL_ (some 56) rfl rfl Tryd.func6 (by kernel_rfl) rfl #[.agg #[.int .i64 ((rd_T36 t261 0).f1), .slice Ao42 x268001_2.length co42]] rfl (by (try simp only [List.map_toArray, List.map_cons, List.map_nil]); first | done | rfl | (simp only [List.length_drop, List.length_take]; rfl)) ?_; (with_reducible refine (ploverref12_Text.calls k2 ((rd_T36 t261 0).f1) _ _ x268001_2 t274 t275 _ ?side1 ?side2 A34.out).mono ?_); (case side1 => repeat (first | exact (Kd.R_reads' HO_268001.out).2.2 | (with_reducible refine Kd.C_alloc ?_ _) | (with_reducible refine Kd.C_drewN ?_ _) | (with_reducible refine Kd.C_drew ?_))); (case side2 => exact (Kd.R_reads' HO_268001.out).2.1); rintro e w43 ⟨rfl, hb⟩; refine ⟨_, rfl, ?_⟩; have n0_ := Aside0.mk (Kd.R_below (by (with_reducible repeat (first | apply Kd.R_alloc | apply Kd.R_drewN | apply Kd.R_drew)); exact HO_266003.out) hb); have n1_ := Aside0.mk (Kd.R_below (by (with_reducible repeat (first | apply Kd.R_alloc | apply Kd.R_drewN | apply Kd.R_drew)); exact HO_268001.out) hb); have n2_ := Aside0.mk (Kd.R_below (by (with_reducible repeat (first | apply Kd.R_alloc | apply Kd.R_drewN | apply Kd.R_drew)); exact HL268_3.out) hb); have n3_ := Aside0.mk (blk_below (g := gb257) (o := .cells #[.int .i64 0, .slice none 0 0] 24 (0, 0)) (by (with_reducible repeat (first | refine blk_drewN ?_ _ | refine blk_drew ?_ | refine blk_alloc ?_ _)); exact BK257.out) hb); have n4_ := Aside0.mk (blk_below (g := gb265) (o := .cells #[.int .i64 t258, .int .i64 t259, .string t260, .slice (some ad266) t261.length co9] 36 (0, 0)) (by (with_reducible repeat (first | refine blk_drewN ?_ _ | refine blk_drew ?_ | refine blk_alloc ?_ _)); exact BK265.out) hb); have n5_ := Aside0.mk (blk_below (g := gb267) (o := .cells #[.int .i64 ((rd_T36 t261 0).f1), .slice Ao42 x268001_2.length co42] 24 (0, 0)) (by (with_reducible repeat (first | refine blk_drewN ?_ _ | refine blk_drew ?_ | refine blk_alloc ?_ _)); exact BK267.out) hb); have n6_ := Aside0.mk (Kd.C_below (by repeat (first | (with_reducible exact HR268_3.out) | (with_reducible refine Kd.C_alloc ?_ _) | (with_reducible refine Kd.C_drewN ?_ _) | (with_reducible refine Kd.C_drew ?_) | exact HR268_3.out)) hb); have n7_ := Aside0.mk (below_step (by repeat (first | (with_reducible first | exact HB.out | apply below_alloc | apply pw_below_drewN | apply below_drew1 | refine below_set ?_ GE257.out | refine below_set ?_ GE265.out | refine below_set ?_ GE267.out) | exact HB.out)) hb); clear HO_266003; clear HO_268001; clear HL268_3; clear BK257; clear BK265; clear BK267; clear HR268_3; clear HB; have HO_266003 := n0_; have HO_268001 := n1_; have HL268_3 := n2_; have BK257 := n3_; have BK265 := n4_; have BK267 := n5_; have HR268_3 := n6_; have HB := n7_; clear n0_ n1_ n2_ n3_ n4_ n5_ n6_ n7_; (try clear hb); (try clear hb2); (try clear hk); (try clear hi); have hcz44_0 : w43.cell? ⟨gb267, 0, none⟩ = some (.int .i64 ((rd_T36 t261 0).f1)) := (blk_cell BK267.out 0).trans rfl; have hcz44_1 : w43.cell? ⟨gb267, 1, none⟩ = some (.slice Ao42 x268001_2.length co42) := (blk_cell BK267.out 1).trans rfl; have hfz44_0 := blk_frozen BK267.out 0; have hfz44_1 := blk_frozen BK267.out 1; have hcz45_0 : w43.cell? ⟨gb257, 0, none⟩ = some (.int .i64 0) := (blk_cell BK257.out 0).trans rfl; have hcz45_1 : w43.cell? ⟨gb257, 1, none⟩ = some (.slice none 0 0) := (blk_cell BK257.out 1).trans rfl; have hfz45_0 := blk_frozen BK257.out 0; have hfz45_1 := blk_frozen BK257.out 1))
                      refine bodyPost_ret (results_ct rfl _ _ gb257 24 #[.int .i64 ((rd_T36 t261 0).f1), .slice Ao42 x268001_2.length co42] (0, 0) _ rfl (by (with_reducible repeat (first | refine blk_drewN ?_ _ | refine blk_drew ?_ | refine blk_alloc ?_ _)); refine blk_put (cs := #[.int .i64 ((rd_T36 t261 0).f1), .slice none 0 0]) ?_ 1 _ rfl; (with_reducible repeat (first | refine blk_drewN ?_ _ | refine blk_drew ?_ | refine blk_alloc ?_ _)); refine blk_put (cs := #[.int .i64 0, .slice none 0 0]) ?_ 0 _ rfl; (with_reducible repeat (first | refine blk_drewN ?_ _ | refine blk_drew ?_ | refine blk_alloc ?_ _)); exact BK257.out) Tryd.underlying24 rfl (by kernel_rfl)) rfl ?_
                      exact ⟨_, by first | rfl | (simp [errW_none, errW_some] <;> rfl) | (simp [*, errW_none, errW_some] <;> rfl), by (with_reducible repeat (first | apply Kd.R_alloc | apply Kd.R_drewN | apply Kd.R_drew)); exact Kd.R_mono (Kd.R_far (p := ⟨gb257, 1, none⟩) (Kd.R_far (p := ⟨gb257, 0, none⟩) (Kd.R_types HO_268001.out BK257.out (by decide)) (fun _ hk => hk.2) (.int .i64 ((rd_T36 t261 0).f1))) (fun _ hk => hk.2) (.slice Ao42 x268001_2.length co42)) (fun _ hk => trivial), by repeat (first | (with_reducible first | exact HB.out | apply below_alloc | apply pw_below_drewN | apply below_drew1 | refine below_set ?_ GE257.out | refine below_set ?_ GE265.out | refine below_set ?_ GE267.out) | exact HB.out)⟩
                    · rw [if_neg c36] at H
                      have c36b0 : (t274.toList == a0.toList) = false := beq_eq_false_iff_ne.mpr c36
                      have c36b1 : (t274.toList != a0.toList) = true := bne_iff_ne.mpr c36
                      simp only [Option.some.injEq, Prod.mk.injEq] at H
                      obtain ⟨rfl, rfl, rfl⟩ := H
                      have hnb46 := NB265_257.out
                      have hnc46 := NB257_265.out
                      have hnb47 := NB265_267.out
                      have hnc47 := NB267_265.out
                      have hcz48_0 : wr.cell? ⟨gb265, 0, none⟩ = some (.int .i64 t258) := (blk_cell BK265.out 0).trans rfl
                      have hcz48_1 : wr.cell? ⟨gb265, 1, none⟩ = some (.int .i64 t259) := (blk_cell BK265.out 1).trans rfl
                      have hcz48_2 : wr.cell? ⟨gb265, 2, none⟩ = some (.string t260) := (blk_cell BK265.out 2).trans rfl
                      have hcz48_3 : wr.cell? ⟨gb265, 3, none⟩ = some (.slice (some ad266) t261.length co9) := (blk_cell BK265.out 3).trans rfl
                      have hfz48_0 := blk_frozen BK265.out 0
                      have hfz48_1 := blk_frozen BK265.out 1
                      have hfz48_2 := blk_frozen BK265.out 2
                      have hfz48_3 := blk_frozen BK265.out 3
                      have p268 : 0 ≤ (1 : Int) := (by omega)
                      have q268 : 1 < (t261.length : Int) := of_decide_eq_true (by first | (with_reducible assumption) | assumption)
                      obtain ⟨ad268, A268_3, c268_3, e268, hx268_0, hx268_1, hx268_2, hx268_3, hl268_3, hi268_3⟩ := at_T36 (Kd.R_reads' HO_266003.out).2.2 1 p268 q268
                      obtain rfl : ad266 = ad268 := (by injection e268)
                      obtain ⟨ce268, hce268, hMe268, hcc268⟩ := Kd.R_get HO_266003.out z36 1 p268 (by first | exact q268 | exact of_decide_eq_true (by first | (with_reducible assumption) | assumption) | (have e_ := (Kd.R_reads' HO_266003.out).1; omega))
                      obtain ⟨ve268_3, rfl, ge268_3⟩ := k36_openM hMe268
                      have hv268_3 := hcc268 3 _ rfl
                      rw [add_field _ _ 3 (by omega)] at hv268_3
                      replace hv268_3 := Option.some.inj (hv268_3.symm.trans hx268_3)
                      rw [hv268_3] at ge268_3
                      have HL268_3 := Aside0.mk (show Kd.R k36 36 _ _ _ _ ((rd_T36 t261 1).f3) from ge268_3)
                      clear hv268_3 ge268_3
                      clear hcc268 hce268
                      (try simp only [show (1 : Int).toNat = 1 from rfl, Nat.reduceMul, Nat.reduceEqDiff, Go.Addr.add, ↓reduceIte] at hx268_0)
                      (try simp only [show (1 : Int).toNat = 1 from rfl, Nat.reduceMul, Nat.reduceEqDiff, Go.Addr.add, ↓reduceIte] at hx268_1)
                      (try simp only [show (1 : Int).toNat = 1 from rfl, Nat.reduceMul, Nat.reduceEqDiff, Go.Addr.add, ↓reduceIte] at hx268_2)
                      (try simp only [show (1 : Int).toNat = 1 from rfl, Nat.reduceMul, Nat.reduceEqDiff, Go.Addr.add, ↓reduceIte] at hx268_3)
                      have qi268 : (1 < t261.length) = True := eq_true (by omega)
                      (try rw [show ((1 : Int)).toNat = 1 from rfl] at hx268_0)
                      (try rw [show 1 * 4 = 4 from rfl] at hx268_0)
                      (try rw [show ((1 : Int)).toNat = 1 from rfl] at hx268_1)
                      (try rw [show 1 * 4 = 4 from rfl] at hx268_1)
                      (try rw [show ((1 : Int)).toNat = 1 from rfl] at hx268_2)
                      (try rw [show 1 * 4 = 4 from rfl] at hx268_2)
                      (try rw [show ((1 : Int)).toNat = 1 from rfl] at hx268_3)
                      (try rw [show 1 * 4 = 4 from rfl] at hx268_3)
                      have HR268_3 := Aside0.mk hi268_3
                      have HC268_3 := Aside0.mk hl268_3
                      clear hi268_3 hl268_3
                      replace p268 := eq_true p268
                      replace q268 := eq_true q268
                      have hnb49 := NB267_257.out
                      have hnc49 := NB257_267.out
                      have hcz50_0 : wr.cell? ⟨gb267, 0, none⟩ = some (.int .i64 ((rd_T36 t261 0).f1)) := (blk_cell BK267.out 0).trans rfl
                      have hcz50_1 : wr.cell? ⟨gb267, 1, none⟩ = some (u268001) := (blk_cell BK267.out 1).trans rfl
                      have hfz50_0 := blk_frozen BK267.out 0
                      have hfz50_1 := blk_frozen BK267.out 1
                      obtain ⟨Ao51, co51, eo51⟩ := Kd.R_slice HO_268001.out
                      subst eo51
                      go_wp2_with (first | ((with_reducible refine gate_callee (f := 6) rfl ?_); refine goesL_ (some 56) rfl rfl Tryd.func6 (by kernel_rfl) rfl #[.agg #[.int .i64 ((rd_T36 t261 0).f1), .slice Ao51 x268001_2.length co51]] rfl (by (try simp only [List.map_toArray, List.map_cons, List.map_nil]); first | done | rfl | (simp only [List.length_drop, List.length_take]; rfl)) ?_; (with_reducible refine (ploverref12_Text.calls k2 ((rd_T36 t261 0).f1) _ _ x268001_2 t274 t275 _ ?side1 ?side2 A34.out).mono ?_); (case side1 => repeat (first | exact (Kd.R_reads' HO_268001.out).2.2 | (with_reducible refine Kd.C_alloc ?_ _) | (with_reducible refine Kd.C_drewN ?_ _) | (with_reducible refine Kd.C_drew ?_))); (case side2 => exact (Kd.R_reads' HO_268001.out).2.1); rintro e w52 ⟨rfl, hb⟩; refine ⟨_, rfl, ?_⟩; have n0_ := Aside0.mk (Kd.R_below (by (with_reducible repeat (first | apply Kd.R_alloc | apply Kd.R_drewN | apply Kd.R_drew)); exact HO_266003.out) hb); have n1_ := Aside0.mk (Kd.R_below (by (with_reducible repeat (first | apply Kd.R_alloc | apply Kd.R_drewN | apply Kd.R_drew)); exact HO_268001.out) hb); have n2_ := Aside0.mk (Kd.R_below (by (with_reducible repeat (first | apply Kd.R_alloc | apply Kd.R_drewN | apply Kd.R_drew)); exact HL268_3.out) hb); have n3_ := Aside0.mk (blk_below (g := gb257) (o := .cells #[.int .i64 0, .slice none 0 0] 24 (0, 0)) (by (with_reducible repeat (first | refine blk_drewN ?_ _ | refine blk_drew ?_ | refine blk_alloc ?_ _)); exact BK257.out) hb); have n4_ := Aside0.mk (blk_below (g := gb265) (o := .cells #[.int .i64 t258, .int .i64 t259, .string t260, .slice (some ad266) t261.length co9] 36 (0, 0)) (by (with_reducible repeat (first | refine blk_drewN ?_ _ | refine blk_drew ?_ | refine blk_alloc ?_ _)); exact BK265.out) hb); have n5_ := Aside0.mk (blk_below (g := gb267) (o := .cells #[.int .i64 ((rd_T36 t261 0).f1), .slice Ao51 x268001_2.length co51] 24 (0, 0)) (by (with_reducible repeat (first | refine blk_drewN ?_ _ | refine blk_drew ?_ | refine blk_alloc ?_ _)); exact BK267.out) hb); have n6_ := Aside0.mk (Kd.C_below (by repeat (first | (with_reducible exact HR268_3.out) | (with_reducible refine Kd.C_alloc ?_ _) | (with_reducible refine Kd.C_drewN ?_ _) | (with_reducible refine Kd.C_drew ?_) | exact HR268_3.out)) hb); have n7_ := Aside0.mk (below_step (by repeat (first | (with_reducible first | exact HB.out | apply below_alloc | apply pw_below_drewN | apply below_drew1 | refine below_set ?_ GE257.out | refine below_set ?_ GE265.out | refine below_set ?_ GE267.out) | exact HB.out)) hb); clear HO_266003; clear HO_268001; clear HL268_3; clear BK257; clear BK265; clear BK267; clear HR268_3; clear HB; have HO_266003 := n0_; have HO_268001 := n1_; have HL268_3 := n2_; have BK257 := n3_; have BK265 := n4_; have BK267 := n5_; have HR268_3 := n6_; have HB := n7_; clear n0_ n1_ n2_ n3_ n4_ n5_ n6_ n7_; (try clear hb); (try clear hb2); (try clear hk); (try clear hi); have hcz53_0 : w52.cell? ⟨gb257, 0, none⟩ = some (.int .i64 0) := (blk_cell BK257.out 0).trans rfl; have hcz53_1 : w52.cell? ⟨gb257, 1, none⟩ = some (.slice none 0 0) := (blk_cell BK257.out 1).trans rfl; have hfz53_0 := blk_frozen BK257.out 0; have hfz53_1 := blk_frozen BK257.out 1))
                      refine bodyPost_ret (results_ct rfl _ _ gb257 24 #[.int .i64 0, .slice none 0 0] (0, 0) _ rfl (by (with_reducible repeat (first | refine blk_drewN ?_ _ | refine blk_drew ?_ | refine blk_alloc ?_ _)); refine blk_put (cs := #[.int .i64 0, .slice none 0 0]) ?_ 1 _ rfl; (with_reducible repeat (first | refine blk_drewN ?_ _ | refine blk_drew ?_ | refine blk_alloc ?_ _)); refine blk_put (cs := #[.int .i64 0, .slice none 0 0]) ?_ 0 _ rfl; (with_reducible repeat (first | refine blk_drewN ?_ _ | refine blk_drew ?_ | refine blk_alloc ?_ _)); exact BK257.out) Tryd.underlying24 rfl (by kernel_rfl)) rfl ?_
                      exact ⟨_, by first | rfl | (simp [errW_none, errW_some] <;> rfl) | (simp [*, errW_none, errW_some] <;> rfl), by first | exact Kd.R_nil _ _ _ _ _ | exact Kd.N_nil _ _ _ _ _ | exact Kd.V_nil _ _ _ _ _ | exact Kd.Q_nil _ _ _ _ _ | exact Kd.S_nil _ _ _ _ _, by repeat (first | (with_reducible first | exact HB.out | apply below_alloc | apply pw_below_drewN | apply below_drew1 | refine below_set ?_ GE257.out | refine below_set ?_ GE265.out | refine below_set ?_ GE267.out) | exact HB.out)⟩
                  · rw [if_neg c35] at H
                    have c35b0 : (t275 == 0) = false := beq_eq_false_iff_ne.mpr c35
                    have c35b1 : (t275 != 0) = true := bne_iff_ne.mpr c35
                    simp only [Option.some.injEq, Prod.mk.injEq] at H
                    obtain ⟨rfl, rfl, rfl⟩ := H
                    have hnb54 := NB265_257.out
                    have hnc54 := NB257_265.out
                    have hnb55 := NB265_267.out
                    have hnc55 := NB267_265.out
                    have hcz56_0 : wr.cell? ⟨gb265, 0, none⟩ = some (.int .i64 t258) := (blk_cell BK265.out 0).trans rfl
                    have hcz56_1 : wr.cell? ⟨gb265, 1, none⟩ = some (.int .i64 t259) := (blk_cell BK265.out 1).trans rfl
                    have hcz56_2 : wr.cell? ⟨gb265, 2, none⟩ = some (.string t260) := (blk_cell BK265.out 2).trans rfl
                    have hcz56_3 : wr.cell? ⟨gb265, 3, none⟩ = some (.slice (some ad266) t261.length co9) := (blk_cell BK265.out 3).trans rfl
                    have hfz56_0 := blk_frozen BK265.out 0
                    have hfz56_1 := blk_frozen BK265.out 1
                    have hfz56_2 := blk_frozen BK265.out 2
                    have hfz56_3 := blk_frozen BK265.out 3
                    have p268 : 0 ≤ (1 : Int) := (by omega)
                    have q268 : 1 < (t261.length : Int) := of_decide_eq_true (by first | (with_reducible assumption) | assumption)
                    obtain ⟨ad268, A268_3, c268_3, e268, hx268_0, hx268_1, hx268_2, hx268_3, hl268_3, hi268_3⟩ := at_T36 (Kd.R_reads' HO_266003.out).2.2 1 p268 q268
                    obtain rfl : ad266 = ad268 := (by injection e268)
                    obtain ⟨ce268, hce268, hMe268, hcc268⟩ := Kd.R_get HO_266003.out z36 1 p268 (by first | exact q268 | exact of_decide_eq_true (by first | (with_reducible assumption) | assumption) | (have e_ := (Kd.R_reads' HO_266003.out).1; omega))
                    obtain ⟨ve268_3, rfl, ge268_3⟩ := k36_openM hMe268
                    have hv268_3 := hcc268 3 _ rfl
                    rw [add_field _ _ 3 (by omega)] at hv268_3
                    replace hv268_3 := Option.some.inj (hv268_3.symm.trans hx268_3)
                    rw [hv268_3] at ge268_3
                    have HL268_3 := Aside0.mk (show Kd.R k36 36 _ _ _ _ ((rd_T36 t261 1).f3) from ge268_3)
                    clear hv268_3 ge268_3
                    clear hcc268 hce268
                    (try simp only [show (1 : Int).toNat = 1 from rfl, Nat.reduceMul, Nat.reduceEqDiff, Go.Addr.add, ↓reduceIte] at hx268_0)
                    (try simp only [show (1 : Int).toNat = 1 from rfl, Nat.reduceMul, Nat.reduceEqDiff, Go.Addr.add, ↓reduceIte] at hx268_1)
                    (try simp only [show (1 : Int).toNat = 1 from rfl, Nat.reduceMul, Nat.reduceEqDiff, Go.Addr.add, ↓reduceIte] at hx268_2)
                    (try simp only [show (1 : Int).toNat = 1 from rfl, Nat.reduceMul, Nat.reduceEqDiff, Go.Addr.add, ↓reduceIte] at hx268_3)
                    have qi268 : (1 < t261.length) = True := eq_true (by omega)
                    (try rw [show ((1 : Int)).toNat = 1 from rfl] at hx268_0)
                    (try rw [show 1 * 4 = 4 from rfl] at hx268_0)
                    (try rw [show ((1 : Int)).toNat = 1 from rfl] at hx268_1)
                    (try rw [show 1 * 4 = 4 from rfl] at hx268_1)
                    (try rw [show ((1 : Int)).toNat = 1 from rfl] at hx268_2)
                    (try rw [show 1 * 4 = 4 from rfl] at hx268_2)
                    (try rw [show ((1 : Int)).toNat = 1 from rfl] at hx268_3)
                    (try rw [show 1 * 4 = 4 from rfl] at hx268_3)
                    have HR268_3 := Aside0.mk hi268_3
                    have HC268_3 := Aside0.mk hl268_3
                    clear hi268_3 hl268_3
                    replace p268 := eq_true p268
                    replace q268 := eq_true q268
                    have hnb57 := NB267_257.out
                    have hnc57 := NB257_267.out
                    have hcz58_0 : wr.cell? ⟨gb267, 0, none⟩ = some (.int .i64 ((rd_T36 t261 0).f1)) := (blk_cell BK267.out 0).trans rfl
                    have hcz58_1 : wr.cell? ⟨gb267, 1, none⟩ = some (u268001) := (blk_cell BK267.out 1).trans rfl
                    have hfz58_0 := blk_frozen BK267.out 0
                    have hfz58_1 := blk_frozen BK267.out 1
                    obtain ⟨Ao59, co59, eo59⟩ := Kd.R_slice HO_268001.out
                    subst eo59
                    go_wp2_with (first | ((with_reducible refine gate_callee (f := 6) rfl ?_); refine goesL_ (some 56) rfl rfl Tryd.func6 (by kernel_rfl) rfl #[.agg #[.int .i64 ((rd_T36 t261 0).f1), .slice Ao59 x268001_2.length co59]] rfl (by (try simp only [List.map_toArray, List.map_cons, List.map_nil]); first | done | rfl | (simp only [List.length_drop, List.length_take]; rfl)) ?_; (with_reducible refine (ploverref12_Text.calls k2 ((rd_T36 t261 0).f1) _ _ x268001_2 t274 t275 _ ?side1 ?side2 A34.out).mono ?_); (case side1 => repeat (first | exact (Kd.R_reads' HO_268001.out).2.2 | (with_reducible refine Kd.C_alloc ?_ _) | (with_reducible refine Kd.C_drewN ?_ _) | (with_reducible refine Kd.C_drew ?_))); (case side2 => exact (Kd.R_reads' HO_268001.out).2.1); rintro e w60 ⟨rfl, hb⟩; refine ⟨_, rfl, ?_⟩; have n0_ := Aside0.mk (Kd.R_below (by (with_reducible repeat (first | apply Kd.R_alloc | apply Kd.R_drewN | apply Kd.R_drew)); exact HO_266003.out) hb); have n1_ := Aside0.mk (Kd.R_below (by (with_reducible repeat (first | apply Kd.R_alloc | apply Kd.R_drewN | apply Kd.R_drew)); exact HO_268001.out) hb); have n2_ := Aside0.mk (Kd.R_below (by (with_reducible repeat (first | apply Kd.R_alloc | apply Kd.R_drewN | apply Kd.R_drew)); exact HL268_3.out) hb); have n3_ := Aside0.mk (blk_below (g := gb257) (o := .cells #[.int .i64 0, .slice none 0 0] 24 (0, 0)) (by (with_reducible repeat (first | refine blk_drewN ?_ _ | refine blk_drew ?_ | refine blk_alloc ?_ _)); exact BK257.out) hb); have n4_ := Aside0.mk (blk_below (g := gb265) (o := .cells #[.int .i64 t258, .int .i64 t259, .string t260, .slice (some ad266) t261.length co9] 36 (0, 0)) (by (with_reducible repeat (first | refine blk_drewN ?_ _ | refine blk_drew ?_ | refine blk_alloc ?_ _)); exact BK265.out) hb); have n5_ := Aside0.mk (blk_below (g := gb267) (o := .cells #[.int .i64 ((rd_T36 t261 0).f1), .slice Ao59 x268001_2.length co59] 24 (0, 0)) (by (with_reducible repeat (first | refine blk_drewN ?_ _ | refine blk_drew ?_ | refine blk_alloc ?_ _)); exact BK267.out) hb); have n6_ := Aside0.mk (Kd.C_below (by repeat (first | (with_reducible exact HR268_3.out) | (with_reducible refine Kd.C_alloc ?_ _) | (with_reducible refine Kd.C_drewN ?_ _) | (with_reducible refine Kd.C_drew ?_) | exact HR268_3.out)) hb); have n7_ := Aside0.mk (below_step (by repeat (first | (with_reducible first | exact HB.out | apply below_alloc | apply pw_below_drewN | apply below_drew1 | refine below_set ?_ GE257.out | refine below_set ?_ GE265.out | refine below_set ?_ GE267.out) | exact HB.out)) hb); clear HO_266003; clear HO_268001; clear HL268_3; clear BK257; clear BK265; clear BK267; clear HR268_3; clear HB; have HO_266003 := n0_; have HO_268001 := n1_; have HL268_3 := n2_; have BK257 := n3_; have BK265 := n4_; have BK267 := n5_; have HR268_3 := n6_; have HB := n7_; clear n0_ n1_ n2_ n3_ n4_ n5_ n6_ n7_; (try clear hb); (try clear hb2); (try clear hk); (try clear hi); have hcz61_0 : w60.cell? ⟨gb257, 0, none⟩ = some (.int .i64 0) := (blk_cell BK257.out 0).trans rfl; have hcz61_1 : w60.cell? ⟨gb257, 1, none⟩ = some (.slice none 0 0) := (blk_cell BK257.out 1).trans rfl; have hfz61_0 := blk_frozen BK257.out 0; have hfz61_1 := blk_frozen BK257.out 1))
                    refine bodyPost_ret (results_ct rfl _ _ gb257 24 #[.int .i64 0, .slice none 0 0] (0, 0) _ rfl (by (with_reducible repeat (first | refine blk_drewN ?_ _ | refine blk_drew ?_ | refine blk_alloc ?_ _)); refine blk_put (cs := #[.int .i64 0, .slice none 0 0]) ?_ 1 _ rfl; (with_reducible repeat (first | refine blk_drewN ?_ _ | refine blk_drew ?_ | refine blk_alloc ?_ _)); refine blk_put (cs := #[.int .i64 0, .slice none 0 0]) ?_ 0 _ rfl; (with_reducible repeat (first | refine blk_drewN ?_ _ | refine blk_drew ?_ | refine blk_alloc ?_ _)); exact BK257.out) Tryd.underlying24 rfl (by kernel_rfl)) rfl ?_
                    exact ⟨_, by first | rfl | (simp [errW_none, errW_some] <;> rfl) | (simp [*, errW_none, errW_some] <;> rfl), by first | exact Kd.R_nil _ _ _ _ _ | exact Kd.N_nil _ _ _ _ _ | exact Kd.V_nil _ _ _ _ _ | exact Kd.Q_nil _ _ _ _ _ | exact Kd.S_nil _ _ _ _ _, by repeat (first | (with_reducible first | exact HB.out | apply below_alloc | apply pw_below_drewN | apply below_drew1 | refine below_set ?_ GE257.out | refine below_set ?_ GE265.out | refine below_set ?_ GE267.out) | exact HB.out)⟩
              · rw [if_neg c23] at H
                exact absurd H (by simp)
        · rw [if_neg c16] at H
          exact absurd H (by simp)

-- NOT PRINTED: function 3 (ploverlaw12_ChartTexts)

end Go.Proofs.YtjhalgoondljgaaDoor.PChartTexts
