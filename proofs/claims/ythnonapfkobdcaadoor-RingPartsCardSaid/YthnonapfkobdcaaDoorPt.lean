/- RingParts: its walk. -/
import Derived.Test.YthnonapfkobdcaaDoorRf
import Derived.Test.YthnonapfkobdcaaDoorAw
namespace Go.Proofs.YthnonapfkobdcaaDoor.Ri
open Go.RowKit Cr Rg Go.Proofs.YthnonapfkobdcaaDoorW.PrintWords Go.Proofs.YthnonapfkobdcaaDoorW.PrintLast Go.Proofs.YthnonapfkobdcaaDoorW.PrintMore
set_option linter.unusedVariables false
set_option linter.unusedSimpArgs false

theorem part_bad (id m : Int) (W : World) (h : m < 1 ∨ 16 < m) : Calls Tryd.prog 20 #[.int .i64 id, .int .i64 m] W fun e w' => e = .returned (.tuple #[.int .i64 0, .int .i64 1]) ∧ W = w' := by
  by_cases h1 : m < 1
  · clear h
    go_enter Tryd.func20, Tryd.ntmps20
    go_wp2
    go_ret2
    exact ⟨rfl, rfl⟩
  · have h2 : 16 < m := by omega
    clear h
    go_enter Tryd.func20, Tryd.ntmps20
    go_wp2
    go_ret2
    exact ⟨rfl, rfl⟩
theorem rpart_bad (id m : Int) (W : World) (h : m < 1 ∨ 16 < m) : Calls Tryd.prog 21 #[.int .i64 id, .int .i64 m] W fun e w' => e = .returned (.tuple #[.int .i64 0, .int .i64 1]) ∧ W = w' := by
  by_cases h1 : m < 1
  · clear h
    go_enter Tryd.func21, Tryd.ntmps21
    go_wp2
    go_ret2
    exact ⟨rfl, rfl⟩
  · have h2 : 16 < m := by omega
    clear h
    go_enter Tryd.func21, Tryd.ntmps21
    go_wp2
    go_ret2
    exact ⟨rfl, rfl⟩
theorem isI_zero : IsI 0 := ⟨by decide, by decide⟩
theorem part_ok (id m : Int) (W : World) (hi : IsI id) (ht : Tab W) (h1 : 1 ≤ m) (h2 : m ≤ 16) : Calls Tryd.prog 20 #[.int .i64 id, .int .i64 m] W fun e w' => e = .returned (.tuple #[.int .i64 (spotI kId id 0 % m), .int .i64 0]) ∧ Below W.heap.size W w' := by
  have HT := Aside0.mk ht
  clear ht
  have hr := spotI_range kId id 0
  have hq : (spotI kId id 0).tmod m = spotI kId id 0 % m := Int.tmod_eq_emod_of_nonneg hr.1
  obtain ⟨sp, hsp⟩ : ∃ sp, spotI kId id 0 = sp := ⟨_, rfl⟩
  have HSP := Aside0.mk hsp
  rw [hsp] at hq hr ⊢
  clear hsp
  have hm0 : ¬ m = 0 := by omega
  have hm1 : (m == 0) = false := by simpa using hm0
  go_enter Tryd.func20, Tryd.ntmps20
  go_wp2_with fail
  refine (spot_any kId id 0 W (by decide) hi isI_zero HT.out).mono ?_
  rintro e w1 ⟨rfl, hb⟩
  rw [HSP.out]
  go_wp2_with fail
  go_ret2
  exact ⟨rfl, hb⟩
theorem rpart_ok (id m : Int) (W : World) (hi : IsI id) (ht : Tab W) (h1 : 1 ≤ m) (h2 : m ≤ 16) : Calls Tryd.prog 21 #[.int .i64 id, .int .i64 m] W fun e w' => e = .returned (.tuple #[.int .i64 (spotI kId id 0 % m), .int .i64 0]) ∧ Below W.heap.size W w' := by
  have HT := Aside0.mk ht
  clear ht
  have hr := spotI_range kId id 0
  have hq : (spotI kId id 0).tmod m = spotI kId id 0 % m := Int.tmod_eq_emod_of_nonneg hr.1
  obtain ⟨sp, hsp⟩ : ∃ sp, spotI kId id 0 = sp := ⟨_, rfl⟩
  have HSP := Aside0.mk hsp
  rw [hsp] at hq hr ⊢
  clear hsp
  have hm0 : ¬ m = 0 := by omega
  have hm1 : (m == 0) = false := by simpa using hm0
  go_enter Tryd.func21, Tryd.ntmps21
  go_wp2_with fail
  refine (rspot_any kId id 0 W (by decide) hi isI_zero HT.out).mono ?_
  rintro e w1 ⟨rfl, hb⟩
  rw [HSP.out]
  go_wp2_with fail
  go_ret2
  exact ⟨rfl, hb⟩

theorem parts_calls (id m : Int) (W : World) (hi : IsI id) (ht : Tab W) : Calls Tryd.prog 6 #[.int .i64 id, .int .i64 m] W (Yes W) := by
  have HT := Aside0.mk ht
  clear ht
  by_cases hb : m < 1 ∨ 16 < m
  · go_enter Tryd.func6, Tryd.ntmps6
    go_wp2_with (first | (go_at_call 20; refine (part_bad id m W hb).mono ?_; rintro e w' ⟨rfl, rfl⟩) | (go_at_call 21; refine (rpart_bad id m W hb).mono ?_; rintro e w' ⟨rfl, rfl⟩) | (go_at_call 18; refine (awake_calls W).mono ?_; rintro e w4 ⟨rfl, hb4⟩))
    go_ret
    exact ⟨rfl, hb4⟩
  · have h1 : 1 ≤ m := by omega
    have h2 : m ≤ 16 := by omega
    have hp := part_ok id m
    have hrp := rpart_ok id m
    have hn0 := Int.emod_nonneg (spotI kId id 0) (show m ≠ 0 by omega)
    have hn1 := Int.emod_lt_of_pos (spotI kId id 0) (show 0 < m by omega)
    generalize spotI kId id 0 % m = n at *
    have HP := Aside0.mk hp
    have HRP := Aside0.mk hrp
    clear hb hp hrp
    go_enter Tryd.func6, Tryd.ntmps6
    go_wp2_with fail
    refine (HP.out W hi HT.out h1 h2).mono ?_
    rintro e w1 ⟨rfl, hb1⟩
    have HB1 := Aside0.mk hb1
    clear hb1
    go_wp2_with fail
    refine (HRP.out w1 hi (HT.out.below HB1.out) h1 h2).mono ?_
    rintro e w2 ⟨rfl, hb2⟩
    have HB2 := Aside0.mk (below_step HB1.out hb2)
    clear hb2
    go_wp2_with (go_at_call 18; refine (awake_calls _).mono ?_; rintro e w4 ⟨rfl, hb4⟩)
    go_ret
    exact ⟨rfl, below_step HB2.out hb4⟩
end Go.Proofs.YthnonapfkobdcaaDoor.Ri
