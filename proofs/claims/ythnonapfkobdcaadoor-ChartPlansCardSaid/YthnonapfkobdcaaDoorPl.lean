/- What the printed twins of SameInts, Same, SameMoves, moves, diff, May come to, in plain words. -/
import Derived.Test.YthnonapfkobdcaaDoorBase
import Derived.Test.YthnonapfkobdcaaDoorPChartPlansx3
import Derived.Test.YthnonapfkobdcaaDoorPChartPlansx4
import Derived.Test.YthnonapfkobdcaaDoorPChartPlansx5
namespace Go.Proofs.YthnonapfkobdcaaDoor.Pl
open Base Go.RowKit Go.Proofs.YthnonapfkobdcaaDoorW.PrintWords Go.Proofs.YthnonapfkobdcaaDoorW.PrintLast Go.Proofs.YthnonapfkobdcaaDoorW.PrintMore
open PChartPlans
set_option linter.unusedVariables false
set_option linter.unusedSimpArgs false

theorem wrap_succ {n m : Nat} (h : n < m) (hm : m ≤ 9223372036854775807) : wrap64 ((n : Int) + 1) = ((n + 1 : Nat) : Int) := by
  unfold wrap64
  omega

theorem rd_nat (xs : List Int) (n : Nat) : rd xs (n : Int) = xs.getD n 0 := by simp [rd]

theorem drop_eq (xs ys : List Int) (n : Nat) (h1 : n < xs.length) (h2 : n < ys.length) : (xs.drop n = ys.drop n) ↔ (xs.getD n 0 = ys.getD n 0 ∧ xs.drop (n + 1) = ys.drop (n + 1)) := by
  rw [List.getD_eq_getElem?_getD, List.getElem?_eq_getElem h1, List.getD_eq_getElem?_getD, List.getElem?_eq_getElem h2]
  conv => lhs; rw [List.drop_eq_getElem_cons h1, List.drop_eq_getElem_cons h2]
  rw [List.cons.injEq]; rfl

theorem same_l0 (xs ys : List Int) (hl : xs.length = ys.length) (hm : xs.length ≤ 9223372036854775807) (d : Nat) : ∀ (k n : Nat), n ≤ xs.length → xs.length - n = d → d < k →
    ploverref01_SameInts.l0 k xs ys (n : Int) = some (decide (xs.drop n = ys.drop n)) := by
  induction d with
  | zero =>
    intro k n h1 h2 h3
    obtain ⟨k, rfl⟩ : ∃ m, k = m + 1 := ⟨k - 1, by omega⟩
    simp only [ploverref01_SameInts.l0]
    rw [if_neg (by omega), List.drop_of_length_le (by omega), List.drop_of_length_le (by omega)]
    simp
  | succ d ih =>
    intro k n h1 h2 h3
    obtain ⟨k, rfl⟩ : ∃ m, k = m + 1 := ⟨k - 1, by omega⟩
    simp only [ploverref01_SameInts.l0]
    rw [if_pos (by omega), if_pos (by omega), if_pos (by omega), wrap_succ (show n < xs.length by omega) hm, ih k (n + 1) (by omega) (by omega) (by omega), rd_nat, rd_nat]
    have := drop_eq xs ys n (by omega) (by omega)
    by_cases e : xs.getD n 0 = ys.getD n 0
    · rw [if_pos e]; simp only [this, e, true_and]
    · rw [if_neg e]; simp only [this, e, false_and, decide_false]

theorem same_ints (xs ys : List Int) (hm : xs.length ≤ 9223372036854775807) : ploverref01_SameInts.f (xs.length + 1) xs ys = some (decide (xs = ys)) := by
  unfold ploverref01_SameInts.f
  by_cases hl : xs.length = ys.length
  · rw [if_pos (by omega)]
    have := same_l0 xs ys hl hm xs.length (xs.length + 1) 0 (by omega) (by omega) (by omega)
    simpa using this
  · rw [if_neg (by omega)]
    have : xs ≠ ys := fun e => hl (by rw [e])
    simp [this]

theorem same_f (a b : Int) (xs ys : List Int) (hm : xs.length ≤ 9223372036854775807) : ploverref12_Same.f (xs.length + 1) a xs b ys = some (decide (a = b ∧ xs = ys)) := by
  unfold ploverref12_Same.f
  rw [same_ints xs ys hm]
  by_cases e : a = b
  · rw [if_pos e]; simp [e]
  · rw [if_neg e]; simp [e]

def mvF (xs ys : List Int) : Nat → Nat → List S52
  | 0, _ => []
  | d + 1, n => if xs.getD n 0 = ys.getD n 0 then mvF xs ys d (n + 1) else ⟨(n : Int), xs.getD n 0, ys.getD n 0⟩ :: mvF xs ys d (n + 1)

theorem mvF_len (xs ys : List Int) : ∀ d n, (mvF xs ys d n).length ≤ d
  | 0, _ => Nat.le_refl _
  | d + 1, n => by
    unfold mvF
    have := mvF_len xs ys d (n + 1)
    split
    · omega
    · rw [List.length_cons]; omega

theorem moves_l0 (xs ys : List Int) (hl : xs.length = ys.length) (hm : xs.length ≤ 100) (d : Nat) : ∀ (k n : Nat) (acc : List S52), n ≤ xs.length → xs.length - n = d → d < k → acc.length ≤ n →
    chart_moves.l0 k ys acc xs (xs.length : Int) (n : Int) = some (acc ++ mvF xs ys d n) := by
  induction d with
  | zero =>
    intro k n acc h1 h2 h3 h4
    obtain ⟨k, rfl⟩ : ∃ m, k = m + 1 := ⟨k - 1, by omega⟩
    simp only [chart_moves.l0]
    rw [if_neg (by omega), mvF, List.append_nil]
  | succ d ih =>
    intro k n acc h1 h2 h3 h4
    obtain ⟨k, rfl⟩ : ∃ m, k = m + 1 := ⟨k - 1, by omega⟩
    simp only [chart_moves.l0]
    rw [if_pos (by omega), if_pos (by omega), if_pos (by omega), if_pos (by omega), wrap_succ (show n < xs.length by omega) (by omega), rd_nat, rd_nat, mvF]
    by_cases e : xs.getD n 0 = ys.getD n 0
    · rw [if_pos e, if_pos e, ih k (n + 1) acc (by omega) (by omega) (by omega) (by omega)]
    · rw [if_neg e, if_neg e, if_pos (by omega), ih k (n + 1) _ (by omega) (by omega) (by omega) (by simp; omega)]
      simp

theorem moves_f (xs ys : List Int) (hl : xs.length = ys.length) (hm : xs.length ≤ 100) : chart_moves.f (xs.length + 1) xs ys = some (mvF xs ys xs.length 0) := by
  unfold chart_moves.f
  have := moves_l0 xs ys hl hm xs.length (xs.length + 1) 0 [] (by omega) (by omega) (by omega) (by simp)
  simpa using this

theorem diff_l0 (xs ys : List Int) (hl : xs.length = ys.length) (hm : xs.length ≤ 100) (d : Nat) : ∀ (k n : Nat) (acc : List S52), n ≤ xs.length → xs.length - n = d → 2 * d + 1 < k → acc.length ≤ n →
    ploverref12_diff.l0 k xs ys acc (n : Int) = some (acc ++ mvF xs ys d n) := by
  induction d with
  | zero =>
    intro k n acc h1 h2 h3 h4
    obtain ⟨k, rfl⟩ : ∃ m, k = m + 2 := ⟨k - 2, by omega⟩
    simp only [ploverref12_diff.l0, ploverref12_diff.j1]
    rw [if_neg (by omega), if_neg (by simp), mvF, List.append_nil]
  | succ d ih =>
    intro k n acc h1 h2 h3 h4
    obtain ⟨k, rfl⟩ : ∃ m, k = m + 2 := ⟨k - 2, by omega⟩
    simp only [ploverref12_diff.l0, ploverref12_diff.j1]
    rw [if_pos (by omega), if_pos (by simp; omega), if_pos (by omega), if_pos (by omega), if_pos (by omega), wrap_succ (show n < xs.length by omega) (by omega), rd_nat, rd_nat, mvF]
    by_cases e : xs.getD n 0 = ys.getD n 0
    · rw [if_pos e, if_pos e, ih k (n + 1) acc (by omega) (by omega) (by omega) (by omega)]
    · rw [if_neg e, if_neg e, if_pos (by omega), ih k (n + 1) _ (by omega) (by omega) (by omega) (by simp; omega)]
      simp

theorem diff_f (xs ys : List Int) (hl : xs.length = ys.length) (hm : xs.length ≤ 100) : ploverref12_diff.f (2 * xs.length + 2) xs ys = some (mvF xs ys xs.length 0) := by
  unfold ploverref12_diff.f
  have := diff_l0 xs ys hl hm xs.length (2 * xs.length + 2) 0 [] (by omega) (by omega) (by omega) (by simp)
  simpa using this

theorem s52_eq (a b : S52) : (!(a.f0 == b.f0) || (!(a.f1 == b.f1) || !(a.f2 == b.f2))) = false ↔ a = b := by
  cases a; cases b; simp [S52.mk.injEq]

theorem sameMoves_l0 (xs : List S52) (hm : xs.length ≤ 100) (d : Nat) : ∀ (k n : Nat), n ≤ xs.length → xs.length - n = d → d < k → ploverref12_SameMoves.l0 k xs xs (n : Int) = some true := by
  induction d with
  | zero =>
    intro k n h1 h2 h3
    obtain ⟨k, rfl⟩ : ∃ m, k = m + 1 := ⟨k - 1, by omega⟩
    simp only [ploverref12_SameMoves.l0]
    rw [if_neg (by omega)]
  | succ d ih =>
    intro k n h1 h2 h3
    obtain ⟨k, rfl⟩ : ∃ m, k = m + 1 := ⟨k - 1, by omega⟩
    simp only [ploverref12_SameMoves.l0]
    rw [if_pos (by omega), if_pos (by omega), if_pos (by omega), if_neg (by simp), wrap_succ (show n < xs.length by omega) (by omega), ih k (n + 1) (by omega) (by omega) (by omega)]

theorem sameMoves_f (xs : List S52) (hm : xs.length ≤ 100) : ploverref12_SameMoves.f (xs.length + 1) xs xs = some true := by
  unfold ploverref12_SameMoves.f
  rw [if_pos rfl]
  have := sameMoves_l0 xs hm xs.length (xs.length + 1) 0 (by omega) (by omega) (by omega)
  simpa using this

end Go.Proofs.YthnonapfkobdcaaDoor.Pl
