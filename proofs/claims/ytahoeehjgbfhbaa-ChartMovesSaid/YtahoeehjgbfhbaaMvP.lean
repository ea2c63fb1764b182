/- ChartMoves, the plain part: what the printed twins of the references May, Check, Diff come to. -/
import Derived.Test.YtahoeehjgbfhbaaDf
import Derived.Test.YtahoeehjgbfhbaaBkB
namespace Go.Proofs.Ytahoeehjgbfhbaa.Ch
open Base Go.RowKit Go.Proofs.YtahoeehjgbfhbaaW.PrintWords Go.Proofs.YtahoeehjgbfhbaaW.PrintLast Go.Proofs.YtahoeehjgbfhbaaW.PrintMore
set_option linter.unusedVariables false
set_option linter.unusedSimpArgs false
open PChartMoves

theorem may_l0 (ep : Int) (xs : List Int) (hm : xs.length ≤ 9223372036854775807) (d : Nat) : ∀ (k n : Nat), n ≤ xs.length → xs.length - n = d → d < k →
    ploverref12_May.l0 k (n : Int) ep xs = some (decide (1 ≤ ep ∧ ep ≤ 1099511627776 ∧ 1 ≤ xs.length ∧ xs.length ≤ 16) && !((xs.drop n).any oddB)) := by
  induction d with
  | zero =>
    intro k n h1 h2 h3
    obtain ⟨k, rfl⟩ : ∃ m, k = m + 1 := ⟨k - 1, by omega⟩
    simp only [ploverref12_May.l0]
    rw [if_neg (by omega), List.drop_of_length_le (by omega)]
    by_cases a : ep ≥ 1
    · rw [if_pos a]
      by_cases b : ep ≤ 1099511627776
      · rw [if_pos b]
        by_cases c : (xs.length : Int) ≥ 1
        · rw [if_pos c]
          have c' : 1 ≤ xs.length := by omega
          congr 1
          rw [Bool.eq_iff_iff]
          simp
          omega
        · rw [if_neg c]; simp; omega
      · rw [if_neg b]; simp; omega
    · rw [if_neg a]; simp; omega
  | succ d ih =>
    intro k n h1 h2 h3
    obtain ⟨k, rfl⟩ : ∃ m, k = m + 1 := ⟨k - 1, by omega⟩
    have hn : n < xs.length := by omega
    have e0 : rd xs (n : Int) = xs[n] := by unfold rd; rw [Int.toNat_natCast, List.getD_eq_getElem?_getD, List.getElem?_eq_getElem hn]; rfl
    simp only [ploverref12_May.l0]
    rw [if_pos (by omega), if_pos (by omega), Pl.wrap_succ hn hm, ih k (n + 1) (by omega) (by omega) (by omega), List.drop_eq_getElem_cons hn, List.any_cons, e0]
    by_cases a : xs[n] < 0
    · rw [if_pos a, odd_lo a]; simp
    · rw [if_neg a]
      by_cases b : xs[n] > 7
      · rw [if_pos b, odd_hi (by omega)]; simp
      · rw [if_neg b, odd_no a (by omega), Bool.false_or]

theorem may_f (ep : Int) (xs : List Int) (hm : xs.length ≤ 9223372036854775807) : ploverref12_May.f (xs.length + 1) ep xs = some (mayB ep xs) := by
  unfold ploverref12_May.f mayB
  have := may_l0 ep xs hm xs.length (xs.length + 1) 0 (by omega) (by omega) (by omega)
  simpa using this

theorem may_ck (ep : Int) (xs : List Int) : mayB ep xs = (ckI ep xs == 0) := by
  unfold ckI; cases mayB ep xs <;> simp

theorem check_f (ep : Int) (xs : List Int) (hm : xs.length ≤ 9223372036854775807) : ploverref12_Check.f (xs.length + 1) ep xs = some (ckI ep xs) := by
  unfold ploverref12_Check.f ckI
  rw [may_f ep xs hm]
  cases mayB ep xs <;> simp

theorem diff_no_f (k : Nat) (ep ep' : Int) (xs ys : List Int) (hk : xs.length < k) (hk' : ys.length < k) (hm : xs.length ≤ 9223372036854775807) (hm' : ys.length ≤ 9223372036854775807) (h : ckI ep xs = 1 ∨ ckI ep' ys = 1 ∨ xs.length ≠ ys.length) :
    ploverref12_Diff.f k ep xs ep' ys = some ([], 1) := by
  have e1 := at_rounds (ploverref12_May.mono ep xs) (k' := k) (by omega) (may_f ep xs hm)
  have e2 := at_rounds (ploverref12_May.mono ep' ys) (k' := k) (by omega) (may_f ep' ys hm')
  unfold ploverref12_Diff.f
  rw [e1, e2, may_ck, may_ck]
  simp only [Option.bind_some]
  by_cases a : ckI ep xs = 0
  · by_cases b : ckI ep' ys = 0
    · have : (xs.length : Int) ≠ (ys.length : Int) := by omega
      rw [a, b, if_pos (by rfl), if_pos (by rfl), if_neg this]
    · rw [a, if_pos (by rfl), if_neg (by simpa using b)]
  · rw [if_neg (by simpa using a)]

theorem diff_yes_f (k : Nat) (ep ep' : Int) (xs ys : List Int) (hk : 2 * xs.length + 2 ≤ k) (hl : xs.length = ys.length) (h1 : ckI ep xs = 0) (h2 : ckI ep' ys = 0) (h16 : xs.length ≤ 16) :
    ploverref12_Diff.f k ep xs ep' ys = some (Pl.mvF xs ys xs.length 0, 0) := by
  have e1 := at_rounds (ploverref12_May.mono ep xs) (k' := k) (by omega) (may_f ep xs (by omega))
  have e2 := at_rounds (ploverref12_May.mono ep' ys) (k' := k) (by omega) (may_f ep' ys (by omega))
  have e3 := at_rounds (ploverref12_diff.mono xs ys) (k' := k) (by omega) (Pl.diff_f xs ys hl (by omega))
  unfold ploverref12_Diff.f
  rw [e1, e2, e3, may_ck, may_ck, h1, h2]
  simp [hl]

end Go.Proofs.Ytahoeehjgbfhbaa.Ch
