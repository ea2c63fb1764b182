/- ChartGets, the plain part: what stands behind each move of the list of moves. -/
import Derived.Test.YtahoeehjgbfhbaaDf
import Derived.Test.YtahoeehjgbfhbaaBkB
namespace Go.Proofs.Ytahoeehjgbfhbaa.Ch
open Base Go.RowKit Go.Proofs.YtahoeehjgbfhbaaW.PrintWords Go.Proofs.YtahoeehjgbfhbaaW.PrintLast Go.Proofs.YtahoeehjgbfhbaaW.PrintMore
set_option linter.unusedVariables false
set_option linter.unusedSimpArgs false
open PChartMoves (S31 k31)

/-- Nodes of which the first p are the others' already. -/
def mix (xs ys : List Int) (p : Nat) : List Int := ys.take p ++ xs.drop p

theorem mix_length (xs ys : List Int) (p : Nat) (hl : xs.length = ys.length) (hp : p ≤ xs.length) : (mix xs ys p).length = xs.length := by
  unfold mix; simp; omega

theorem mix_zero (xs ys : List Int) : mix xs ys 0 = xs := by simp [mix]
theorem mix_end (xs ys : List Int) (hl : xs.length = ys.length) : mix xs ys xs.length = ys := by simp [mix, hl]

theorem mix_succ (xs ys : List Int) (p : Nat) (hl : xs.length = ys.length) (hp : p < xs.length) : mix xs ys (p + 1) = (mix xs ys p).set p (ys.getD p 0) := by
  apply List.ext_getElem?
  intro i
  unfold mix
  rw [List.getElem?_set]
  have e1 : (ys.take p).length = p := by rw [List.length_take]; omega
  have e2 : (ys.take (p + 1)).length = p + 1 := by rw [List.length_take]; omega
  have hy : p < ys.length := by omega
  by_cases h : p = i
  · subst h
    rw [if_pos rfl, if_pos (by simp; omega), List.getElem?_append_left (by omega), List.getElem?_take_of_lt (by omega), List.getD_eq_getElem?_getD, List.getElem?_eq_getElem hy]
    rfl
  · rw [if_neg h]
    rcases Nat.lt_or_ge i p with h1 | h1
    · rw [List.getElem?_append_left (by omega), List.getElem?_append_left (by omega), List.getElem?_take_of_lt (by omega), List.getElem?_take_of_lt (by omega)]
    · rw [List.getElem?_append_right (by omega), List.getElem?_append_right (by omega), e1, e2, List.getElem?_drop, List.getElem?_drop]
      congr 1; omega

theorem mix_at (xs ys : List Int) (p : Nat) (hl : xs.length = ys.length) (hp : p < xs.length) : rd (mix xs ys p) (p : Int) = xs.getD p 0 := by
  unfold rd mix
  have e1 : (ys.take p).length = p := by rw [List.length_take]; omega
  rw [Int.toNat_natCast, List.getD_eq_getElem?_getD, List.getElem?_append_right (by omega), e1, List.getElem?_drop, List.getD_eq_getElem?_getD]
  simp

theorem mix_same (xs ys : List Int) (p : Nat) (hl : xs.length = ys.length) (hp : p < xs.length) (h : xs.getD p 0 = ys.getD p 0) : mix xs ys (p + 1) = mix xs ys p := by
  rw [mix_succ xs ys p hl hp, ← h]
  have h1 := mix_at xs ys p hl hp
  unfold rd at h1
  rw [Int.toNat_natCast] at h1
  have hlen := mix_length xs ys p hl (by omega)
  rw [← h1, List.getD_eq_getElem?_getD, List.getElem?_eq_getElem (by omega)]
  exact List.set_getElem_self _

theorem next_move (xs ys : List Int) (hl : xs.length = ys.length) : ∀ (d p : Nat), p + d = xs.length →
    (Pl.mvF xs ys d p = [] ∧ mix xs ys p = ys) ∨
    ∃ q d', p ≤ q ∧ q + d' + 1 = xs.length ∧ Pl.mvF xs ys d p = ⟨(q : Int), xs.getD q 0, ys.getD q 0⟩ :: Pl.mvF xs ys d' (q + 1) ∧ mix xs ys p = mix xs ys q ∧ xs.getD q 0 ≠ ys.getD q 0
  | 0, p, h => .inl ⟨rfl, by rw [show p = xs.length by omega]; exact mix_end xs ys hl⟩
  | d + 1, p, h => by
    by_cases e : xs.getD p 0 = ys.getD p 0
    · rcases next_move xs ys hl d (p + 1) (by omega) with ⟨h1, h2⟩ | ⟨q, d', h1, h2, h3, h4, h5⟩
      · exact .inl ⟨by rw [Pl.mvF, if_pos e]; exact h1, by rw [← mix_same xs ys p hl (by omega) e]; exact h2⟩
      · exact .inr ⟨q, d', by omega, h2, by rw [Pl.mvF, if_pos e]; exact h3, by rw [← mix_same xs ys p hl (by omega) e]; exact h4, h5⟩
    · exact .inr ⟨p, d, Nat.le_refl _, by omega, by rw [Pl.mvF, if_neg e], rfl, e⟩

/-- What the list of moves says of its next one. -/
theorem drop_next {L : List S31} {i : Nat} {m : S31} {R : List S31} (h : L.drop i = m :: R) : i < L.length ∧ PChartMoves.rd_T31 L (i : Int) = m ∧ L.drop (i + 1) = R := by
  have hi : i < L.length := by
    rcases Nat.lt_or_ge i L.length with h1 | h1
    · exact h1
    · rw [List.drop_of_length_le h1] at h; cases h
  rw [List.drop_eq_getElem_cons hi] at h
  injection h with h1 h2
  refine ⟨hi, ?_, h2⟩
  unfold PChartMoves.rd_T31
  rw [Int.toNat_natCast, List.getD_eq_getElem?_getD, List.getElem?_eq_getElem hi]
  exact h1

theorem mv_self (ys : List Int) : ∀ d p, Pl.mvF ys ys d p = []
  | 0, _ => rfl
  | d + 1, p => by rw [Pl.mvF, if_pos rfl]; exact mv_self ys d (p + 1)

end Go.Proofs.Ytahoeehjgbfhbaa.Ch
