/- In plain words: what the reference's printed functions answer: is, check, place, dist, top, search. -/
import Derived.Test.YtealiaafdkhonaaHo1
import Derived.Test.YtealiaafdkhonaaPq
import Derived.Test.YtealiaafdkhonaaXb
namespace Go.Proofs.Ytealiaafdkhonaa.Vp
open Go.RowKit Go.Sort Mb Base Go.Proofs.YtealiaafdkhonaaW.PrintWords
set_option linter.unusedVariables false
set_option linter.unusedSimpArgs false
abbrev rdi := YtealiaafdkhonaaW.PrintWords.rd
theorem rdi_at (l : List Int) (n : Nat) (h : n < l.length) : rdi l (n : Int) = l[n] := by
  show l.getD ((n : Int)).toNat 0 = _
  rw [Int.toNat_natCast, List.getD_eq_getElem?_getD, List.getElem?_eq_getElem h]; rfl
theorem is_l0 (v : List Int) (hm : v.length ≤ 9223372036854775807) (d : Nat) : ∀ (k n : Nat), n ≤ v.length → v.length - n = d → d < k → PVptreeNear.ploverref05_Is.l0 k v (n : Int) = some (decide (1 ≤ v.length ∧ v.length ≤ 16) && !((v.drop n).any oddB)) := by
  induction d with
  | zero =>
    intro k n h1 h2 h3
    obtain ⟨k, rfl⟩ : ∃ m, k = m + 1 := ⟨k - 1, by omega⟩
    simp only [PVptreeNear.ploverref05_Is.l0]
    rw [if_neg (by omega), List.drop_of_length_le (by omega)]
    by_cases e : 1 ≤ v.length
    · rw [if_pos (by omega)]
      simp [e]
      omega
    · rw [if_neg (by omega)]
      simp [e]
  | succ d ih =>
    intro k n h1 h2 h3
    obtain ⟨k, rfl⟩ : ∃ m, k = m + 1 := ⟨k - 1, by omega⟩
    have hn : n < v.length := by omega
    simp only [PVptreeNear.ploverref05_Is.l0]
    have hr : YtealiaafdkhonaaW.PrintWords.rd v (n : Int) = v[n] := rdi_at v n hn
    rw [if_pos (by omega), if_pos (by omega), hr, List.drop_eq_getElem_cons hn, List.any_cons]
    by_cases e1 : v[n] < -2147483648
    · rw [if_pos e1]
      have : oddB v[n] = true := by unfold oddB; simp; omega
      simp [this]
    · rw [if_neg e1]
      by_cases e2 : v[n] > 2147483647
      · rw [if_pos e2]
        have : oddB v[n] = true := by unfold oddB; simp; omega
        simp [this]
      · rw [if_neg e2, wrap_succ hn (by omega), ih k (n + 1) (by omega) (by omega) (by omega)]
        have : oddB v[n] = false := by unfold oddB; simp; omega
        simp [this]
theorem is_f (v : List Int) (hm : v.length ≤ 9223372036854775807) (k : Nat) (hk : v.length < k) : PVptreeNear.ploverref05_Is.f k v = some (isV v) := by
  unfold PVptreeNear.ploverref05_Is.f
  exact is_l0 v hm v.length k 0 (by omega) (by omega) hk
theorem check_f (v : List Int) (dim : Int) (hm : v.length ≤ 9223372036854775807) (k : Nat) (hk : v.length < k) : PVptreeNear.ploverref05_Check.f k v dim = some (ckV v dim) := by
  unfold PVptreeNear.ploverref05_Check.f ckV
  rw [is_f v hm k hk]
  show (if isV v = true then _ else _) = _
  by_cases h1 : isV v = true
  · rw [if_pos h1]
    by_cases h2 : (v.length : Int) = dim
    · rw [if_pos h2, if_pos ⟨h1, h2⟩]
    · rw [if_neg h2, if_neg (fun h => h2 h.2)]
  · rw [if_neg h1, if_neg (fun h => h1 h.1)]
/-- Where a number stands, or would stand. -/
def plc (x : Int) : List (Int × List Int) → Nat
  | [] => 0
  | p :: L => if p.1 < x then plc x L + 1 else 0
def fnd (x : Int) (L : List (Int × List Int)) : Bool := match L.drop (plc x L) with | [] => false | p :: _ => p.1 == x
theorem plc_le (x : Int) : ∀ L, plc x L ≤ L.length
  | [] => Nat.le_refl _
  | p :: L => by
    unfold plc
    split
    · have := plc_le x L; simp; omega
    · omega
theorem plc_lt (x : Int) : ∀ (L : List (Int × List Int)) (i : Nat) (hi : i < L.length), i < plc x L → L[i].1 < x
  | [], i, hi, _ => by simp at hi
  | p :: L, i, hi, h => by
    unfold plc at h
    split at h
    · rename_i h1
      cases i with
      | zero => exact h1
      | succ i => exact plc_lt x L i (by simpa using hi) (by omega)
    · omega
theorem plc_ge (x : Int) : ∀ (L : List (Int × List Int)) (hi : plc x L < L.length), ¬ (L[plc x L]'hi).1 < x
  | [], hi => by simp at hi
  | p :: L, hi => by
    by_cases h1 : p.1 < x
    · have e : plc x (p :: L) = plc x L + 1 := by show (if p.1 < x then _ else _) = _; rw [if_pos h1]
      have := plc_ge x L (by rw [e] at hi; simpa using hi)
      simp only [e, List.getElem_cons_succ]
      exact this
    · have e : plc x (p :: L) = 0 := by show (if p.1 < x then _ else _) = _; rw [if_neg h1]
      simp only [e, List.getElem_cons_zero]
      exact h1
theorem put_plc (x : Int) (v : List Int) : ∀ L, putL x v L = L.take (plc x L) ++ (x, v) :: L.drop (if fnd x L = true then plc x L + 1 else plc x L)
  | [] => by simp [putL, plc, fnd]
  | p :: L => by
    by_cases h1 : p.1 < x
    · have e : plc x (p :: L) = plc x L + 1 := by show (if p.1 < x then _ else _) = _; rw [if_pos h1]
      have e2 : fnd x (p :: L) = fnd x L := by unfold fnd; rw [e, List.drop_succ_cons]
      rw [e, e2, List.take_succ_cons, List.cons_append]
      show (if p.1 < x then _ else _) = _
      rw [if_pos h1, put_plc x v L]
      congr 1
      congr 2
      split <;> rw [List.drop_succ_cons]
    · have e : plc x (p :: L) = 0 := by show (if p.1 < x then _ else _) = _; rw [if_neg h1]
      have e2 : fnd x (p :: L) = (p.1 == x) := by unfold fnd; rw [e, List.drop_zero]
      rw [e, e2]
      show (if p.1 < x then _ else _) = _
      rw [if_neg h1]
      by_cases h2 : p.1 = x
      · rw [if_pos h2]
        simp [h2]
      · rw [if_neg h2]
        simp [h2]
theorem fnd_look (x : Int) : ∀ {L : List (Int × List Int)}, Rising L → (look L x).isSome = fnd x L
  | [], _ => rfl
  | p :: L, h => by
    have h' := List.pairwise_cons.1 h
    rw [look_cons]
    by_cases h1 : p.1 < x
    · have e : plc x (p :: L) = plc x L + 1 := by show (if p.1 < x then _ else _) = _; rw [if_pos h1]
      have e2 : fnd x (p :: L) = fnd x L := by unfold fnd; rw [e, List.drop_succ_cons]
      rw [if_neg (by omega), e2]
      exact fnd_look x h'.2
    · have e : plc x (p :: L) = 0 := by show (if p.1 < x then _ else _) = _; rw [if_neg h1]
      have e2 : fnd x (p :: L) = (p.1 == x) := by unfold fnd; rw [e, List.drop_zero]
      rw [e2]
      by_cases h2 : p.1 = x
      · rw [if_pos h2]
        simp [h2]
      · rw [if_neg h2]
        have hn : look L x = none := by
          cases hh : look L x with
          | none => rfl
          | some v => have := h'.1 _ (look_mem hh); simp only [] at this; omega
        rw [hn]
        simp [h2]
theorem place_l0 (L : List (Int × List Int)) (x : Int) (hm : L.length ≤ 1000000000000) (d : Nat) : ∀ (k n : Nat), n ≤ plc x L → plc x L - n = d → d < k → PVptreeNear.ploverref08_place.l0 k (L.map s37) x (n : Int) = some ((plc x L : Int), fnd x L) := by
  have hp := plc_le x L
  induction d with
  | zero =>
    intro k n h1 h2 h3
    obtain ⟨k, rfl⟩ : ∃ m, k = m + 1 := ⟨k - 1, by omega⟩
    obtain rfl : n = plc x L := by omega
    simp only [PVptreeNear.ploverref08_place.l0, List.length_map]
    by_cases h : plc x L < L.length
    · have hg := plc_ge x L h
      rw [if_pos (by omega), if_pos (by omega), rd37 L _ h, if_neg (by exact hg)]
      have e : fnd x L = (L[plc x L].1 == x) := by unfold fnd; rw [List.drop_eq_getElem_cons h]
      rw [e]
      rfl
    · rw [if_neg (by omega)]
      have e : fnd x L = false := by unfold fnd; rw [List.drop_of_length_le (by omega)]
      rw [e]
  | succ d ih =>
    intro k n h1 h2 h3
    obtain ⟨k, rfl⟩ : ∃ m, k = m + 1 := ⟨k - 1, by omega⟩
    have hn : n < L.length := by omega
    have hl := plc_lt x L n hn (by omega)
    simp only [PVptreeNear.ploverref08_place.l0, List.length_map]
    rw [if_pos (by omega), if_pos (by omega), rd37 L n hn, if_pos (by exact hl), wrap_succ hn (by omega)]
    exact ih k (n + 1) (by omega) (by omega) (by omega)
theorem place_f (L : List (Int × List Int)) (x : Int) (hm : L.length ≤ 1000000000000) (k : Nat) (hk : L.length < k) : PVptreeNear.ploverref08_place.f k (L.map s37) x = some ((plc x L : Int), fnd x L) := by
  unfold PVptreeNear.ploverref08_place.f
  have := plc_le x L
  exact place_l0 L x hm (plc x L) k 0 (by omega) (by omega) (by omega)
theorem dist_l0 (a b : List Int) (ha : isV a = true) (hb : isV b = true) (hl : b.length = a.length) (d : Nat) : ∀ (k n : Nat), n ≤ a.length → a.length - n = d → d < k → PVptreeNear.ploverref05_Dist.l0 k a b (distTo a b n) (n : Int) = some (distN a b, 0) := by
  have hal := isV_len ha
  induction d with
  | zero =>
    intro k n h1 h2 h3
    obtain ⟨k, rfl⟩ : ∃ m, k = m + 1 := ⟨k - 1, by omega⟩
    obtain rfl : n = a.length := by omega
    simp only [PVptreeNear.ploverref05_Dist.l0]
    rw [if_neg (by omega)]
    rfl
  | succ d ih =>
    intro k n h1 h2 h3
    obtain ⟨k, rfl⟩ : ∃ m, k = m + 1 := ⟨k - 1, by omega⟩
    have hn : n < a.length := by omega
    have r1 := isV_range ha n hn
    have r2 := isV_range hb n (by omega)
    have r3 := distTo_range ha hb hl n h1
    have e : distTo a b (n + 1) = distTo a b n + gap (YtealiaafdkhonaaW.PrintWords.rd a (n : Int)) (YtealiaafdkhonaaW.PrintWords.rd b (n : Int)) := rfl
    simp only [PVptreeNear.ploverref05_Dist.l0]
    rw [if_pos (by omega), if_pos (by omega), if_pos (by omega), wrap_succ hn (by omega)]
    generalize YtealiaafdkhonaaW.PrintWords.rd a (n : Int) = p at *
    generalize YtealiaafdkhonaaW.PrintWords.rd b (n : Int) = q at *
    have hnext := ih k (n + 1) (by omega) (by omega) (by omega)
    rw [e] at hnext
    unfold gap at hnext
    unfold wrap64
    by_cases h : p > q
    · rw [if_pos h]
      rw [if_neg (by omega)] at hnext
      rw [← hnext]
      congr 1
      omega
    · rw [if_neg h]
      by_cases h5 : p - q < q - p
      · rw [if_pos h5] at hnext
        rw [← hnext]
        congr 1
        omega
      · rw [if_neg h5] at hnext
        rw [← hnext]
        congr 1
        omega
theorem dist_f (a b : List Int) (ha : isV a = true) (hb : isV b = true) (hl : b.length = a.length) (k : Nat) (hk : 18 < k) : PVptreeNear.ploverref05_Dist.f k a b = some (distN a b, 0) := by
  have hal := isV_len ha
  unfold PVptreeNear.ploverref05_Dist.f
  rw [is_f a (by omega) k (by omega), is_f b (by omega) k (by omega), ha, hb]
  show PVptreeNear.ploverref05_Dist.j0 k a b ((a.length : Int) != (b.length : Int)) = _
  obtain ⟨k, rfl⟩ : ∃ m, k = m + 1 := ⟨k - 1, by omega⟩
  simp only [PVptreeNear.ploverref05_Dist.j0]
  rw [hl, if_neg (by simp)]
  exact dist_l0 a b ha hb hl a.length k 0 (by omega) (by omega) (by omega)
end Go.Proofs.Ytealiaafdkhonaa.Vp
