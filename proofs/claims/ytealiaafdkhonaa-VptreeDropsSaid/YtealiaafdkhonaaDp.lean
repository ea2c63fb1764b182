/- In plain words: points that stay, points that go. -/
import Derived.Test.YtealiaafdkhonaaTw
namespace Go.Proofs.Ytealiaafdkhonaa.Vp
open Go.RowKit Go.Sort Mb Base Go.Proofs.YtealiaafdkhonaaW.PrintWords
set_option linter.unusedVariables false
set_option linter.unusedSimpArgs false
theorem put_mid {x : Int} {v : List Int} : ∀ {A B : List (Int × List Int)}, (∀ p ∈ A, p.1 < x) → (∀ p ∈ B, x < p.1) → putL x v (A ++ B) = A ++ (x, v) :: B
  | [], [], _, _ => rfl
  | [], p :: B, _, h => by
    have := h p (by simp)
    show putL x v (p :: B) = _
    unfold putL
    rw [if_neg (by omega), if_neg (by omega)]
    rfl
  | p :: A, B, h, h2 => by
    show putL x v (p :: (A ++ B)) = _
    unfold putL
    rw [if_pos (h p (by simp)), put_mid (fun q hq => h q (List.mem_cons_of_mem _ hq)) h2]
    rfl
def rowsG (l : List (Int × Int)) (n : Nat) : List (Int × List Int) := (List.range n).map fun (k : Nat) => (1000 + (k : Int), at2 l k)
theorem rowsG_succ (l : List (Int × Int)) (n : Nat) : rowsG l (n + 1) = rowsG l n ++ [(1000 + (n : Int), at2 l n)] := by
  unfold rowsG
  rw [List.range_succ, List.map_append]
  rfl
theorem rowsG_len (l : List (Int × Int)) (n : Nat) : (rowsG l n).length = n := by simp [rowsG]
theorem rowsG_lt {l : List (Int × Int)} {n : Nat} {p : Int × List Int} (hp : p ∈ rowsG l n) : ∃ k : Nat, k < n ∧ p = (1000 + (k : Int), at2 l k) := by
  obtain ⟨k, hk, rfl⟩ := List.mem_map.1 hp
  exact ⟨k, List.mem_range.1 hk, rfl⟩
def both (s g : List (Int × Int)) (n m : Nat) : List (Int × List Int) := rowsL s n ++ rowsG g m
theorem both_len (s g : List (Int × Int)) (n m : Nat) : (both s g n m).length = n + m := by simp [both, rows_len, rowsG_len]
theorem both_put (s g : List (Int × Int)) (n m : Nat) (hn : n < 1000) : putL (n : Int) (at2 s n) (both s g n m) = both s g (n + 1) m := by
  unfold both
  rw [put_mid, rows_succ, List.append_assoc]
  · rfl
  · intro p hp
    obtain ⟨k, hk, rfl⟩ := rows_lt hp
    show (k : Int) < (n : Int)
    omega
  · intro p hp
    obtain ⟨k, hk, rfl⟩ := rowsG_lt hp
    show (n : Int) < 1000 + (k : Int)
    omega
theorem both_more (s g : List (Int × Int)) (n m : Nat) (hn : n ≤ 1000) : putL (1000 + (m : Int)) (at2 g m) (both s g n m) = both s g n (m + 1) := by
  unfold both
  rw [put_end, rowsG_succ, List.append_assoc]
  intro p hp
  rcases List.mem_append.1 hp with hp | hp
  · obtain ⟨k, hk, rfl⟩ := rows_lt hp
    show (k : Int) < 1000 + (m : Int)
    omega
  · obtain ⟨k, hk, rfl⟩ := rowsG_lt hp
    show 1000 + (k : Int) < 1000 + (m : Int)
    omega
def less (s g : List (Int × Int)) (n m j : Nat) : List (Int × List Int) := rowsL s n ++ (rowsG g m).drop j
theorem less_zero (s g : List (Int × Int)) (n m : Nat) : less s g n m 0 = both s g n m := rfl
theorem less_all (s g : List (Int × Int)) (n m : Nat) : less s g n m m = rowsL s n := by
  unfold less
  rw [List.drop_of_length_le (by rw [rowsG_len]; exact Nat.le_refl _), List.append_nil]
theorem rowsG_drop (g : List (Int × Int)) (m j : Nat) (hj : j < m) : (rowsG g m).drop j = (1000 + (j : Int), at2 g j) :: (rowsG g m).drop (j + 1) := by
  rw [List.drop_eq_getElem_cons (by rw [rowsG_len]; exact hj)]
  congr 1
  simp [rowsG]
theorem less_look (s g : List (Int × Int)) (n m j : Nat) (hj : j < m) (hr : Rising (less s g n m j)) : (look (less s g n m j) (1000 + (j : Int))).isSome = true := by
  have hm : (1000 + (j : Int), at2 g j) ∈ less s g n m j := by
    unfold less
    rw [rowsG_drop g m j hj]
    exact List.mem_append_right _ (List.mem_cons_self ..)
  rw [look_of_mem hr hm]
  rfl
theorem filter_self {x : Int} {L : List (Int × List Int)} (h : ∀ p ∈ L, p.1 ≠ x) : dropL x L = L := by
  unfold dropL
  exact List.filter_eq_self.2 (fun p hp => by simp [h p hp])
theorem drop_app (x : Int) (A B : List (Int × List Int)) : dropL x (A ++ B) = dropL x A ++ dropL x B := by unfold dropL; rw [List.filter_append]
theorem less_drop (s g : List (Int × Int)) (n m j : Nat) (hj : j < m) (hn : n ≤ 1000) : dropL (1000 + (j : Int)) (less s g n m j) = less s g n m (j + 1) := by
  unfold less
  rw [drop_app, rowsG_drop g m j hj, filter_self (L := rowsL s n)]
  · congr 1
    have h1 : dropL (1000 + (j : Int)) ((1000 + (j : Int), at2 g j) :: (rowsG g m).drop (j + 1)) = dropL (1000 + (j : Int)) ((rowsG g m).drop (j + 1)) := by
      unfold dropL
      rw [List.filter_cons_of_neg (by simp)]
    rw [h1, filter_self]
    intro p hp
    obtain ⟨i, hi, rfl⟩ := List.mem_iff_getElem.1 hp
    rw [List.length_drop, rowsG_len] at hi
    rw [List.getElem_drop]
    simp [rowsG]
    omega
  · intro p hp
    obtain ⟨k, hk, rfl⟩ := rows_lt hp
    show (k : Int) ≠ 1000 + (j : Int)
    omega
theorem both_look (s g : List (Int × Int)) (n m : Nat) (hn : n < 1000) : look (both s g n m) (n : Int) = none := by
  cases h : look (both s g n m) (n : Int) with
  | none => rfl
  | some v =>
    rcases List.mem_append.1 (look_mem h) with hp | hp
    · obtain ⟨k, hk, e⟩ := rows_lt hp
      injection e with e1 _
      omega
    · obtain ⟨k, hk, e⟩ := rowsG_lt hp
      injection e with e1 _
      omega
theorem both_look2 (s g : List (Int × Int)) (n m : Nat) (hn : n ≤ 1000) : look (both s g n m) (1000 + (m : Int)) = none := by
  cases h : look (both s g n m) (1000 + (m : Int)) with
  | none => rfl
  | some v =>
    rcases List.mem_append.1 (look_mem h) with hp | hp
    · obtain ⟨k, hk, e⟩ := rows_lt hp
      injection e with e1 _
      omega
    · obtain ⟨k, hk, e⟩ := rowsG_lt hp
      injection e with e1 _
      omega
end Go.Proofs.Ytealiaafdkhonaa.Vp
