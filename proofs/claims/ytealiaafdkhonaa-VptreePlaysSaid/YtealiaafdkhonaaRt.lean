/- In plain words: the reference's top and search: the first of the sorted. -/
import Derived.Test.YtealiaafdkhonaaRp
import Derived.Test.YtealiaafdkhonaaXd
namespace Go.Proofs.Ytealiaafdkhonaa.Vp
open Go.RowKit Go.Sort Mb Base Go.Proofs.YtealiaafdkhonaaW.PrintWords
set_option linter.unusedVariables false
set_option linter.unusedSimpArgs false
theorem less_f (x y : Int × Int) : PVptreeNear.ploverref05_Less.f x.1 x.2 y.1 y.2 = some (hlt x y) := by
  unfold PVptreeNear.ploverref05_Less.f hlt
  by_cases h : x.2 = y.2
  · rw [if_pos h]; congr 1; simp [h]
  · rw [if_neg h]; congr 1; simp [h]
/-- Is a number among those chosen? -/
def isIn (P : List (Int × Int)) (x : Int) : Bool := P.any fun p => p.1 == x
theorem isIn_take (P : List (Int × Int)) (x : Int) (n : Nat) (h : n < P.length) : isIn (P.take (n + 1)) x = (isIn (P.take n) x || (P[n].1 == x)) := by
  unfold isIn
  rw [List.take_succ_eq_append_getElem h, List.any_append]
  simp
def bI : Option Nat → Int
  | none => -1
  | some q => (q : Int)
def gX (X : List (Int × Int)) (i : Nat) : Int × Int := X.getD i (0, 0)
theorem gX_at {X : List (Int × Int)} {i : Nat} (h : i < X.length) : gX X i = X[i] := by unfold gX; rw [List.getD_eq_getElem?_getD, List.getElem?_eq_getElem h]; rfl
theorem rdX (X : List (Int × Int)) (i : Nat) (h : i < X.length) : PVptreeNear.rd_T49 (X.map s49) (i : Int) = s49 (gX X i) := by rw [rd49 X i h, gX_at h]
/-- The best so far, behind the i-th. -/
def nextB (X P : List (Int × Int)) (b : Option Nat) (i : Nat) : Option Nat :=
  if isIn P (gX X i).1 = true then b else match b with
    | none => some i
    | some q => if hlt (gX X i) (gX X q) = true then some i else some q
/-- The inner loop: is the i-th there? -/
theorem top_l2 (X P : List (Int × Int)) (kk : Int) (b : Option Nat) (hb : ∀ q, b = some q → q < X.length) (i : Nat) (hi : i < X.length) (hX : X.length ≤ 1000000) (hP : P.length ≤ 1000000) (res : Option (List PVptreeNear.S49))
    (hend : ∃ k0, ∀ k, k0 ≤ k → PVptreeNear.ploverref05_top.l1 k (X.map s49) kk (P.map s49) (bI (nextB X P b i)) ((i + 1 : Nat) : Int) = res) (d : Nat) :
    ∀ n, n ≤ P.length → P.length - n = d → ∃ k0, ∀ k, k0 ≤ k → PVptreeNear.ploverref05_top.l2 k (X.map s49) kk (P.map s49) (bI b) (i : Int) (isIn (P.take n) (gX X i).1) (n : Int) = res := by
  induction d with
  | zero =>
    intro n h1 h2
    obtain rfl : n = P.length := by omega
    obtain ⟨k0, hk0⟩ := hend
    refine ⟨k0 + 1, fun k hk => ?_⟩
    obtain ⟨k, rfl⟩ : ∃ m, k = m + 1 := ⟨k - 1, by omega⟩
    rw [← hk0 k (by omega), List.take_length]
    simp only [PVptreeNear.ploverref05_top.l2, List.length_map]
    rw [if_neg (by omega), wrap_succ hi (by omega)]
    unfold nextB
    by_cases e : isIn P (gX X i).1 = true
    · rw [if_pos e, if_pos e]
    · rw [if_neg e, if_neg e]
      cases b with
      | none => rw [if_pos (by show (-1 : Int) < 0; omega)]; rfl
      | some q =>
        have hq := hb q rfl
        rw [if_neg (by show ¬ (q : Int) < 0; omega), if_pos (by omega), if_pos (by omega), if_pos (by show 0 ≤ (q : Int); omega), if_pos (by show (q : Int) < _; omega), rdX X i hi]
        show ((PVptreeNear.ploverref05_Less.f (s49 (gX X i)).f0 (s49 (gX X i)).f1 (PVptreeNear.rd_T49 (X.map s49) (q : Int)).f0 (PVptreeNear.rd_T49 (X.map s49) (q : Int)).f1).bind _) = _
        rw [rdX X q hq]
        have hl := less_f (gX X i) (gX X q)
        rw [show PVptreeNear.ploverref05_Less.f (s49 (gX X i)).f0 (s49 (gX X i)).f1 (s49 (gX X q)).f0 (s49 (gX X q)).f1 = some (hlt (gX X i) (gX X q)) from hl]
        show (if hlt (gX X i) (gX X q) = true then PVptreeNear.ploverref05_top.l1 k (X.map s49) kk (P.map s49) (i : Int) ((i + 1 : Nat) : Int) else PVptreeNear.ploverref05_top.l1 k (X.map s49) kk (P.map s49) (q : Int) ((i + 1 : Nat) : Int)) = PVptreeNear.ploverref05_top.l1 k (X.map s49) kk (P.map s49) (bI (if hlt (gX X i) (gX X q) = true then some i else some q)) ((i + 1 : Nat) : Int)
        by_cases hh : hlt (gX X i) (gX X q) = true
        · rw [if_pos hh, if_pos hh]; rfl
        · rw [if_neg hh, if_neg hh]; rfl
  | succ d ih =>
    intro n h1 h2
    have hn : n < P.length := by omega
    obtain ⟨k0, hk0⟩ := ih (n + 1) (by omega) (by omega)
    refine ⟨k0 + 1, fun k hk => ?_⟩
    obtain ⟨k, rfl⟩ : ∃ m, k = m + 1 := ⟨k - 1, by omega⟩
    have hk1 := hk0 k (by omega)
    rw [isIn_take P (gX X i).1 n hn] at hk1
    simp only [PVptreeNear.ploverref05_top.l2, List.length_map]
    rw [if_pos (by omega), wrap_succ hn (by omega)]
    by_cases e : isIn (P.take n) (gX X i).1 = true
    · rw [if_pos e, ← hk1, e, Bool.true_or]
    · rw [if_neg e, if_pos (by omega), if_pos (by omega), if_pos (by omega), rd49 P n hn, rdX X i hi, ← hk1]
      rw [Bool.not_eq_true] at e
      rw [e, Bool.false_or]
      rfl
/-- The best of those ahead of i that are not chosen. -/
structure BestAt (X P : List (Int × Int)) (i : Nat) (b : Option Nat) : Prop where
  lt : ∀ q, b = some q → q < X.length ∧ isIn P (gX X q).1 = false
  lo : ∀ q, b = some q → ∀ j, j < i → isIn P (gX X j).1 = false → hlt (gX X j) (gX X q) = false
  no : b = none → ∀ j, j < i → isIn P (gX X j).1 = true
theorem BestAt.step {X P : List (Int × Int)} {i : Nat} {b : Option Nat} (h : BestAt X P i b) (hi : i < X.length) : BestAt X P (i + 1) (nextB X P b i) := by
  unfold nextB
  by_cases e : isIn P (gX X i).1 = true
  · rw [if_pos e]
    refine ⟨h.lt, fun q hq j hj hn => ?_, fun hb j hj => ?_⟩
    · by_cases e2 : j = i
      · subst e2; rw [e] at hn; cases hn
      · exact h.lo q hq j (by omega) hn
    · by_cases e2 : j = i
      · subst e2; exact e
      · exact h.no hb j (by omega)
  · rw [if_neg e]
    rw [Bool.not_eq_true] at e
    cases b with
    | none =>
      refine ⟨fun q hq => ?_, fun q hq j hj hn => ?_, fun hb => by cases hb⟩
      · injection hq with hq; subst hq; exact ⟨hi, e⟩
      · injection hq with hq
        subst hq
        by_cases e2 : j = i
        · subst e2; exact hlt_irr _
        · have := h.no rfl j (by omega)
          rw [this] at hn
          cases hn
    | some p =>
      show BestAt X P (i + 1) (if hlt (gX X i) (gX X p) = true then some i else some p)
      by_cases e3 : hlt (gX X i) (gX X p) = true
      · rw [if_pos e3]
        refine ⟨fun q hq => ?_, fun q hq j hj hn => ?_, fun hb => by cases hb⟩
        · injection hq with hq; subst hq; exact ⟨hi, e⟩
        · injection hq with hq
          subst hq
          by_cases e2 : j = i
          · subst e2; exact hlt_irr _
          · have h1 := h.lo p rfl j (by omega) hn
            exact hle_trans (hlt_asymm e3) h1
      · rw [if_neg e3]
        rw [Bool.not_eq_true] at e3
        refine ⟨h.lt, fun q hq j hj hn => ?_, fun hb => by cases hb⟩
        by_cases e2 : j = i
        · subst e2
          injection hq with hq
          subst hq
          exact e3
        · exact h.lo q hq j (by omega) hn
theorem top_l1 (X P : List (Int × Int)) (kk : Int) (hX : X.length ≤ 1000000) (hP : P.length ≤ 1000000) (res : Option (List PVptreeNear.S49))
    (hend : ∀ b, BestAt X P X.length b → ∃ k0, ∀ k, k0 ≤ k → PVptreeNear.ploverref05_top.l1 k (X.map s49) kk (P.map s49) (bI b) (X.length : Int) = res) (d : Nat) :
    ∀ (i : Nat) (b : Option Nat), i ≤ X.length → X.length - i = d → BestAt X P i b → ∃ k0, ∀ k, k0 ≤ k → PVptreeNear.ploverref05_top.l1 k (X.map s49) kk (P.map s49) (bI b) (i : Int) = res := by
  induction d with
  | zero =>
    intro i b h1 h2 h3
    obtain rfl : i = X.length := by omega
    exact hend b h3
  | succ d ih =>
    intro i b h1 h2 h3
    have hi : i < X.length := by omega
    obtain ⟨k0, hk0⟩ := top_l2 X P kk b (fun q hq => (h3.lt q hq).1) i hi hX hP res (ih (i + 1) _ (by omega) (by omega) (h3.step hi)) P.length 0 (by omega) (by omega)
    refine ⟨k0 + 1, fun k hk => ?_⟩
    obtain ⟨k, rfl⟩ : ∃ m, k = m + 1 := ⟨k - 1, by omega⟩
    rw [← hk0 k (by omega)]
    simp only [PVptreeNear.ploverref05_top.l1, List.length_map]
    rw [if_pos (by omega)]
    rfl
/-- The numbers of a list are each once. -/
def Once (X : List (Int × Int)) : Prop := (X.map (·.1)).Nodup
theorem isIn_mem {P : List (Int × Int)} {x : Int} : isIn P x = true ↔ ∃ p ∈ P, p.1 = x := by
  unfold isIn
  simp
theorem once_split {A B : List (Int × Int)} (h : Once (A ++ B)) {p q : Int × Int} (hp : p ∈ A) (hq : q ∈ B) : p.1 ≠ q.1 := by
  unfold Once at h
  rw [List.map_append] at h
  exact (List.nodup_append.1 h).2.2 _ (List.mem_map.2 ⟨p, hp, rfl⟩) _ (List.mem_map.2 ⟨q, hq, rfl⟩)
theorem top_l0 (X : List (Int × Int)) (kk : Nat) (hX : X.length ≤ 1000000) (ho : Once X) (d : Nat) :
    ∀ j, j ≤ (isort X).length → j ≤ kk → (isort X).length - j = d → ∃ k0, ∀ k, k0 ≤ k → PVptreeNear.ploverref05_top.l0 k (X.map s49) (kk : Int) (((isort X).take j).map s49) = some (((isort X).take kk).map s49) := by
  have hp := isort_perm X
  have hs := isort_sorted X
  have hlen := hp.length_eq
  have hos : Once (isort X) := (hp.map (fun x : Int × Int => x.1)).nodup_iff.2 ho
  have key : ∀ j, j ≤ (isort X).length → ∀ q ∈ X, isIn ((isort X).take j) q.1 = false → q ∈ (isort X).drop j := fun j hj q hq hn => by
    have h1 : q ∈ isort X := hp.mem_iff.2 hq
    rw [← List.take_append_drop j (isort X)] at h1
    rcases List.mem_append.1 h1 with h1 | h1
    · have : isIn ((isort X).take j) q.1 = true := isIn_mem.2 ⟨q, h1, rfl⟩
      rw [this] at hn; cases hn
    · exact h1
  have key2 : ∀ j q, q ∈ (isort X).drop j → isIn ((isort X).take j) q.1 = false := fun j q hq => by
    cases h : isIn ((isort X).take j) q.1 with
    | false => rfl
    | true =>
      obtain ⟨p, hp1, hp2⟩ := isIn_mem.1 h
      exact absurd hp2 (once_split (A := (isort X).take j) (B := (isort X).drop j) (by rw [List.take_append_drop]; exact hos) hp1 hq)
  induction d with
  | zero =>
    intro j h1 h2 h3
    obtain rfl : j = (isort X).length := by omega
    by_cases hk : (isort X).length < kk
    · have hin : ∀ i, i < X.length → isIn (isort X) (gX X i).1 = true := fun i hi => isIn_mem.2 ⟨gX X i, hp.mem_iff.2 (by rw [gX_at hi]; exact List.getElem_mem hi), rfl⟩
      obtain ⟨k0, hk0⟩ := top_l1 X (isort X) kk hX (by omega) (some ((isort X).map s49)) (fun b hb => by
        refine ⟨1, fun k hk1 => ?_⟩
        obtain ⟨k, rfl⟩ : ∃ m, k = m + 1 := ⟨k - 1, by omega⟩
        simp only [PVptreeNear.ploverref05_top.l1, List.length_map]
        rw [if_neg (by omega)]
        cases b with
        | none => rw [if_pos (by show (-1 : Int) < 0; omega)]
        | some q =>
          obtain ⟨h5, h6⟩ := hb.lt q rfl
          rw [hin q h5] at h6
          cases h6) X.length 0 none (by omega) (by omega) ⟨fun q hq => (by cases hq), fun q hq => (by cases hq), fun _ j hj => (by omega)⟩
      refine ⟨k0 + 1, fun k hk1 => ?_⟩
      obtain ⟨k, rfl⟩ : ∃ m, k = m + 1 := ⟨k - 1, by omega⟩
      simp only [PVptreeNear.ploverref05_top.l0, List.length_map]
      rw [List.take_length, if_pos (by omega), List.take_of_length_le (by omega)]
      exact hk0 k (by omega)
    · refine ⟨1, fun k hk1 => ?_⟩
      obtain ⟨k, rfl⟩ : ∃ m, k = m + 1 := ⟨k - 1, by omega⟩
      simp only [PVptreeNear.ploverref05_top.l0, List.length_map]
      rw [List.take_length, if_neg (by omega), List.take_of_length_le (by omega)]
  | succ d ih =>
    intro j h1 h2 h3
    have hj : j < (isort X).length := by omega
    by_cases hk : j < kk
    · obtain ⟨k1, hk1⟩ := ih (j + 1) (by omega) (by omega) (by omega)
      have hm : (isort X)[j] ∈ (isort X).drop j := by rw [List.drop_eq_getElem_cons hj]; exact List.mem_cons_self ..
      obtain ⟨i0, hi0, e0⟩ := List.mem_iff_getElem.1 (hp.mem_iff.1 (List.getElem_mem hj))
      have hl : ((isort X).take j).length = j := by rw [List.length_take]; omega
      obtain ⟨k0, hk0⟩ := top_l1 X ((isort X).take j) kk hX (by omega) (some (((isort X).take kk).map s49)) (fun b hb => by
        refine ⟨k1 + 1, fun k hk2 => ?_⟩
        obtain ⟨k, rfl⟩ : ∃ m, k = m + 1 := ⟨k - 1, by omega⟩
        rw [← hk1 k (by omega)]
        simp only [PVptreeNear.ploverref05_top.l1, List.length_map]
        rw [if_neg (by omega)]
        have hi0n : isIn ((isort X).take j) (gX X i0).1 = false := by rw [gX_at hi0, e0]; exact key2 j _ hm
        cases b with
        | none =>
          have := hb.no rfl i0 hi0
          rw [this] at hi0n
          cases hi0n
        | some q =>
          obtain ⟨h5, h6⟩ := hb.lt q rfl
          have h7 := hb.lo q rfl i0 hi0 hi0n
          rw [gX_at hi0, e0] at h7
          have h8 := key j (by omega) (gX X q) (by rw [gX_at h5]; exact List.getElem_mem h5) h6
          have h9 : hlt (gX X q) (isort X)[j] = false := by
            rw [List.drop_eq_getElem_cons hj] at h8
            rcases List.mem_cons.1 h8 with h8 | h8
            · rw [h8]; exact hlt_irr _
            · have hs2 : Sorted ((isort X).drop j) := hs.sublist (List.drop_sublist _ _)
              rw [List.drop_eq_getElem_cons hj] at hs2
              exact (List.pairwise_cons.1 hs2).1 _ h8
          have h10 : gX X q = (isort X)[j] := hle_anti h7 h9
          rw [if_neg (by show ¬ (q : Int) < 0; omega), if_pos (by show 0 ≤ (q : Int); omega), if_pos (by show (q : Int) < _; omega), if_pos (by rw [hl]; omega)]
          show PVptreeNear.ploverref05_top.l0 k (X.map s49) kk (((isort X).take j).map s49 ++ [(⟨(PVptreeNear.rd_T49 (X.map s49) (q : Int)).f0, (PVptreeNear.rd_T49 (X.map s49) (q : Int)).f1⟩ : PVptreeNear.S49)]) = _
          rw [rdX X q h5, h10, List.take_succ_eq_append_getElem hj, List.map_append]
          rfl) X.length 0 none (by omega) (by omega) ⟨fun q hq => (by cases hq), fun q hq => (by cases hq), fun _ j hj => (by omega)⟩
      refine ⟨k0 + 1, fun k hk2 => ?_⟩
      obtain ⟨k, rfl⟩ : ∃ m, k = m + 1 := ⟨k - 1, by omega⟩
      simp only [PVptreeNear.ploverref05_top.l0, List.length_map]
      rw [if_pos (by rw [hl]; omega)]
      exact hk0 k (by omega)
    · obtain rfl : j = kk := by omega
      refine ⟨1, fun k hk1 => ?_⟩
      obtain ⟨k, rfl⟩ : ∃ m, k = m + 1 := ⟨k - 1, by omega⟩
      simp only [PVptreeNear.ploverref05_top.l0, List.length_map]
      rw [if_neg (by rw [List.length_take]; omega)]
theorem top_f (X : List (Int × Int)) (kk : Nat) (hX : X.length ≤ 1000000) (ho : Once X) : ∃ k0, ∀ k, k0 ≤ k → PVptreeNear.ploverref05_top.f k (X.map s49) (kk : Int) = some (((isort X).take kk).map s49) := by
  obtain ⟨k0, h⟩ := top_l0 X kk hX ho (isort X).length 0 (by omega) (by omega) (by omega)
  exact ⟨k0, fun k hk => h k hk⟩
/-- Search: among points that may be. -/
theorem search_l0 (L : List (Int × List Int)) (v : List Int) (kk : Int) (hv : isV v = true) (hL : ∀ p ∈ L, isV p.2 = true ∧ p.2.length = v.length) (hm : L.length ≤ 1000000) (res : Option ((List PVptreeNear.S49) × Int))
    (hend : ∃ k0, ∀ k, k0 ≤ k → PVptreeNear.ploverref05_Search.l0 k (L.map s37) v kk ((hits L v).map s49) (L.length : Int) = res) (d : Nat) :
    ∀ n, n ≤ L.length → L.length - n = d → ∃ k0, ∀ k, k0 ≤ k → PVptreeNear.ploverref05_Search.l0 k (L.map s37) v kk ((hits (L.take n) v).map s49) (n : Int) = res := by
  induction d with
  | zero =>
    intro n h1 h2
    obtain rfl : n = L.length := by omega
    rw [List.take_length]
    exact hend
  | succ d ih =>
    intro n h1 h2
    have hn : n < L.length := by omega
    obtain ⟨k0, hk0⟩ := ih (n + 1) (by omega) (by omega)
    refine ⟨k0 + 20, fun k hk => ?_⟩
    obtain ⟨k, rfl⟩ : ∃ m, k = m + 1 := ⟨k - 1, by omega⟩
    obtain ⟨h3, h4⟩ := hL L[n] (List.getElem_mem hn)
    have hk1 := hk0 k (by omega)
    rw [List.take_succ_eq_append_getElem hn] at hk1
    rw [show hits (L.take n ++ [L[n]]) v = hits (L.take n) v ++ [(L[n].1, distN v L[n].2)] by unfold hits; rw [List.map_append]; rfl, List.map_append] at hk1
    rw [← hk1]
    simp only [PVptreeNear.ploverref05_Search.l0, List.length_map]
    rw [if_pos (by omega), if_pos (by omega), rd37 L n hn]
    rw [show PVptreeNear.ploverref05_Dist.f k v (s37 L[n]).f1 = some (distN v L[n].2, 0) from dist_f v L[n].2 hv h3 h4 k (by omega), Option.bind_some, if_pos rfl, if_pos (by unfold hits; rw [List.length_map, List.length_take]; omega), wrap_succ hn (by omega)]
    rfl
theorem search_ok (L : List (Int × List Int)) (v : List Int) (kk : Nat) (h1 : 1 ≤ kk) (h2 : kk ≤ 64) (hv : isV v = true) (hL : ∀ p ∈ L, isV p.2 = true ∧ p.2.length = v.length) (hm : L.length ≤ 1000000) (ho : Once (hits L v)) :
    ∃ k, PVptreeNear.ploverref05_Search.f k (L.map s37) v (kk : Int) = some (((isort (hits L v)).take kk).map s49, 0) := by
  obtain ⟨kt, ht⟩ := top_f (hits L v) kk (by unfold hits; rw [List.length_map]; exact hm) ho
  obtain ⟨k0, hk0⟩ := search_l0 L v kk hv hL hm (some (((isort (hits L v)).take kk).map s49, 0)) ⟨kt + 1, fun k hk => by
    obtain ⟨k, rfl⟩ : ∃ m, k = m + 1 := ⟨k - 1, by omega⟩
    simp only [PVptreeNear.ploverref05_Search.l0, List.length_map]
    rw [if_neg (by omega), if_neg (by omega), if_neg (by omega), ht k (by omega)]
    rfl⟩ L.length 0 (by omega) (by omega)
  refine ⟨k0 + 20, ?_⟩
  unfold PVptreeNear.ploverref05_Search.f
  rw [is_f v (by have := (isV_len hv).2; omega) _ (by have := (isV_len hv).2; omega), hv]
  exact hk0 _ (by omega)
theorem search_no (L : List (Int × List Int)) (v : List Int) (kk : Int) (h1 : kk < 1 ∨ 64 < kk) (hv : isV v = true) (hL : ∀ p ∈ L, isV p.2 = true ∧ p.2.length = v.length) (hm : L.length ≤ 1000000) :
    ∃ k, PVptreeNear.ploverref05_Search.f k (L.map s37) v kk = some ([], 51) := by
  obtain ⟨k0, hk0⟩ := search_l0 L v kk hv hL hm (some ([], 51)) ⟨1, fun k hk => by
    obtain ⟨k, rfl⟩ : ∃ m, k = m + 1 := ⟨k - 1, by omega⟩
    simp only [PVptreeNear.ploverref05_Search.l0, List.length_map]
    rw [if_neg (by omega)]
    by_cases h : kk < 1
    · rw [if_pos h]
    · rw [if_neg h, if_pos (by omega)]⟩ L.length 0 (by omega) (by omega)
  refine ⟨k0 + 20, ?_⟩
  unfold PVptreeNear.ploverref05_Search.f
  rw [is_f v (by have := (isV_len hv).2; omega) _ (by have := (isV_len hv).2; omega), hv]
  exact hk0 _ (by omega)
end Go.Proofs.Ytealiaafdkhonaa.Vp
