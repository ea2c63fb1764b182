/- The reference's Same, May, digits, kinds, deep, bytes, Put, Text in plain words. -/
import Derived.Test.YtjhalgoondljgaaDoorTx
import Derived.Test.YtjhalgoondljgaaDoorXf
namespace Go.Proofs.YtjhalgoondljgaaDoor.Re
open Go.Lib (decDigits itoa_length_le itoa_nonneg)
open Go.RowKit PChartTexts Ch Go.Proofs.YtjhalgoondljgaaDoorW.PrintWords Go.Proofs.YtjhalgoondljgaaDoorW.PrintLast Go.Proofs.YtjhalgoondljgaaDoorW.PrintMore Base
set_option linter.unusedVariables false
set_option linter.unusedSimpArgs false

def Evr {α : Type} (f : Nat → Option α) (P : α → Prop) : Prop := ∃ k0 r, P r ∧ ∀ k, k0 ≤ k → f k = some r
theorem Evr.bump {α : Type} {f g : Nat → Option α} {P : α → Prop} (n : Nat) (h : Evr g P) (hf : ∀ k, f (k + n) = g k) : Evr f P := by
  obtain ⟨k0, r, hr, hk⟩ := h
  refine ⟨k0 + n, r, hr, fun k hk' => ?_⟩
  obtain ⟨j, rfl⟩ : ∃ j, k = j + n := ⟨k - n, by omega⟩
  rw [hf, hk j (by omega)]
theorem Evr.bind {α β : Type} {f : Nat → Option α} {P : α → Prop} (h : Evr f P) {g : Nat → α → Option β} {Q : β → Prop} (hg : ∀ r, P r → Evr (fun k => g k r) Q) : Evr (fun k => (f k).bind (g k)) Q := by
  obtain ⟨k0, r, hr, hk⟩ := h
  obtain ⟨k1, s, hs, hk1⟩ := hg r hr
  refine ⟨k0 + k1, s, hs, fun k hk' => ?_⟩
  show (f k).bind (g k) = some s
  rw [hk k (by omega)]
  exact hk1 k (by omega)
theorem Evr.some {α : Type} {r : α} {P : α → Prop} (h : P r) : Evr (fun _ => Option.some r) P := ⟨0, r, h, fun _ _ => rfl⟩
theorem Evr.some' {α : Type} {f : Nat → Option α} {r : α} {P : α → Prop} (hf : ∀ k, f k = Option.some r) (h : P r) : Evr f P := ⟨0, r, h, fun k _ => hf k⟩
theorem Evr.congr {α : Type} {f g : Nat → Option α} {P : α → Prop} (h : Evr g P) (hf : ∀ k, f k = g k) : Evr f P := by
  have e : f = g := funext hf
  rw [e]
  exact h
theorem Evr.imp {α : Type} {f : Nat → Option α} {P Q : α → Prop} (h : Evr f P) (hi : ∀ r, P r → Q r) : Evr f Q := by
  obtain ⟨k0, r, hr, hk⟩ := h
  exact ⟨k0, r, hi r hr, hk⟩
theorem Evr.get {α : Type} {f : Nat → Option α} {P : α → Prop} (h : Evr f P) : ∃ k r, f k = Option.some r ∧ P r := by
  obtain ⟨k0, r, hr, hk⟩ := h
  exact ⟨k0, r, hk k0 (Nat.le_refl _), hr⟩

/-! ### Same, May -/
theorem wrap_succ {n m : Nat} (h : n < m) (hm : m ≤ 9223372036854775807) : wrap64 ((n : Int) + 1) = ((n + 1 : Nat) : Int) := by
  unfold wrap64
  omega
theorem rd_nat (xs : List Int) (n : Nat) : rd xs (n : Int) = xs.getD n 0 := by simp [rd]
theorem drop_eq (xs ys : List Int) (n : Nat) (h1 : n < xs.length) (h2 : n < ys.length) : (xs.drop n = ys.drop n) ↔ (xs.getD n 0 = ys.getD n 0 ∧ xs.drop (n + 1) = ys.drop (n + 1)) := by
  rw [List.getD_eq_getElem?_getD, List.getElem?_eq_getElem h1, List.getD_eq_getElem?_getD, List.getElem?_eq_getElem h2]
  conv => lhs; rw [List.drop_eq_getElem_cons h1, List.drop_eq_getElem_cons h2]
  rw [List.cons.injEq]; rfl
theorem same_l0 (xs ys : List Int) (hl : xs.length = ys.length) (hm : xs.length ≤ 9223372036854775807) (d : Nat) : ∀ (k n : Nat), n ≤ xs.length → xs.length - n = d → d < k →
    ploverref01_SameInts.l0 k xs ys (n : Int) = some (decide (xs.drop n = ys.drop n)) := by
  induction d with
  | zero =>
    intro k n h1 h2 h3
    obtain ⟨k, rfl⟩ : ∃ m, k = m + 1 := ⟨k - 1, by omega⟩
    simp only [ploverref01_SameInts.l0]
    rw [if_neg (by omega), List.drop_of_length_le (by omega), List.drop_of_length_le (by omega)]
    simp
  | succ d ih =>
    intro k n h1 h2 h3
    obtain ⟨k, rfl⟩ : ∃ m, k = m + 1 := ⟨k - 1, by omega⟩
    simp only [ploverref01_SameInts.l0]
    rw [if_pos (by omega), if_pos (by omega), if_pos (by omega), wrap_succ (show n < xs.length by omega) hm, ih k (n + 1) (by omega) (by omega) (by omega), rd_nat, rd_nat]
    have := drop_eq xs ys n (by omega) (by omega)
    by_cases e : xs.getD n 0 = ys.getD n 0
    · rw [if_pos e]; simp only [this, e, true_and]
    · rw [if_neg e]; simp only [this, e, false_and, decide_false]
theorem same_ints (xs ys : List Int) (hm : xs.length ≤ 9223372036854775807) : ploverref01_SameInts.f (xs.length + 1) xs ys = some (decide (xs = ys)) := by
  unfold ploverref01_SameInts.f
  by_cases hl : xs.length = ys.length
  · rw [if_pos (by omega)]
    have := same_l0 xs ys hl hm xs.length (xs.length + 1) 0 (by omega) (by omega) (by omega)
    simpa using this
  · rw [if_neg (by omega)]
    have : xs ≠ ys := fun e => hl (by rw [e])
    simp [this]
theorem same_f (a b : Int) (xs ys : List Int) (hm : xs.length ≤ 9223372036854775807) : ploverref12_Same.f (xs.length + 1) a xs b ys = some (decide (a = b ∧ xs = ys)) := by
  unfold ploverref12_Same.f
  rw [same_ints xs ys hm]
  by_cases e : a = b
  · rw [if_pos e]; simp [e]
  · rw [if_neg e]; simp [e]

theorem may_l0 (ep : Int) (xs : List Int) (hm : xs.length ≤ 9223372036854775807) (d : Nat) : ∀ (k n : Nat), n + d = xs.length → d < k → (∀ j, j < n → oddB (xs.getD j 0) = false) →
    ploverref12_May.l0 k (n : Int) ep xs = some (mayB ep xs) := by
  induction d with
  | zero =>
    intro k n h1 h2 h3
    obtain ⟨k, rfl⟩ : ∃ m, k = m + 1 := ⟨k - 1, by omega⟩
    simp only [ploverref12_May.l0]
    rw [if_neg (by omega)]
    have hno : xs.any oddB = false := by
      rw [List.any_eq_false]
      intro x hx
      obtain ⟨i, hi, rfl⟩ := List.mem_iff_getElem.1 hx
      have := h3 i (by omega)
      rw [List.getD_eq_getElem?_getD, List.getElem?_eq_getElem hi] at this
      simpa using this
    unfold mayB
    rw [hno]
    by_cases a1 : ep ≥ 1
    · rw [if_pos a1]
      by_cases a2 : ep ≤ 1099511627776
      · rw [if_pos a2]
        by_cases a3 : (xs.length : Int) ≥ 1
        · rw [if_pos a3]
          have e1 : 1 ≤ ep := a1
          have e3 : 1 ≤ xs.length := by omega
          congr 1
          by_cases a4 : xs.length ≤ 16
          · simp [e1, a2, e3, a4]; omega
          · simp [e1, a2, e3, a4]; omega
        · rw [if_neg a3]
          have e3 : ¬ 1 ≤ xs.length := by omega
          simp [e3]
      · rw [if_neg a2]; simp [a2]
    · rw [if_neg a1]
      have e1 : ¬ 1 ≤ ep := a1
      simp [e1]
  | succ d ih =>
    intro k n h1 h2 h3
    obtain ⟨k, rfl⟩ : ∃ m, k = m + 1 := ⟨k - 1, by omega⟩
    simp only [ploverref12_May.l0]
    have hn : n < xs.length := by omega
    rw [if_pos (by omega), if_pos (by omega), rd_nat, wrap_succ hn hm]
    have hin : xs.getD n 0 ∈ xs := by
      rw [List.getD_eq_getElem?_getD, List.getElem?_eq_getElem hn]
      exact List.getElem_mem hn
    by_cases a1 : xs.getD n 0 < 0
    · rw [if_pos a1]
      have : xs.any oddB = true := List.any_eq_true.2 ⟨_, hin, odd_lo a1⟩
      unfold mayB
      rw [this]
      simp
    · rw [if_neg a1]
      by_cases a2 : xs.getD n 0 > 7
      · rw [if_pos a2]
        have : xs.any oddB = true := List.any_eq_true.2 ⟨_, hin, odd_hi (by omega)⟩
        unfold mayB
        rw [this]
        simp
      · rw [if_neg a2]
        refine ih k (n + 1) (by omega) (by omega) (fun j hj => ?_)
        by_cases e : j < n
        · exact h3 j e
        · have : j = n := by omega
          subst this
          exact odd_no a1 (by omega)
theorem may_f (ep : Int) (xs : List Int) (hm : xs.length ≤ 9223372036854775807) : Evr (fun k => ploverref12_May.f k ep xs) (fun r => r = mayB ep xs) :=
  ⟨xs.length + 1, _, rfl, fun k hk => by
    have := may_l0 ep xs hm xs.length k 0 (by omega) (by omega) (fun j hj => by omega)
    simpa [ploverref12_May.f] using this⟩

/-! ### digits -/
def byL (L : List UInt8) : List Int := L.map fun b => (b.toNat : Int)
theorem str_byL (L : List UInt8) : strOfNums (byL L) = ⟨L.toArray⟩ := by
  unfold strOfNums byL
  rw [List.map_map]
  have : ((fun n : Int => UInt8.ofNat n.toNat) ∘ fun b : UInt8 => (b.toNat : Int)) = id := by
    funext b
    show UInt8.ofNat ((b.toNat : Int)).toNat = b
    rw [Int.toNat_natCast]
    exact UInt8.ofNat_toNat
  rw [this, List.map_id]
theorem byL_of (L : List UInt8) : bytesOf ⟨L.toArray⟩ = byL L := by simp [bytesOf, byL]
theorem byL_app (L M : List UInt8) : byL (L ++ M) = byL L ++ byL M := by simp [byL]
theorem byL_length (L : List UInt8) : (byL L).length = L.length := by simp [byL]

theorem digits_l1 (x3 : List Int) (hl : x3.length ≤ 1000) : ∀ (i : Nat) (acc : List Int), i ≤ x3.length → acc.length + i = x3.length → Evr (fun k => ploverref02_digits.l1 k x3 acc ((i : Int) - 1)) (fun r => r = strOfNums (acc ++ (x3.take i).reverse))
  | 0, acc, h, ha => by
    refine Evr.bump 1 (g := fun _ => some (strOfNums acc)) (Evr.some (by simp)) (fun k => ?_)
    simp only [ploverref02_digits.l1]
    rw [if_neg (by omega)]
  | i + 1, acc, h, ha => by
    have ih := digits_l1 x3 hl i (acc ++ [rd x3 (i : Int)]) (by omega) (by simp; omega)
    refine Evr.bump 1 (ih.imp (Q := fun r => r = strOfNums (acc ++ (x3.take (i + 1)).reverse)) (fun r hr => ?_)) (fun k => ?_)
    · have hi : i < x3.length := by omega
      have e : rd x3 (i : Int) = x3[i] := by
        rw [rd_nat, List.getD_eq_getElem?_getD, List.getElem?_eq_getElem hi]
        rfl
      have ht : x3.take (i + 1) = x3.take i ++ [x3[i]] := (List.take_append_getElem hi).symm
      rw [hr, ht, e, List.reverse_append, List.reverse_singleton, List.append_assoc]
    · simp only [ploverref02_digits.l1]
      have e1 : ((i + 1 : Nat) : Int) - 1 = (i : Int) := by omega
      rw [e1, if_pos (by omega), if_pos (by omega), if_pos (by omega), if_pos (by omega), w64 _ (by omega) (by omega)]
theorem tmod_nat (m : Nat) : Int.tmod (m : Int) 10 = ((m % 10 : Nat) : Int) := by
  rw [Int.tmod_eq_emod_of_nonneg (by omega)]
  omega
theorem tdiv_nat (m : Nat) : Int.tdiv (m : Int) 10 = ((m / 10 : Nat) : Int) := by
  rw [Int.tdiv_eq_ediv_of_nonneg (by omega)]
  omega
theorem digits_l0 (n : Nat) : ∀ (f m : Nat) (acc : List Int), 0 < m → m < 10 ^ f → f ≤ 30 → acc.length + f ≤ 100 → m ≤ 1099511627776 →
    Evr (fun k => ploverref02_digits.l0 k (n : Int) acc (m : Int)) (fun r => r = strOfNums ((acc ++ byL (decDigits m).reverse).reverse)) := by
  intro f
  induction f with
  | zero => intro m acc h0 h1; simp at h1; omega
  | succ f ih =>
    intro m acc h0 h1 hf ha hm
    have hdig : byL [UInt8.ofNat (48 + m % 10)] = [(wrap64 (48 + Int.tmod (m : Int) 10)) % 256] := by
      rw [tmod_nat, w64 _ (by omega) (by omega)]
      unfold byL
      rw [List.map_singleton, UInt8.toNat_ofNat']
      exact congrArg (fun x : Int => [x]) (by omega)
    have hstep : ∀ k, ploverref02_digits.l0 (k + 1) (n : Int) acc (m : Int) = ploverref02_digits.l0 k (n : Int) (acc ++ byL [UInt8.ofNat (48 + m % 10)]) ((m / 10 : Nat) : Int) := fun k => by
      rw [hdig]
      simp only [ploverref02_digits.l0]
      rw [if_neg (by omega), if_neg (by rw [tmod_nat]; omega), if_pos (by omega), tdiv_nat, w64 ((m / 10 : Nat) : Int) (by omega) (by omega)]
    by_cases h10 : m < 10
    · have e0 : m / 10 = 0 := by omega
      have em : m % 10 = m := by omega
      have hend : Evr (fun k => ploverref02_digits.l0 k (n : Int) (acc ++ byL [UInt8.ofNat (48 + m % 10)]) ((0 : Nat) : Int)) (fun r => r = strOfNums ((acc ++ byL [UInt8.ofNat (48 + m % 10)]).reverse)) := by
        have h2 := digits_l1 (acc ++ byL [UInt8.ofNat (48 + m % 10)]) (by simp [byL_length]; omega) (acc ++ byL [UInt8.ofNat (48 + m % 10)]).length [] (Nat.le_refl _) (by simp)
        rw [List.take_length, List.nil_append] at h2
        refine Evr.bump 2 h2 (fun k => ?_)
        simp only [ploverref02_digits.l0, ploverref02_digits.j1]
        rw [if_pos (by omega), if_neg (by omega), w64 _ (by omega) (by simp [byL_length]; omega)]
      refine Evr.bump 1 (g := fun k => ploverref02_digits.l0 k (n : Int) (acc ++ byL [UInt8.ofNat (48 + m % 10)]) ((m / 10 : Nat) : Int)) ?_ hstep
      rw [e0]
      refine hend.imp (fun r hr => ?_)
      rw [hr, decDigits, dif_pos h10, em]
      rfl
    · have h2 := ih (m / 10) (acc ++ byL [UInt8.ofNat (48 + m % 10)]) (by omega) (by rw [Nat.pow_succ] at h1; omega) (by omega) (by simp [byL_length]; omega) (by omega)
      refine Evr.bump 1 (h2.imp (fun r hr => ?_)) hstep
      rw [hr]
      conv => rhs; rw [decDigits, dif_neg h10]
      have e2 : (decDigits (m / 10) ++ [UInt8.ofNat (48 + m % 10)]).reverse = [UInt8.ofNat (48 + m % 10)] ++ (decDigits (m / 10)).reverse := by simp
      rw [e2, byL_app, List.append_assoc]
theorem digits_f (n : Nat) (hn : n ≤ 1099511627776) : Evr (fun k => ploverref02_digits.f k (n : Int)) (fun r => r = ⟨(decDigits n).toArray⟩) := by
  by_cases h0 : n = 0
  · subst h0
    refine Evr.some' (r := ⟨#[48]⟩) (fun k => rfl) ?_
    rw [decDigits, dif_pos (by decide)]
    rfl
  · refine (Evr.congr (digits_l0 n 20 n [] (by omega) (by omega) (by omega) (by simp) hn) (fun k => ?_)).imp (fun r hr => ?_)
    · simp only [ploverref02_digits.f]
      rw [if_neg (by omega)]
    · rw [hr, List.nil_append]
      have : (byL (decDigits n).reverse).reverse = byL (decDigits n) := by
        unfold byL
        rw [List.map_reverse, List.reverse_reverse]
      rw [this, str_byL]

/-! ### kinds, deep, bytes -/
theorem rd_toSs (l : List V) (i : Nat) (hi : i < l.length) : rd_T36 (toSs l) (i : Int) = toS l[i] := by
  unfold rd_T36
  rw [Int.toNat_natCast, toSs_map, List.getD_eq_getElem?_getD, List.getElem?_map, List.getElem?_eq_getElem hi]
  rfl
theorem toSs_length (l : List V) : (toSs l).length = l.length := by rw [toSs_map, List.length_map]
theorem kinds_l0 (l : List V) (hlen : l.length ≤ 65536) (hel : ∀ x ∈ l, Evr (fun k => ploverref02_kinds.f k (toS x).f0 (toS x).f1 (toS x).f2 (toS x).f3) (fun r => r = true)) : ∀ (m i : Nat), i + m = l.length →
    Evr (fun k => ploverref02_kinds.l0 k (i : Int) 3 0 ⟨#[]⟩ (toSs l)) (fun r => r = true)
  | 0, i, h => Evr.bump 2 (g := fun _ => some true) (Evr.some rfl) (fun k => by
    simp only [ploverref02_kinds.l0, ploverref02_kinds.j2]
    rw [if_pos True.intro, if_neg (by rw [decide_eq_false (by rw [toSs_length]; omega)]; decide)])
  | m + 1, i, h => by
    have hi : i < l.length := by omega
    have ih := kinds_l0 l hlen hel m (i + 1) (by omega)
    have h1 := hel _ (List.getElem_mem hi)
    refine Evr.bump 2 (Evr.bind (g := fun k t => if t = true then ploverref02_kinds.l0 k ((i + 1 : Nat) : Int) 3 0 ⟨#[]⟩ (toSs l) else some false) h1 (fun r hr => by
      subst hr
      exact ih)) (fun k => ?_)
    simp only [ploverref02_kinds.l0, ploverref02_kinds.j2]
    rw [if_pos True.intro, if_pos (by rw [decide_eq_true (by rw [toSs_length]; omega)]), if_pos (by omega), if_pos (by rw [toSs_length]; omega), rd_toSs l i hi, wrap_succ hi (by omega)]
theorem kinds_f : ∀ (d : Nat) (v : V), Good d v → (enc v).length ≤ 65536 → Evr (fun k => ploverref02_kinds.f k (toS v).f0 (toS v).f1 (toS v).f2 (toS v).f3) (fun r => r = true)
  | d, .num n, _, _ => Evr.bump 4 (g := fun _ => some true) (Evr.some rfl) (fun k => by
    simp [ploverref02_kinds.f, ploverref02_kinds.j0, ploverref02_kinds.l0, ploverref02_kinds.j2, toS])
  | d, .str s, hg, _ => by cases hg
  | d, .list l, hg, hen => by
    cases hg with
    | list d l hl =>
      have hll := encs_len l hl
      rw [enc_list] at hen
      simp at hen
      have h1 := kinds_l0 l (by omega) (fun x hx => by
        obtain ⟨i, hi, rfl⟩ := List.mem_iff_getElem.1 hx
        have hsp := congrArg List.length (encs_split l i hi)
        simp only [List.length_append] at hsp
        exact kinds_f d _ (hl _ hx) (by omega)) l.length 0 (by omega)
      refine Evr.bump 2 h1 (fun k => ?_)
      simp [ploverref02_kinds.f, ploverref02_kinds.j0, toS]
theorem deep_l0 (d : Nat) (hd : d ≤ 8) (l : List V) (hlen : l.length ≤ 65536) (hel : ∀ x ∈ l, Evr (fun k => ploverref02_deep.f k (toS x).f0 (toS x).f1 (toS x).f2 (toS x).f3) (fun r => 0 ≤ r ∧ r ≤ d)) : ∀ (m i : Nat) (a : Int), i + m = l.length → 0 ≤ a → a ≤ d →
    Evr (fun k => ploverref02_deep.l0 k a (i : Int) 3 0 ⟨#[]⟩ (toSs l)) (fun r => 0 ≤ r ∧ r ≤ ((d + 1 : Nat) : Int))
  | 0, i, a, h, h0, h1 => Evr.bump 1 (g := fun _ => some (a + 1)) (Evr.some (by omega)) (fun k => by
    simp only [ploverref02_deep.l0]
    rw [if_neg (by rw [toSs_length]; omega), w64 _ (by omega) (by omega)])
  | m + 1, i, a, h, h0, h1 => by
    have hi : i < l.length := by omega
    have h2 := hel _ (List.getElem_mem hi)
    refine Evr.bump 1 (Evr.bind (g := fun k t => ploverref02_deep.l0 k (mx a t) ((i + 1 : Nat) : Int) 3 0 ⟨#[]⟩ (toSs l)) h2 (fun r hr => by
      exact deep_l0 d hd l hlen hel m (i + 1) (mx a r) (by omega) (by unfold mx; split <;> omega) (by unfold mx; split <;> omega))) (fun k => ?_)
    simp only [ploverref02_deep.l0]
    rw [if_pos (by rw [toSs_length]; omega), if_pos (by omega), rd_toSs l i hi, wrap_succ hi (by omega)]
theorem deep_f : ∀ (d : Nat) (v : V), d ≤ 8 → Good d v → (enc v).length ≤ 65536 → Evr (fun k => ploverref02_deep.f k (toS v).f0 (toS v).f1 (toS v).f2 (toS v).f3) (fun r => 0 ≤ r ∧ r ≤ d)
  | d, .num n, _, _, _ => Evr.bump 1 (g := fun _ => some 0) (Evr.some (by omega)) (fun k => by
    simp [ploverref02_deep.f, toS])
  | d, .str s, _, hg, _ => by cases hg
  | d, .list l, hd, hg, hen => by
    cases hg with
    | list d l hl =>
      have hll := encs_len l hl
      rw [enc_list] at hen
      simp at hen
      have h1 := deep_l0 d (by omega) l (by omega) (fun x hx => by
        obtain ⟨i, hi, rfl⟩ := List.mem_iff_getElem.1 hx
        have hsp := congrArg List.length (encs_split l i hi)
        simp only [List.length_append] at hsp
        exact deep_f d _ (by omega) (hl _ hx) (by omega)) l.length 0 0 (by omega) (by omega) (by omega)
      refine Evr.bump 1 h1 (fun k => ?_)
      simp [ploverref02_deep.f, toS]
theorem bytes_l0 (l : List V) (hlen : (encs l).length ≤ 65000) (hll : l.length ≤ 65536) (hel : ∀ x ∈ l, Evr (fun k => ploverref02_bytes.f k (toS x).f0 (toS x).f1 (toS x).f2 (toS x).f3) (fun r => r = ⟨(enc x).toArray⟩)) : ∀ (m i : Nat), i + m = l.length →
    Evr (fun k => ploverref02_bytes.l0 k (byL (108 :: encs (l.take i))) (i : Int) 3 0 ⟨#[]⟩ (toSs l)) (fun r => r = ⟨(enc (.list l)).toArray⟩)
  | 0, i, h => by
    have e : l.take i = l := by rw [List.take_of_length_le (by omega)]
    rw [e]
    refine Evr.bump 1 (g := fun _ => some (strOfNums (byL (108 :: encs l) ++ [101]))) (Evr.some ?_) (fun k => ?_)
    · have : byL (108 :: encs l) ++ [101] = byL (enc (.list l)) := by rw [enc_list]; simp [byL]
      rw [this, str_byL]
    · simp only [ploverref02_bytes.l0]
      rw [if_neg (by rw [toSs_length]; omega), if_pos (by rw [byL_length]; simp; omega)]
  | m + 1, i, h => by
    have hi : i < l.length := by omega
    have hsp := congrArg List.length (encs_split l i hi)
    simp only [List.length_append] at hsp
    have h2 := hel _ (List.getElem_mem hi)
    have ih := bytes_l0 l hlen hll hel m (i + 1) (by omega)
    refine Evr.bump 1 (Evr.bind (g := fun k t => if (byL (108 :: encs (l.take i))).length + t.size < 140737488355328 then ploverref02_bytes.l0 k (byL (108 :: encs (l.take i)) ++ bytesOf t) ((i + 1 : Nat) : Int) 3 0 ⟨#[]⟩ (toSs l) else none) h2 (fun r hr => by
      subst hr
      refine Evr.congr ih (fun k => ?_)
      have hz : (⟨(enc l[i]).toArray⟩ : ByteArray).size = (enc l[i]).length := by show (enc l[i]).toArray.size = _; simp
      rw [if_pos (by rw [byL_length, hz]; simp only [List.length_cons]; omega), byL_of, ← byL_app, List.cons_append, ← encs_succ l i hi])) (fun k => ?_)
    simp only [ploverref02_bytes.l0]
    rw [if_pos (by rw [toSs_length]; omega), if_pos (by rw [byL_length]; simp only [List.length_cons]; omega), if_pos (by omega), rd_toSs l i hi, wrap_succ hi (by omega)]
theorem bytes_f : ∀ (d : Nat) (v : V), Good d v → (enc v).length ≤ 65000 → Evr (fun k => ploverref02_bytes.f k (toS v).f0 (toS v).f1 (toS v).f2 (toS v).f3) (fun r => r = ⟨(enc v).toArray⟩)
  | d, .num n, hg, hen => by
    cases hg with
    | num _ n hn =>
      have hb := itoa_length_le n (by omega) (by omega)
      rw [itoa_nonneg] at hb
      refine Evr.bump 1 (Evr.bind (g := fun _ t => if 1 + t.size ≤ 9223372036854775807 then (if ((⟨#[105]⟩ : ByteArray) ++ t).size + 1 ≤ 9223372036854775807 then some (((⟨#[105]⟩ : ByteArray) ++ t) ++ (⟨#[101]⟩ : ByteArray)) else none) else none) (digits_f n hn) (fun r hr => ?_)) (fun k => ?_)
      · subst hr
        have hz : (⟨(decDigits n).toArray⟩ : ByteArray).size = (decDigits n).length := by show (decDigits n).toArray.size = _; simp
        have hz1 : (⟨#[105]⟩ : ByteArray).size = 1 := rfl
        refine Evr.congr (g := fun _ => some ((⟨#[105]⟩ : ByteArray) ++ (⟨(decDigits n).toArray⟩ : ByteArray) ++ (⟨#[101]⟩ : ByteArray))) (Evr.some ?_) (fun k => ?_)
        · rw [enc]
          apply ByteArray.ext
          rw [ByteArray.data_append, ByteArray.data_append]
          simp
        · rw [if_pos (by omega), if_pos (by rw [ByteArray.size_append]; omega)]
      · simp [ploverref02_bytes.f, toS]
  | d, .str s, hg, _ => by cases hg
  | d, .list l, hg, hen => by
    cases hg with
    | list d l hl =>
      have hll := encs_len l hl
      rw [enc_list] at hen
      simp at hen
      have h1 := bytes_l0 l (by omega) (by omega) (fun x hx => by
        obtain ⟨i, hi, rfl⟩ := List.mem_iff_getElem.1 hx
        have hsp := congrArg List.length (encs_split l i hi)
        simp only [List.length_append] at hsp
        exact bytes_f d _ (hl _ hx) (by omega)) l.length 0 (by omega)
      refine Evr.bump 1 h1 (fun k => ?_)
      simp [ploverref02_bytes.f, toS, byL, encs]

/-! ### Put, Text -/
theorem rput_f (d : Nat) (v : V) (hd : d ≤ 8) (hg : Good d v) (hen : (enc v).length ≤ 65000) : Evr (fun k => ploverref02_Put.f k (toS v).f0 (toS v).f1 (toS v).f2 (toS v).f3) (fun r => r = (⟨(enc v).toArray⟩, 0)) := by
  refine Evr.bind (kinds_f d v hg (by omega)) (fun r hr => ?_)
  subst hr
  refine Evr.congr (Evr.bind (deep_f d v hd hg (by omega)) (g := fun k t => if t > 8 then some ((⟨#[]⟩ : ByteArray), (22 : Int)) else ((ploverref02_bytes.f k (toS v).f0 (toS v).f1 (toS v).f2 (toS v).f3).bind fun t204 => (if (t204.size : Int) > 65536 then (some ((⟨#[]⟩ : ByteArray), 23)) else (some (t204, 0))))) (fun r hr => ?_)) (fun k => if_pos rfl)
  refine Evr.congr (Evr.bind (bytes_f d v hg hen) (g := fun _ t => if (t.size : Int) > 65536 then (some ((⟨#[]⟩ : ByteArray), 23)) else (some (t, 0))) (fun r hr => ?_)) (fun k => if_neg (by omega))
  subst hr
  have hz : (⟨(enc v).toArray⟩ : ByteArray).size = (enc v).length := by show (enc v).toArray.size = _; simp
  exact Evr.congr (g := fun _ => some ((⟨(enc v).toArray⟩ : ByteArray), (0 : Int))) (Evr.some rfl) (fun k => if_neg (by rw [hz]; omega))
theorem rtext_l0 (ep : Int) (xs : List Int) (h : mayB ep xs = true) : ∀ (m i : Nat), i + m = xs.length →
    Evr (fun k => ploverref12_Text.l0 k (i : Int) ep xs 3 0 ⟨#[]⟩ (toSs ((xs.take i).map V.num))) (fun r => r = (chartT ep xs, 0))
  | 0, i, hi => by
    have e : xs.take i = xs := by rw [List.take_of_length_le (by omega)]
    rw [e]
    have h1 := rput_f 2 (chartV ep xs) (by omega) (chart_good ep xs h) (by have := chart_len ep xs h; omega)
    refine Evr.bump 1 (Evr.bind (g := fun _ t => some (t.1, t.2)) h1 (fun r hr => by subst hr; exact Evr.some rfl)) (fun k => ?_)
    simp only [ploverref12_Text.l0]
    rw [if_neg (by omega)]
    rfl
  | m + 1, i, hi => by
    have hx16 : xs.length ≤ 16 := by unfold mayB at h; simp at h; exact h.1.2.2.2
    have h1 := rtext_l0 ep xs h m (i + 1) (by omega)
    have hin : i < xs.length := by omega
    refine Evr.bump 1 h1 (fun k => ?_)
    simp only [ploverref12_Text.l0]
    have e : toSs ((xs.take (i + 1)).map V.num) = toSs ((xs.take i).map V.num) ++ [(⟨1, rd xs (i : Int), (⟨#[]⟩ : ByteArray), ([] : List (S36))⟩ : S36)] := by
      have ht : xs.take (i + 1) = xs.take i ++ [xs[i]] := (List.take_append_getElem hin).symm
      rw [ht, toSs_map, toSs_map, List.map_append, List.map_append, rd_nat, List.getD_eq_getElem?_getD, List.getElem?_eq_getElem hin]
      rfl
    rw [if_pos (by omega), if_pos (by omega), if_pos (by rw [toSs_length, List.length_map, List.length_take]; omega), wrap_succ hin (by omega), e]
theorem rtext_yes (ep : Int) (xs : List Int) (h : mayB ep xs = true) : Evr (fun k => ploverref12_Text.f k ep xs) (fun r => r = (chartT ep xs, 0)) := by
  have hx16 : xs.length ≤ 16 := by unfold mayB at h; simp at h; exact h.1.2.2.2
  refine Evr.bind (may_f ep xs (by omega)) (fun r hr => ?_)
  rw [h] at hr
  subst hr
  refine Evr.congr (rtext_l0 ep xs h xs.length 0 (by omega)) (fun k => ?_)
  rw [if_pos rfl]
  rfl
theorem rtext_no (ep : Int) (xs : List Int) (hm : xs.length ≤ 9223372036854775807) (h : mayB ep xs = false) : Evr (fun k => ploverref12_Text.f k ep xs) (fun r => r = (⟨#[]⟩, 1)) := by
  refine Evr.bind (may_f ep xs hm) (fun r hr => ?_)
  rw [h] at hr
  subst hr
  exact Evr.congr (g := fun _ => some ((⟨#[]⟩ : ByteArray), (1 : Int))) (Evr.some rfl) (fun k => if_neg (by decide))
end Go.Proofs.YtjhalgoondljgaaDoor.Re
