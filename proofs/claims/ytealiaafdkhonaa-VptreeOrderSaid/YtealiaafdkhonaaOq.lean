/- In plain words: points put in in another order. -/
import Derived.Test.YtealiaafdkhonaaTw
namespace Go.Proofs.Ytealiaafdkhonaa.Vp
open Go.RowKit Go.Sort Mb Base Go.Proofs.YtealiaafdkhonaaW.PrintWords
set_option linter.unusedVariables false
set_option linter.unusedSimpArgs false
def wd16 (p : Int × Int) : List Int := [p.1 % 65536, p.2 % 65536]
def at16 (l : List (Int × Int)) (k : Nat) : List Int := wd16 (l.getD k (0, 0))
theorem at16_ok (l : List (Int × Int)) (k : Nat) : isV (at16 l k) = true ∧ (at16 l k).length = 2 := by
  refine ⟨?_, rfl⟩
  unfold at16 wd16 isV oddB
  simp
  omega
def rowsH (l : List (Int × Int)) (n : Nat) : List (Int × List Int) := (List.range n).map fun (k : Nat) => ((k : Int), at16 l k)
theorem rowsH_len (l : List (Int × Int)) (n : Nat) : (rowsH l n).length = n := by simp [rowsH]
theorem rowsH_lt {l : List (Int × Int)} {n : Nat} {p : Int × List Int} (hp : p ∈ rowsH l n) : ∃ k : Nat, k < n ∧ p = ((k : Int), at16 l k) := by
  obtain ⟨k, hk, rfl⟩ := List.mem_map.1 hp
  exact ⟨k, List.mem_range.1 hk, rfl⟩
theorem rowsH_look (l : List (Int × Int)) (n : Nat) : look (rowsH l n) (n : Int) = none := by
  cases h : look (rowsH l n) (n : Int) with
  | none => rfl
  | some v =>
    obtain ⟨k, hk, e⟩ := rowsH_lt (look_mem h)
    injection e with e1 _
    omega
theorem rowsH_put (l : List (Int × Int)) (n : Nat) : putL (n : Int) (at16 l n) (rowsH l n) = rowsH l (n + 1) := by
  rw [put_end]
  · unfold rowsH
    rw [List.range_succ, List.map_append]
    rfl
  · intro p hp
    obtain ⟨k, hk, rfl⟩ := rowsH_lt hp
    show (k : Int) < (n : Int)
    omega
theorem rowsH_rise (l : List (Int × Int)) (n : Nat) : Rising (rowsH l n) := by
  unfold rowsH Rising
  rw [List.pairwise_map]
  exact List.pairwise_lt_range.imp (fun h => by show (_ : Int) < _; omega)
/-- Those that were put in so far: turned by t. -/
structure OrdB (l : List (Int × Int)) (n t i : Nat) (L : List (Int × List Int)) : Prop where
  len : L.length ≤ i
  has : ∀ x v, look L x = some v → ∃ j, j < i ∧ x = (((j + t) % n : Nat) : Int) ∧ v = at16 l ((j + t) % n)
  all : ∀ j, j < i → look L (((j + t) % n : Nat) : Int) = some (at16 l ((j + t) % n))
theorem OrdB.start (l : List (Int × Int)) (n t : Nat) : OrdB l n t 0 [] := ⟨Nat.le_refl _, fun x v h => (by rw [look_nil] at h; cases h), fun j hj => by omega⟩
theorem OrdB.step {l : List (Int × Int)} {n t i k : Nat} {L : List (Int × List Int)} (h : OrdB l n t i L) (hr : Rising L) (hk : (i + t) % n = k) : OrdB l n t (i + 1) (putL (k : Int) (at16 l k) L) := by
  subst hk
  refine ⟨?_, fun x v hx => ?_, fun j hj => ?_⟩
  · rw [put_len _ _ _ hr]
    have := h.len
    split <;> omega
  · rw [look_put] at hx
    by_cases e : x = (((i + t) % n : Nat) : Int)
    · rw [if_pos e] at hx
      exact ⟨i, by omega, e, (Option.some.inj hx).symm⟩
    · rw [if_neg e] at hx
      obtain ⟨j, h1, h2, h3⟩ := h.has x v hx
      exact ⟨j, by omega, h2, h3⟩
  · rw [look_put]
    by_cases e : (j + t) % n = (i + t) % n
    · rw [if_pos (by rw [e]), e]
    · rw [if_neg (by omega)]
      refine h.all j ?_
      by_cases e2 : j = i
      · subst e2; exact absurd rfl e
      · omega
theorem turn_back {n t k : Nat} (hk : k < n) : ∃ j, j < n ∧ (j + t) % n = k := by
  refine ⟨(k + (n - t % n)) % n, Nat.mod_lt _ (by omega), ?_⟩
  have h1 : t % n < n := Nat.mod_lt _ (by omega)
  have h2 := Nat.div_add_mod t n
  rw [Nat.mod_add_mod]
  have e : k + (n - t % n) + t = k + n * (1 + t / n) := by
    rw [Nat.mul_add, Nat.mul_one]
    omega
  rw [e, Nat.add_mul_mod_self_left, Nat.mod_eq_of_lt hk]
theorem OrdB.done {l : List (Int × Int)} {n t : Nat} {L : List (Int × List Int)} (h : OrdB l n t n L) (hr : Rising L) : L = rowsH l n := by
  refine rising_ext hr (rowsH_rise l n) (fun x => ?_)
  cases e : look L x with
  | some v =>
    obtain ⟨j, h1, rfl, rfl⟩ := h.has x v e
    exact (look_of_mem (rowsH_rise l n) (List.mem_map.2 ⟨(j + t) % n, List.mem_range.2 (Nat.mod_lt _ (by omega)), rfl⟩)).symm
  | none =>
    cases e2 : look (rowsH l n) x with
    | none => rfl
    | some v =>
      obtain ⟨k, hk, e3⟩ := rowsH_lt (look_mem e2)
      injection e3 with e3 _
      subst e3
      obtain ⟨j, hj, e4⟩ := turn_back (t := t) hk
      have := h.all j hj
      rw [e4, e] at this
      cases this
theorem i64_and65535 (n : Int) : bits .and .i64 n 65535 = n % 65536 := by
  have hm : (BitVec.ofInt 64 65535).toNat = 2 ^ 16 - 1 := by decide
  have key : (BitVec.ofInt 64 n &&& BitVec.ofInt 64 65535).toNat = (n % ((2 ^ 64 : Nat) : Int)).toNat % 2 ^ 16 := by
    rw [BitVec.toNat_and, BitVec.toNat_ofInt, hm, Nat.and_two_pow_sub_one_eq_mod]
  show IntKind.i64.wrap ((BitVec.ofInt 64 n &&& BitVec.ofInt 64 65535).toNat : Nat) = n % 65536
  rw [key, IntKind.wrap_i64]
  omega
end Go.Proofs.Ytealiaafdkhonaa.Vp
