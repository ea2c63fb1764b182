/- ChartBack's walk for whatever arguments. -/
import Derived.Test.YtahoeehjgbfhbaaBkA
namespace Go.Proofs.Ytahoeehjgbfhbaa.Ch
open Base Go.RowKit Go.Proofs.YtahoeehjgbfhbaaW.PrintWords Go.Proofs.YtahoeehjgbfhbaaW.PrintLast Go.Proofs.YtahoeehjgbfhbaaW.PrintMore
set_option linter.unusedVariables false
set_option linter.unusedSimpArgs false

theorem doneN_length (xs : List Int) (s : Nat) (n : Int) (hs : s < xs.length) : (doneN xs s n).length = xs.length := by
  unfold doneN; simp; omega

theorem doneN_set (xs : List Int) (s : Nat) (n : Int) (hs : s < xs.length) : doneN xs s n = xs.set s n := by
  unfold doneN
  rw [List.set_eq_take_append_cons_drop, if_pos hs]
  simp

theorem rd_set (xs : List Int) (s : Nat) (n : Int) (i : Nat) (hi : i < xs.length) : rd (xs.set s n) (i : Int) = if s = i then n else rd xs (i : Int) := by
  unfold rd
  rw [Int.toNat_natCast, List.getD_eq_getElem?_getD, List.getD_eq_getElem?_getD, List.getElem?_set]
  by_cases e : s = i
  · subst e; simp [hi]
  · simp [e]

theorem any_odd {xs : List Int} (h : xs.any oddB = false) (i : Nat) (hi : i < xs.length) : 0 ≤ rd xs (i : Int) ∧ rd xs (i : Int) < 8 := by
  rw [List.any_eq_false] at h
  have := h xs[i] (List.getElem_mem hi)
  unfold rd
  rw [Int.toNat_natCast, List.getD_eq_getElem?_getD, List.getElem?_eq_getElem hi]
  unfold oddB at this
  simp at this
  simpa using this

theorem ck_any {ep : Int} {xs : List Int} (h : ckI ep xs = 0) : xs.any oddB = false := by
  unfold ckI mayB at h
  cases e : xs.any oddB
  · rfl
  · rw [e] at h; simp at h

theorem set_any {xs : List Int} (h : xs.any oddB = false) (s : Nat) (n : Int) (hn : oddB n = false) : (xs.set s n).any oddB = false := by
  rw [List.any_eq_false] at *
  intro x hx
  rcases List.mem_or_eq_of_mem_set hx with h1 | rfl
  · exact h x h1
  · simp [hn]

theorem ck_done {ep : Int} {xs : List Int} (h : ckI ep xs = 0) (he : ep < 1099511627776) (s : Nat) (n : Int) (hs : s < xs.length) (h0 : 0 ≤ n) (h8 : n < 8) : ckI (ep + 1) (doneN xs s n) = 0 := by
  have b := ck_bounds h
  rw [doneN_set xs s n hs]
  exact (ck_yes (by rw [List.length_set]; omega) (set_any (ck_any h) s n (odd_no (by omega) (by omega)))).symm

theorem back_calls (ep : Int) (A : Option Addr) (c : Nat) (xs : List Int) (shard tn : Int) (w : World) (hr : Kd.C (Kd.int .i64) w A xs.length xs) (hcap : xs.length ≤ c) :
    Calls Try.prog 3 #[.agg #[.int .i64 ep, .slice A xs.length c], .int .i64 shard, .int .i64 tn] w (Yes w) := by
  have hx : xs.length ≤ 9223372036854775807 := hr.2.1
  rcases ck01 ep xs with hb | hb
  · exact back_early ep A c xs shard tn w hr hcap hx (.inl hb)
  by_cases he : 1099511627774 < ep
  · exact back_early ep A c xs shard tn w hr hcap hx (.inr he)
  have b := ck_bounds hb
  have e1 := i64_and255 shard
  have e2 := i64_and7 tn
  have p1 : 0 ≤ shard % 256 := by omega
  have p2 : shard % 256 ≤ 255 := by omega
  have p3 : 0 ≤ tn % 8 := by omega
  have p4 : tn % 8 < 8 := by omega
  generalize shard % 256 = sm at *
  generalize tn % 8 = n at *
  have m0 : 0 ≤ sm % (xs.length : Int) := Int.emod_nonneg _ (by omega)
  have m1 : sm % (xs.length : Int) < (xs.length : Int) := Int.emod_lt_of_pos _ (by omega)
  obtain ⟨s, e3⟩ := Int.eq_ofNat_of_zero_le m0
  have hs : s < xs.length := by omega
  have hf := any_odd (ck_any hb) s hs
  by_cases hn : n = rd xs (s : Int)
  · exact back_same ep A c xs shard tn s sm n w hr hcap hx hb (by omega) (by omega) e1 e2 e3 hs p1 p2 p3 p4 (by simpa using hn)
  · have hset := doneN_set xs s n hs
    refine back_goes ep A c xs shard tn s sm n w hr hcap hx hb (by omega) (by omega) e1 e2 e3 hs p1 p2 p3 p4 (by rw [beq_eq_false_iff_ne]; exact hn) (by rw [beq_eq_false_iff_ne]; exact fun h => hn h.symm)
      (ck_done hb (by omega) s n hs p3 p4) ?_ ?_ (doneN_length xs s n hs) hf.1 hf.2 ?_
    · rw [hset, rd_set xs s n s hs, if_pos rfl]
    · rw [doneN_set _ _ _ (by rw [doneN_length xs s n hs]; exact hs), hset, List.set_set]
      unfold rd
      rw [Int.toNat_natCast, List.getD_eq_getElem?_getD, List.getElem?_eq_getElem hs]
      exact List.set_getElem_self hs
    · intro i hi hne
      rw [hset, rd_set xs s n i hi, if_neg (Ne.symm hne)]

end Go.Proofs.Ytahoeehjgbfhbaa.Ch
