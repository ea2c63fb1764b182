/- The functions chart.Check$1, slices.IndexFunc, slices.ContainsFunc, chart.Check do what their Lean twins do. -/
import Derived.Test.YtjhalgoondljgaaDoorPChartTextsx0
namespace Go.Proofs.YtjhalgoondljgaaDoor.Ch
open Go.RowKit Go.Proofs.YtjhalgoondljgaaDoorW.PrintWords Go.Proofs.YtjhalgoondljgaaDoorW.PrintLast Go.Proofs.YtjhalgoondljgaaDoorW.PrintMore
set_option linter.unusedVariables false
set_option linter.unusedSimpArgs false

def oddB (n : Int) : Bool := decide (n < 0 ∨ 8 ≤ n)
theorem odd_lo {n : Int} (h : n < 0) : oddB n = true := by unfold oddB; simp [h]
theorem odd_hi {n : Int} (h : 8 ≤ n) : oddB n = true := by unfold oddB; simp [h]
theorem odd_no {n : Int} (h0 : ¬ n < 0) (h : ¬ 8 ≤ n) : oddB n = false := by unfold oddB; simp [h0, h]

theorem ret_bool {a b : Bool} (h : a = b) : Ending.returned (.bool a) = .returned (.bool b) := by rw [h]
theorem ret_int {k : IntKind} {a b : Int} (h : a = b) : Ending.returned (.int k a) = .returned (.int k b) := by rw [h]

theorem odd_calls (n : Int) (w : World) : Calls Tryd.prog 19 #[.int .i64 n] w fun e w' => e = .returned (.bool (oddB n)) ∧ w = w' := by
  by_cases h0 : n < 0
  · go_enter Tryd.func19, Tryd.ntmps19
    go_wp2
    go_ret
    exact ⟨ret_bool (odd_lo h0).symm, rfl⟩
  · by_cases h1 : 8 ≤ n
    · go_enter Tryd.func19, Tryd.ntmps19
      go_wp2
      go_ret
      exact ⟨ret_bool (odd_hi h1).symm, rfl⟩
    · go_enter Tryd.func19, Tryd.ntmps19
      go_wp2
      go_ret
      exact ⟨ret_bool (odd_no (by omega) (by omega)).symm, rfl⟩

theorem at_nat {w : World} {A : Option Addr} {n : Nat} {xs : List Int} {kd : IntKind} (h : Kd.C (Kd.int kd) w A n xs) (k : Nat) (hk : k < n) : ∃ ad, A = some ad ∧ w.cell? (ad.add k) = some (.int kd (rd xs (k : Int))) := by
  obtain ⟨ad, e, hc⟩ := Kd.at_int h (k : Int) (by omega) (by omega)
  exact ⟨ad, e, by simpa using hc⟩

def IxPost (xs : List Int) (w : World) (e : Ending) (w' : World) : Prop := ∃ r : Int, e = .returned (.int .i64 r) ∧ (decide (0 ≤ r) = xs.any oddB) ∧ w = w'

theorem any_none {xs : List Int} {k : Nat} (hk : k = xs.length) (h : ∀ j, j < k → oddB (rd xs (j : Int)) = false) : xs.any oddB = false := by
  rw [List.any_eq_false]
  intro x hx
  obtain ⟨i, hi, rfl⟩ := List.mem_iff_getElem.1 hx
  have := h i (by omega)
  unfold rd at this
  rw [Int.toNat_natCast, List.getD_eq_getElem?_getD, List.getElem?_eq_getElem hi] at this
  simpa using this

theorem any_some {xs : List Int} {k : Nat} (hk : k < xs.length) (h : oddB (rd xs (k : Int)) = true) : xs.any oddB = true := by
  rw [List.any_eq_true]
  refine ⟨rd xs (k : Int), ?_, h⟩
  unfold rd
  rw [Int.toNat_natCast, List.getD_eq_getElem?_getD, List.getElem?_eq_getElem hk]
  exact List.getElem_mem hk

set_option maxHeartbeats 400000 in
theorem idx_calls (A : Option Addr) (c : Nat) (xs : List Int) (w : World) (hr : Kd.C (Kd.int .i64) w A xs.length xs) (hx : xs.length ≤ 9223372036854775807) :
    Calls Tryd.prog 30 #[.slice A xs.length c, .func (.func 19) #[] #[]] w (IxPost xs w) := by
  have HR := Aside0.mk hr
  clear hr
  go_enter Tryd.func30, Tryd.ntmps30
  go_wp2
  go_loop [8] (fun i => ∃ k : Nat, k ≤ xs.length ∧ i = .int .i64 k ∧ Aside0 (∀ j, j < k → oddB (rd xs (j : Int)) = false)) (fun i => xs.length - (intOf i).toNat)
  case atStart => exact ⟨0, Nat.zero_le _, rfl, ⟨fun j hj => by omega⟩⟩
  case round =>
    obtain ⟨k, hk, rfl, hno⟩ := hrel
    by_cases hlt : k < xs.length
    · obtain ⟨ad, e1, hcell⟩ := at_nat HR.out k hlt
      cases e1
      go_wp2_with (go_at_call 19; refine (odd_calls _ _).mono ?_; rintro e w' ⟨rfl, rfl⟩)
      · go_ret
        exact ⟨_, rfl, by rw [any_some hlt (by assumption)]; simp, rfl⟩
      · go_round
        case rel => exact ⟨k + 1, by omega, by go_num, ⟨fun j hj => by
          by_cases e : j < k
          · exact hno.out j e
          · obtain rfl : j = k := by omega
            assumption⟩⟩
        case measure => simp [intOf]; omega
    · go_wp2
      go_ret
      exact ⟨_, rfl, by rw [any_none (k := k) (by omega) hno.out]; rfl, rfl⟩

theorem contains_calls (A : Option Addr) (c : Nat) (xs : List Int) (w : World) (hr : Kd.C (Kd.int .i64) w A xs.length xs) (hx : xs.length ≤ 9223372036854775807) :
    Calls Tryd.prog 20 #[.slice A xs.length c, .func (.func 19) #[] #[]] w fun e w' => e = .returned (.bool (xs.any oddB)) ∧ w = w' := by
  have HR := Aside0.mk hr
  clear hr
  go_enter Tryd.func20, Tryd.ntmps20
  go_wp2_with (go_at_call 30; refine (idx_calls A c xs _ HR.out hx).mono ?_; rintro e w' ⟨r, rfl, hq, rfl⟩; have HQ := Aside0.mk hq; clear hq)
  go_ret
  exact ⟨ret_bool HQ.out, rfl⟩

def mayB (ep : Int) (xs : List Int) : Bool := decide (1 ≤ ep ∧ ep ≤ 1099511627776 ∧ 1 ≤ xs.length ∧ xs.length ≤ 16) && !(xs.any oddB)
def ckI (ep : Int) (xs : List Int) : Int := if mayB ep xs = true then 0 else 1
theorem ck_no {ep : Int} {xs : List Int} (h : ¬ (1 ≤ ep ∧ ep ≤ 1099511627776 ∧ 1 ≤ xs.length ∧ xs.length ≤ 16)) : 1 = ckI ep xs := by
  unfold ckI mayB; simp [h]
theorem ck_odd {ep : Int} {xs : List Int} (h : xs.any oddB = true) : 1 = ckI ep xs := by
  unfold ckI mayB; simp [h]
theorem ck_yes {ep : Int} {xs : List Int} (h : (1 ≤ ep ∧ ep ≤ 1099511627776 ∧ 1 ≤ xs.length ∧ xs.length ≤ 16)) (g : xs.any oddB = false) : 0 = ckI ep xs := by
  unfold ckI mayB; simp [h, g]

set_option maxHeartbeats 400000 in
theorem check_calls (ep : Int) (A : Option Addr) (c : Nat) (xs : List Int) (w : World) (hr : Kd.C (Kd.int .i64) w A xs.length xs) (hx : xs.length ≤ 9223372036854775807) :
    Calls Tryd.prog 10 #[.agg #[.int .i64 ep, .slice A xs.length c]] w fun e w' => e = .returned (.int .i64 (ckI ep xs)) ∧ Below w.heap.size w w' := by
  have HR := Aside0.mk (Kd.C_below hr ((Below.refl _ w).alloc (Nat.le_refl _) (.cells #[.int .i64 ep, .slice A xs.length c] 24)))
  clear hr
  by_cases h1 : ep < 1
  · go_enter Tryd.func10, Tryd.ntmps10
    go_wp2_with fail
    go_ret
    exact ⟨ret_int (ck_no (by omega)), (Below.refl _ _).alloc (Nat.le_refl _) _⟩
  by_cases h2 : 1099511627776 < ep
  · go_enter Tryd.func10, Tryd.ntmps10
    go_wp2_with fail
    go_ret
    exact ⟨ret_int (ck_no (by omega)), (Below.refl _ _).alloc (Nat.le_refl _) _⟩
  by_cases h3 : xs.length < 1
  · go_enter Tryd.func10, Tryd.ntmps10
    go_wp2_with fail
    go_ret
    exact ⟨ret_int (ck_no (by omega)), (Below.refl _ _).alloc (Nat.le_refl _) _⟩
  by_cases h4 : 16 < xs.length
  · go_enter Tryd.func10, Tryd.ntmps10
    go_wp2_with fail
    go_ret
    exact ⟨ret_int (ck_no (by omega)), (Below.refl _ _).alloc (Nat.le_refl _) _⟩
  by_cases h5 : xs.any oddB = true
  · go_enter Tryd.func10, Tryd.ntmps10
    go_wp2_with (go_at_call 20; refine (contains_calls A c xs _ HR.out hx).mono ?_; rintro e w' ⟨rfl, rfl⟩)
    go_ret
    exact ⟨ret_int (ck_odd h5), (Below.refl _ _).alloc (Nat.le_refl _) _⟩
  · have h6 : xs.any oddB = false := by simpa using h5
    go_enter Tryd.func10, Tryd.ntmps10
    go_wp2_with (go_at_call 20; refine (contains_calls A c xs _ HR.out hx).mono ?_; rintro e w' ⟨rfl, rfl⟩)
    go_ret
    exact ⟨ret_int (ck_yes (by omega) h6), (Below.refl _ _).alloc (Nat.le_refl _) _⟩

end Go.Proofs.YtjhalgoondljgaaDoor.Ch
