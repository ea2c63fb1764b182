/- Several texts in one: Va, Vd. -/
import Derived.Test.YtealiaafdkhonaaX0
namespace Go.Proofs.Ytealiaafdkhonaa.Vp
open Go.RowKit Go.Proofs.YtealiaafdkhonaaW.PrintWords Go.Proofs.YtealiaafdkhonaaW.PrintLast Go.Proofs.YtealiaafdkhonaaW.PrintMore
set_option linter.unusedVariables false
set_option linter.unusedSimpArgs false

def oddB (n : Int) : Bool := decide (n < -2147483648 ∨ 2147483647 < n)
theorem odd_lo {n : Int} (h : n < -2147483648) : oddB n = true := by unfold oddB; exact decide_eq_true (by omega)
theorem odd_hi {n : Int} (h : 2147483647 < n) : oddB n = true := by unfold oddB; exact decide_eq_true (by omega)
theorem odd_no {n : Int} (h0 : ¬ n < -2147483648) (h : ¬ 2147483647 < n) : oddB n = false := by unfold oddB; exact decide_eq_false (by omega)

theorem ret_bool {a b : Bool} (h : a = b) : Ending.returned (.bool a) = .returned (.bool b) := by rw [h]
theorem ret_int {k : IntKind} {a b : Int} (h : a = b) : Ending.returned (.int k a) = .returned (.int k b) := by rw [h]

theorem odd_calls (n : Int) (w : World) : Calls Try.prog 58 #[.int .i64 n] w fun e w' => e = .returned (.bool (oddB n)) ∧ w = w' := by
  by_cases h0 : n < -2147483648
  · go_enter Try.func58, Try.ntmps58
    go_wp2
    go_ret
    exact ⟨ret_bool (odd_lo h0).symm, rfl⟩
  · by_cases h1 : 2147483647 < n
    · go_enter Try.func58, Try.ntmps58
      go_wp2
      go_ret
      exact ⟨ret_bool (odd_hi h1).symm, rfl⟩
    · go_enter Try.func58, Try.ntmps58
      go_wp2
      go_ret
      exact ⟨ret_bool (odd_no (by omega) (by omega)).symm, rfl⟩

theorem at_nat {w : World} {A : Option Addr} {n : Nat} {xs : List Int} {kd : IntKind} (h : Kd.C (Kd.int kd) w A n xs) (k : Nat) (hk : k < n) : ∃ ad, A = some ad ∧ w.cell? (ad.add k) = some (.int kd (rd xs (k : Int))) := by
  obtain ⟨ad, e, hc⟩ := Kd.at_int h (k : Int) (by omega) (by omega)
  exact ⟨ad, e, by simpa using hc⟩

def IxPost (xs : List Int) (w : World) (e : Ending) (w' : World) : Prop := ∃ r : Int, e = .returned (.int .i64 r) ∧ (decide (0 ≤ r) = xs.any oddB) ∧ w = w'

theorem any_none {xs : List Int} {k : Nat} (hk : k = xs.length) (h : ∀ j, j < k → oddB (rd xs (j : Int)) = false) : xs.any oddB = false := by
  rw [List.any_eq_false]
  intro x hx
  obtain ⟨i, hi, rfl⟩ := List.mem_iff_getElem.1 hx
  have := h i (by omega)
  unfold rd at this
  rw [Int.toNat_natCast, List.getD_eq_getElem?_getD, List.getElem?_eq_getElem hi] at this
  simpa using this

theorem any_some {xs : List Int} {k : Nat} (hk : k < xs.length) (h : oddB (rd xs (k : Int)) = true) : xs.any oddB = true := by
  rw [List.any_eq_true]
  refine ⟨rd xs (k : Int), ?_, h⟩
  unfold rd
  rw [Int.toNat_natCast, List.getD_eq_getElem?_getD, List.getElem?_eq_getElem hk]
  exact List.getElem_mem hk

set_option maxHeartbeats 400000 in
theorem idx_calls (A : Option Addr) (c : Nat) (xs : List Int) (w : World) (hr : Kd.C (Kd.int .i64) w A xs.length xs) (hx : xs.length ≤ 9223372036854775807) :
    Calls Try.prog 68 #[.slice A xs.length c, .func (.func 58) #[] #[]] w (IxPost xs w) := by
  have HR := Aside0.mk hr
  clear hr
  go_enter Try.func68, Try.ntmps68
  go_wp2
  go_loop [8] (fun i => ∃ k : Nat, k ≤ xs.length ∧ i = .int .i64 k ∧ Aside0 (∀ j, j < k → oddB (rd xs (j : Int)) = false)) (fun i => xs.length - (intOf i).toNat)
  case atStart => exact ⟨0, Nat.zero_le _, rfl, ⟨fun j hj => by omega⟩⟩
  case round =>
    obtain ⟨k, hk, rfl, hno⟩ := hrel
    by_cases hlt : k < xs.length
    · obtain ⟨ad, e1, hcell⟩ := at_nat HR.out k hlt
      cases e1
      go_wp2_with (go_at_call 58; refine (odd_calls _ _).mono ?_; rintro e w' ⟨rfl, rfl⟩)
      · go_ret
        exact ⟨_, rfl, by rw [any_some hlt (by assumption)]; simp, rfl⟩
      · go_round
        case rel => exact ⟨k + 1, by omega, by go_num, ⟨fun j hj => by
          by_cases e : j < k
          · exact hno.out j e
          · obtain rfl : j = k := by omega
            assumption⟩⟩
        case measure => simp [intOf]; omega
    · go_wp2
      go_ret
      exact ⟨_, rfl, by rw [any_none (k := k) (by omega) hno.out]; rfl, rfl⟩

theorem contains_calls (A : Option Addr) (c : Nat) (xs : List Int) (w : World) (hr : Kd.C (Kd.int .i64) w A xs.length xs) (hx : xs.length ≤ 9223372036854775807) :
    Calls Try.prog 59 #[.slice A xs.length c, .func (.func 58) #[] #[]] w fun e w' => e = .returned (.bool (xs.any oddB)) ∧ w = w' := by
  have HR := Aside0.mk hr
  clear hr
  go_enter Try.func59, Try.ntmps59
  go_wp2_with (go_at_call 68; refine (idx_calls A c xs _ HR.out hx).mono ?_; rintro e w' ⟨r, rfl, hq, rfl⟩; have HQ := Aside0.mk hq; clear hq)
  go_ret
  exact ⟨ret_bool HQ.out, rfl⟩


/-- Numbers that are a vector. -/
def isV (xs : List Int) : Bool := decide (1 ≤ xs.length ∧ xs.length ≤ 16) && !(xs.any oddB)
theorem is_calls (A : Option Addr) (c : Nat) (xs : List Int) (w : World) (hr : Kd.C (Kd.int .i64) w A xs.length xs) :
    Calls Try.prog 44 #[.slice A xs.length c] w fun e w' => e = .returned (.bool (isV xs)) ∧ w = w' := by
  have hx : xs.length ≤ 9223372036854775807 := hr.2.1
  have HR := Aside0.mk hr
  clear hr
  by_cases h1 : xs.length < 1
  · have hv : isV xs = false := by unfold isV; rw [decide_eq_false (by omega)]; rfl
    have h1' : ¬ (0 : Int) < (xs.length : Int) := by omega
    have HV := Aside0.mk hv
    clear hv
    go_enter Try.func44, Try.ntmps44
    go_wp2_with fail
    go_ret
    exact ⟨ret_bool HV.out.symm, rfl⟩
  by_cases h2 : 16 < xs.length
  · have hv : isV xs = false := by unfold isV; rw [decide_eq_false (by omega)]; rfl
    have h1' : (0 : Int) < (xs.length : Int) := by omega
    have h2' : ¬ (xs.length : Int) ≤ 16 := by omega
    have HV := Aside0.mk hv
    clear hv
    go_enter Try.func44, Try.ntmps44
    go_wp2_with fail
    go_ret
    exact ⟨ret_bool HV.out.symm, rfl⟩
  · have hv : isV xs = !(xs.any oddB) := by unfold isV; rw [decide_eq_true (by omega)]; rfl
    have h1' : (0 : Int) < (xs.length : Int) := by omega
    have h2' : (xs.length : Int) ≤ 16 := by omega
    have HV := Aside0.mk hv
    clear hv
    go_enter Try.func44, Try.ntmps44
    go_wp2_with (go_at_call 59; refine (contains_calls A c xs _ HR.out hx).mono ?_; rintro e w' ⟨rfl, rfl⟩)
    go_ret
    exact ⟨ret_bool HV.out.symm, rfl⟩
def ckV (xs : List Int) (dim : Int) : Int := if isV xs = true ∧ (xs.length : Int) = dim then 0 else 50
theorem check_calls (A : Option Addr) (c : Nat) (xs : List Int) (dim : Int) (w : World) (hr : Kd.C (Kd.int .i64) w A xs.length xs) :
    Calls Try.prog 29 #[.slice A xs.length c, .int .i64 dim] w fun e w' => e = .returned (.int .i64 (ckV xs dim)) ∧ w = w' := by
  have HI := Aside0.mk (is_calls A c xs w hr)
  clear hr
  by_cases h1 : isV xs = true
  · rw [h1] at HI
    by_cases h2 : (xs.length : Int) = dim
    · have HV := Aside0.mk (show ckV xs dim = 0 from if_pos ⟨h1, h2⟩)
      subst h2
      clear h1
      go_enter Try.func29, Try.ntmps29
      go_wp2_with (go_at_call 44; refine HI.out.mono ?_; rintro e w' ⟨rfl, rfl⟩)
      go_ret
      exact ⟨ret_int HV.out.symm, rfl⟩
    · have HV := Aside0.mk (show ckV xs dim = 50 from if_neg (fun h => h2 h.2))
      have h3 : ((xs.length : Int) != dim) = true := by simpa using h2
      clear h1 h2
      go_enter Try.func29, Try.ntmps29
      go_wp2_with (go_at_call 44; refine HI.out.mono ?_; rintro e w' ⟨rfl, rfl⟩)
      go_ret
      exact ⟨ret_int HV.out.symm, rfl⟩
  · have HV := Aside0.mk (show ckV xs dim = 50 from if_neg (fun h => h1 h.1))
    have h2 : isV xs = false := by simpa using h1
    rw [h2] at HI
    clear h1 h2
    go_enter Try.func29, Try.ntmps29
    go_wp2_with (go_at_call 44; refine HI.out.mono ?_; rintro e w' ⟨rfl, rfl⟩)
    go_ret
    exact ⟨ret_int HV.out.symm, rfl⟩
end Go.Proofs.Ytealiaafdkhonaa.Vp

namespace Go.Proofs.Ytealiaafdkhonaa.Vp
open Go.RowKit Go.Proofs.YtealiaafdkhonaaW.PrintWords Go.Proofs.YtealiaafdkhonaaW.PrintLast Go.Proofs.YtealiaafdkhonaaW.PrintMore
set_option linter.unusedVariables false
set_option linter.unusedSimpArgs false
attribute [local go_sem] max2_int max_two

theorem isV_len {xs : List Int} (h : isV xs = true) : 1 ≤ xs.length ∧ xs.length ≤ 16 := by
  unfold isV at h; simp at h; omega
theorem isV_range {xs : List Int} (h : isV xs = true) (k : Nat) (hk : k < xs.length) : -2147483648 ≤ rd xs (k : Int) ∧ rd xs (k : Int) ≤ 2147483647 := by
  have h2 : xs.any oddB = false := by unfold isV at h; rw [Bool.and_eq_true] at h; simpa using h.2
  rw [List.any_eq_false] at h2
  have e : rd xs (k : Int) = xs[k] := by unfold rd; rw [Int.toNat_natCast, List.getD_eq_getElem?_getD, List.getElem?_eq_getElem hk]; rfl
  have h3 := h2 _ (List.getElem_mem hk)
  rw [e]
  unfold oddB at h3
  simp at h3
  omega
def gap (x y : Int) : Int := if x - y < y - x then y - x else x - y
def distTo (a b : List Int) : Nat → Int
  | 0 => 0
  | k + 1 => distTo a b k + gap (rd a (k : Int)) (rd b (k : Int))
def distN (a b : List Int) : Int := distTo a b a.length
theorem distTo_range {a b : List Int} (ha : isV a = true) (hb : isV b = true) (hl : b.length = a.length) : ∀ k, k ≤ a.length → 0 ≤ distTo a b k ∧ distTo a b k ≤ (k : Int) * 4294967295
  | 0, _ => ⟨Int.le_refl _, by simp [distTo]⟩
  | k + 1, h => by
    have h1 := distTo_range ha hb hl k (by omega)
    have h2 := isV_range ha k (by omega)
    have h3 := isV_range hb k (by omega)
    have h4 : 0 ≤ gap (rd a (k : Int)) (rd b (k : Int)) ∧ gap (rd a (k : Int)) (rd b (k : Int)) ≤ 4294967295 := by unfold gap; split <;> omega
    show 0 ≤ distTo a b k + gap (rd a (k : Int)) (rd b (k : Int)) ∧ distTo a b k + gap (rd a (k : Int)) (rd b (k : Int)) ≤ ((k + 1 : Nat) : Int) * 4294967295
    omega

set_option maxRecDepth 100000 in
set_option maxHeartbeats 1000000 in
theorem distE_calls (A B : Option Addr) (c d : Nat) (a b : List Int) (w : World) (hA : Kd.C (Kd.int .i64) w A a.length a) (hB : Kd.C (Kd.int .i64) w B b.length b) (ha : isV a = true) (hb : isV b = true) (hl : b.length = a.length) :
    Calls Try.prog 51 #[.slice A a.length c, .slice B b.length d] w fun e w' => e = .returned (.tuple #[.int .i64 (distN a b), .int .i64 0]) ∧ Below w.heap.size w w' := by
  have HI := Aside0.mk (is_calls A c a w hA)
  have HC := Aside0.mk (check_calls B d b (a.length : Int) w hB)
  rw [ha] at HI
  rw [show ckV b (a.length : Int) = 0 from if_pos ⟨hb, by omega⟩] at HC
  have HA := Aside0.mk hA
  have HB := Aside0.mk hB
  have HVA := Aside0.mk ha
  have HVB := Aside0.mk hb
  have HL := Aside0.mk hl
  have hal := (isV_len ha).2
  clear hA hB ha hb hl
  go_enter Try.func51, Try.ntmps51
  go_wp2_with (first | (go_at_call 44; refine HI.out.mono ?_; rintro e w' ⟨rfl, rfl⟩) | (go_at_call 29; refine HC.out.mono ?_; rintro e w' ⟨rfl, rfl⟩))
  go_loopw [6, 21] (fun n i wr => ∃ (k : Nat) (s : Int), i = .int .i64 k ∧ n = .int .i64 s ∧ k ≤ a.length ∧ Aside0 (s = distTo a b k) ∧ Aside0 (Below w.heap.size w wr)) (fun _ i => fun _ => a.length - (intOf i).toNat)
  case atStart => exact ⟨0, 0, rfl, rfl, Nat.zero_le _, ⟨rfl⟩, ⟨Below.refl _ _⟩⟩
  case round =>
    obtain ⟨k, s, rfl, rfl, hk, HS, HBL⟩ := hrel
    by_cases hlt : k < a.length
    · have hlt' : (k : Int) < (a.length : Int) := by omega
      have hltb : (k : Int) < (b.length : Int) := by have := HL.out; omega
      have hk0 : (0 : Int) ≤ (k : Int) := by omega
      obtain ⟨ad, ea, hc⟩ := at_nat HA.out k hlt
      obtain ⟨ad2, ea2, hc2⟩ := at_nat HB.out k (by have := HL.out; omega)
      have r1 := isV_range HVA.out k hlt
      have r2 := isV_range HVB.out k (by have := HL.out; omega)
      have hs := distTo_range HVA.out HVB.out HL.out k hk
      rw [← HS.out] at hs
      have hsk : s ≤ 16 * 4294967295 := by omega
      have HN : Aside0 (distTo a b (k + 1) = s + gap (rd a (k : Int)) (rd b (k : Int))) := ⟨by rw [HS.out]; rfl⟩
      generalize rd a (k : Int) = x at *
      generalize rd b (k : Int) = y at *
      cases ea
      cases ea2
      replace hc := (HBL.out.cell (World.block_lt_of_cell? w _ hc)).trans hc
      replace hc2 := (HBL.out.cell (World.block_lt_of_cell? w _ hc2)).trans hc2
      obtain ⟨x1, x2⟩ := r1
      obtain ⟨y1, y2⟩ := r2
      obtain ⟨s1, _⟩ := hs
      by_cases hg : x - y < y - x
      · have HG : Aside0 (gap x y = y - x) := ⟨if_pos hg⟩
        go_wp2_with fail
        go_quiet (fail)
        go_wp2_with fail
        go_roundw
        case rel => exact ⟨k + 1, _, by go_num, rfl, by omega, ⟨by rw [HN.out, HG.out]⟩, ⟨pw_below_drewN HBL.out _⟩⟩
        case measure => simp [intOf]; omega
      · have HG : Aside0 (gap x y = x - y) := ⟨if_neg hg⟩
        go_wp2_with fail
        go_quiet (fail)
        go_wp2_with fail
        go_roundw
        case rel => exact ⟨k + 1, _, by go_num, rfl, by omega, ⟨by rw [HN.out, HG.out]⟩, ⟨pw_below_drewN HBL.out _⟩⟩
        case measure => simp [intOf]; omega
    · have ek : k = a.length := by omega
      subst ek
      have hlt' : ¬ (a.length : Int) < (a.length : Int) := by omega
      go_wp2_with fail
      go_ret2
      exact ⟨by rw [HS.out]; rfl, HBL.out⟩
theorem dist_calls (A B : Option Addr) (c d : Nat) (a b : List Int) (w : World) (hA : Kd.C (Kd.int .i64) w A a.length a) (hB : Kd.C (Kd.int .i64) w B b.length b) (ha : isV a = true) (hb : isV b = true) (hl : b.length = a.length) :
    Calls Try.prog 35 #[.slice A a.length c, .slice B b.length d] w fun e w' => e = .returned (.int .i64 (distN a b)) ∧ Below w.heap.size w w' := by
  have HD := Aside0.mk (distE_calls A B c d a b w hA hB ha hb hl)
  clear hA hB ha hb hl
  go_enter Try.func35, Try.ntmps35
  go_wp2_with (go_at_call 51; refine HD.out.mono ?_; rintro e w' ⟨rfl, hbw⟩)
  go_ret
  exact ⟨rfl, hbw⟩
end Go.Proofs.Ytealiaafdkhonaa.Vp
