/- How far two vectors are. -/
import Derived.Test.YtealiaafdkhonaaVa
namespace Go.Proofs.Ytealiaafdkhonaa.Vp
open Go.RowKit Go.Proofs.YtealiaafdkhonaaW.PrintWords Go.Proofs.YtealiaafdkhonaaW.PrintLast Go.Proofs.YtealiaafdkhonaaW.PrintMore
set_option linter.unusedVariables false
set_option linter.unusedSimpArgs false
attribute [local go_sem] max2_int max_two

theorem isV_len {xs : List Int} (h : isV xs = true) : 1 ≤ xs.length ∧ xs.length ≤ 16 := by
  unfold isV at h; simp at h; omega
theorem isV_range {xs : List Int} (h : isV xs = true) (k : Nat) (hk : k < xs.length) : -2147483648 ≤ rd xs (k : Int) ∧ rd xs (k : Int) ≤ 2147483647 := by
  have h2 : xs.any oddB = false := by unfold isV at h; rw [Bool.and_eq_true] at h; simpa using h.2
  rw [List.any_eq_false] at h2
  have e : rd xs (k : Int) = xs[k] := by unfold rd; rw [Int.toNat_natCast, List.getD_eq_getElem?_getD, List.getElem?_eq_getElem hk]; rfl
  have h3 := h2 _ (List.getElem_mem hk)
  rw [e]
  unfold oddB at h3
  simp at h3
  omega
def gap (x y : Int) : Int := if x - y < y - x then y - x else x - y
def distTo (a b : List Int) : Nat → Int
  | 0 => 0
  | k + 1 => distTo a b k + gap (rd a (k : Int)) (rd b (k : Int))
def distN (a b : List Int) : Int := distTo a b a.length
theorem distTo_range {a b : List Int} (ha : isV a = true) (hb : isV b = true) (hl : b.length = a.length) : ∀ k, k ≤ a.length → 0 ≤ distTo a b k ∧ distTo a b k ≤ (k : Int) * 4294967295
  | 0, _ => ⟨Int.le_refl _, by simp [distTo]⟩
  | k + 1, h => by
    have h1 := distTo_range ha hb hl k (by omega)
    have h2 := isV_range ha k (by omega)
    have h3 := isV_range hb k (by omega)
    have h4 : 0 ≤ gap (rd a (k : Int)) (rd b (k : Int)) ∧ gap (rd a (k : Int)) (rd b (k : Int)) ≤ 4294967295 := by unfold gap; split <;> omega
    show 0 ≤ distTo a b k + gap (rd a (k : Int)) (rd b (k : Int)) ∧ distTo a b k + gap (rd a (k : Int)) (rd b (k : Int)) ≤ ((k + 1 : Nat) : Int) * 4294967295
    omega

set_option maxRecDepth 100000 in
set_option maxHeartbeats 1000000 in
theorem distE_calls (A B : Option Addr) (c d : Nat) (a b : List Int) (w : World) (hA : Kd.C (Kd.int .i64) w A a.length a) (hB : Kd.C (Kd.int .i64) w B b.length b) (ha : isV a = true) (hb : isV b = true) (hl : b.length = a.length) :
    Calls Try.prog 51 #[.slice A a.length c, .slice B b.length d] w fun e w' => e = .returned (.tuple #[.int .i64 (distN a b), .int .i64 0]) ∧ Below w.heap.size w w' := by
  have HI := Aside0.mk (is_calls A c a w hA)
  have HC := Aside0.mk (check_calls B d b (a.length : Int) w hB)
  rw [ha] at HI
  rw [show ckV b (a.length : Int) = 0 from if_pos ⟨hb, by omega⟩] at HC
  have HA := Aside0.mk hA
  have HB := Aside0.mk hB
  have HVA := Aside0.mk ha
  have HVB := Aside0.mk hb
  have HL := Aside0.mk hl
  have hal := (isV_len ha).2
  clear hA hB ha hb hl
  go_enter Try.func51, Try.ntmps51
  go_wp2_with (first | (go_at_call 44; refine HI.out.mono ?_; rintro e w' ⟨rfl, rfl⟩) | (go_at_call 29; refine HC.out.mono ?_; rintro e w' ⟨rfl, rfl⟩))
  go_loopw [6, 21] (fun n i wr => ∃ (k : Nat) (s : Int), i = .int .i64 k ∧ n = .int .i64 s ∧ k ≤ a.length ∧ Aside0 (s = distTo a b k) ∧ Aside0 (Below w.heap.size w wr)) (fun _ i => fun _ => a.length - (intOf i).toNat)
  case atStart => exact ⟨0, 0, rfl, rfl, Nat.zero_le _, ⟨rfl⟩, ⟨Below.refl _ _⟩⟩
  case round =>
    obtain ⟨k, s, rfl, rfl, hk, HS, HBL⟩ := hrel
    by_cases hlt : k < a.length
    · have hlt' : (k : Int) < (a.length : Int) := by omega
      have hltb : (k : Int) < (b.length : Int) := by have := HL.out; omega
      have hk0 : (0 : Int) ≤ (k : Int) := by omega
      obtain ⟨ad, ea, hc⟩ := at_nat HA.out k hlt
      obtain ⟨ad2, ea2, hc2⟩ := at_nat HB.out k (by have := HL.out; omega)
      have r1 := isV_range HVA.out k hlt
      have r2 := isV_range HVB.out k (by have := HL.out; omega)
      have hs := distTo_range HVA.out HVB.out HL.out k hk
      rw [← HS.out] at hs
      have hsk : s ≤ 16 * 4294967295 := by omega
      have HN : Aside0 (distTo a b (k + 1) = s + gap (rd a (k : Int)) (rd b (k : Int))) := ⟨by rw [HS.out]; rfl⟩
      generalize rd a (k : Int) = x at *
      generalize rd b (k : Int) = y at *
      cases ea
      cases ea2
      replace hc := (HBL.out.cell (World.block_lt_of_cell? w _ hc)).trans hc
      replace hc2 := (HBL.out.cell (World.block_lt_of_cell? w _ hc2)).trans hc2
      obtain ⟨x1, x2⟩ := r1
      obtain ⟨y1, y2⟩ := r2
      obtain ⟨s1, _⟩ := hs
      by_cases hg : x - y < y - x
      · have HG : Aside0 (gap x y = y - x) := ⟨if_pos hg⟩
        go_wp2_with fail
        go_quiet (fail)
        go_wp2_with fail
        go_roundw
        case rel => exact ⟨k + 1, _, by go_num, rfl, by omega, ⟨by rw [HN.out, HG.out]⟩, ⟨pw_below_drewN HBL.out _⟩⟩
        case measure => simp [intOf]; omega
      · have HG : Aside0 (gap x y = x - y) := ⟨if_neg hg⟩
        go_wp2_with fail
        go_quiet (fail)
        go_wp2_with fail
        go_roundw
        case rel => exact ⟨k + 1, _, by go_num, rfl, by omega, ⟨by rw [HN.out, HG.out]⟩, ⟨pw_below_drewN HBL.out _⟩⟩
        case measure => simp [intOf]; omega
    · have ek : k = a.length := by omega
      subst ek
      have hlt' : ¬ (a.length : Int) < (a.length : Int) := by omega
      go_wp2_with fail
      go_ret2
      exact ⟨by rw [HS.out]; rfl, HBL.out⟩
theorem dist_calls (A B : Option Addr) (c d : Nat) (a b : List Int) (w : World) (hA : Kd.C (Kd.int .i64) w A a.length a) (hB : Kd.C (Kd.int .i64) w B b.length b) (ha : isV a = true) (hb : isV b = true) (hl : b.length = a.length) :
    Calls Try.prog 35 #[.slice A a.length c, .slice B b.length d] w fun e w' => e = .returned (.int .i64 (distN a b)) ∧ Below w.heap.size w w' := by
  have HD := Aside0.mk (distE_calls A B c d a b w hA hB ha hb hl)
  clear hA hB ha hb hl
  go_enter Try.func35, Try.ntmps35
  go_wp2_with (go_at_call 51; refine HD.out.mono ?_; rintro e w' ⟨rfl, hbw⟩)
  go_ret
  exact ⟨rfl, hbw⟩
end Go.Proofs.Ytealiaafdkhonaa.Vp
