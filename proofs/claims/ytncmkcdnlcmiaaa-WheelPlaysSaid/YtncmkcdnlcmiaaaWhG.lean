/- WheelAgain's walk. -/
import Derived.Test.YtncmkcdnlcmiaaaWhL
namespace Go.Proofs.Ytncmkcdnlcmiaaa.Wh
open Go.RowKit Mb Go.Proofs.YtncmkcdnlcmiaaaW.PrintWords Go.Proofs.YtncmkcdnlcmiaaaW.PrintLast Go.Proofs.YtncmkcdnlcmiaaaW.PrintMore
set_option linter.unusedVariables false
set_option linter.unusedSimpArgs false

theorem toNat_dec (P : Prop) [Decidable P] : (decide P).toNat = if P then 1 else 0 := by by_cases h : P <;> simp [h]
def oneD (s : Int) (o : Bool) : Int → Option Int := fun x => if x = 7 ∧ o = true then some s else none
/-- A wheel with number 7 alone, that runs out at tick s, if that is to come yet. -/
structure One (W : World) (F : Nat → Prop) (p : Nat) (now s : Int) (c : Nat) : Prop where
  is : Whl W F p now (oneD s (decide (now + 1 ≤ s))) (decide (now + 1 ≤ s)).toNat c
structure OneTick (W : World) (F : Nat → Prop) (p : Nat) (now s : Int) (c : Nat) (e : Ending) (w' : World) : Prop where
  ret : ∃ Av cv, e = .returned (.slice Av (decide (now + 1 = s)).toNat cv)
  is : One w' F p (now + 1) s c
  turns : Turns F W w'
theorem one_tick {W : World} {F : Nat → Prop} {p : Nat} {now s : Int} {c : Nat} (h : One W F p now s c) (hnow : 0 ≤ now) (hnow' : now ≤ 1099511627776) (hc : c ≤ 1048576) :
    Calls Try.prog 11 #[.pointer (some ⟨p, 0, none⟩)] W (OneTick W F p now s c) := by
  have ho : IsOut (oneD s (decide (now + 1 ≤ s))) (now + 1) (if now + 1 = s then [7] else []) := by
    refine ⟨by split <;> simp, fun x => ?_⟩
    unfold oneD
    by_cases e : now + 1 = s
    · subst e; simp
    · simp [e]; omega
  refine (wtick_is h.is hnow hnow' hc _ ho).mono ?_
  rintro e w' ⟨⟨Av, cv, rfl, _⟩, h2, h3⟩
  have e1 : (if now + 1 = s then [(7 : Int)] else []).length = (decide (now + 1 = s)).toNat := by split <;> simp [*]
  rw [e1] at h2 ⊢
  refine ⟨⟨Av, cv, rfl⟩, ⟨?_⟩, h3⟩
  have e2 : tickD (oneD s (decide (now + 1 ≤ s))) (now + 1) = oneD s (decide (now + 1 + 1 ≤ s)) := by
    funext x
    unfold tickD oneD
    by_cases hx : x = 7 <;> by_cases h1 : now + 1 = s <;> by_cases h2 : now + 1 ≤ s <;> by_cases h3 : now + 1 + 1 ≤ s <;> simp [hx, h1, h2, h3] <;> omega
  have e3 : (decide (now + 1 ≤ s)).toNat - (decide (now + 1 = s)).toNat = (decide (now + 1 + 1 ≤ s)).toNat := by
    simp only [toNat_dec]
    split <;> split <;> split <;> omega
  rw [e2, e3] at h2
  exact h2


theorem wcancel {W : World} {F : Nat → Prop} {p : Nat} {now : Int} {D : Int → Option Int} {n c : Nat} (h : Whl W F p now D n c) (id : Int) (hw : (Lit.int .i64 id).wf = true) :
    Calls Try.prog 15 #[.pointer (some ⟨p, 0, none⟩), .int .i64 id] W fun e w' => e = .returned (.bool (D id).isSome) ∧ Whl w' F p now (upd D id none) (delN D id n) c ∧ Turns F W w' := by
  obtain ⟨A, hA, hI, hwf⟩ := h.ex
  refine (cancel_calls W F p now D n A c hA id hw).mono ?_
  rintro e w' ⟨rfl, h2, h3⟩
  refine ⟨rfl, ⟨A, h2, ⟨fun x t hx => ?_, hI.one⟩, hwf⟩, h3⟩
  unfold upd at hx
  split at hx
  · cases hx
  · exact hI.all x t hx

structure OneGone (W : World) (F : Nat → Prop) (p : Nat) (now s c : Int) (n : Nat) (e : Ending) (w' : World) : Prop where
  ret : e = .returned (.bool (decide (now + 1 ≤ s)))
  is : One w' F p now (now + c) n
  turns : Turns F W w'
theorem one_gone {W : World} {F : Nat → Prop} {p : Nat} {now s : Int} {c : Nat} (h : One W F p now s c) : Calls Try.prog 15 #[.pointer (some ⟨p, 0, none⟩), .int .i64 7] W (OneGone W F p now s 0 c) := by
  refine (wcancel h.is 7 (wf_of (by omega) (by omega))).mono ?_
  rintro e w' ⟨rfl, h2, h3⟩
  have e0 : (oneD s (decide (now + 1 ≤ s)) 7).isSome = decide (now + 1 ≤ s) := by unfold oneD; by_cases h : now + 1 ≤ s <;> simp [h]
  have e1 : upd (oneD s (decide (now + 1 ≤ s))) 7 none = oneD (now + 0) (decide (now + 1 ≤ now + 0)) := by
    funext x; unfold upd oneD
    rw [show decide (now + 1 ≤ now + 0) = false from decide_eq_false (by omega)]
    by_cases hx : x = 7 <;> simp [hx]
  have e2 : delN (oneD s (decide (now + 1 ≤ s))) 7 (decide (now + 1 ≤ s)).toNat = (decide (now + 1 ≤ now + 0)).toNat := by
    unfold delN
    rw [e0, show decide (now + 1 ≤ now + 0) = false from decide_eq_false (by omega)]
    by_cases h : now + 1 ≤ s <;> simp [h]
  rw [e1, e2] at h2
  exact ⟨by rw [e0], ⟨h2⟩, h3⟩
theorem one_set {W : World} {F : Nat → Prop} {p : Nat} {now s : Int} {c : Nat} (h : One W F p now s c) (k : Int) (h1 : 1 ≤ k) (h2 : k ≤ 64) (hnow : 0 ≤ now) (hnow' : now ≤ 1048576) (hc : c ≤ 1048576) :
    Calls Try.prog 10 #[.pointer (some ⟨p, 0, none⟩), .int .i64 7, .int .i64 k] W fun e w' => e = .returned (.int .i64 0) ∧ ∃ F', One w' F' p now (now + k) (c + 1) ∧ (∀ i, F' i → F i ∨ W.heap.size ≤ i) ∧ Turns F W w' := by
  have hn : (decide (now + 1 ≤ s)).toNat ≤ 1 := by rw [toNat_dec]; split <;> omega
  refine (wset h.is 7 k (wf_of (by omega) (by omega)) h1 (by omega) (.inr (by omega)) hnow (by omega) (by omega) hc).mono ?_
  rintro e w' ⟨rfl, ⟨F', h3, h4⟩, h5⟩
  refine ⟨rfl, F', ⟨?_⟩, h4, h5⟩
  have e0 : (oneD s (decide (now + 1 ≤ s)) 7).isSome = decide (now + 1 ≤ s) := by unfold oneD; by_cases h : now + 1 ≤ s <;> simp [h]
  have e1 : upd (oneD s (decide (now + 1 ≤ s))) 7 (some (now + k)) = oneD (now + k) (decide (now + 1 ≤ now + k)) := by
    funext x; unfold upd oneD
    rw [decide_eq_true (show now + 1 ≤ now + k by omega)]
    by_cases hx : x = 7 <;> simp [hx]
  have e2 : addN (oneD s (decide (now + 1 ≤ s))) 7 (decide (now + 1 ≤ s)).toNat = (decide (now + 1 ≤ now + k)).toNat := by
    unfold addN
    rw [e0, decide_eq_true (show now + 1 ≤ now + k by omega)]
    by_cases h : now + 1 ≤ s <;> simp [h]
  rw [e1, e2] at h3
  exact h3
theorem one_len {W : World} {F : Nat → Prop} {p : Nat} {now : Int} {c : Nat} (h : One W F p now (now + 0) c) : Calls Try.prog 12 #[.pointer (some ⟨p, 0, none⟩)] W fun e w' => e = .returned (.int .i64 0) ∧ W = w' := wlen h.is 0 (by rw [toNat_dec, if_neg (by omega)]; rfl)


set_option maxRecDepth 100000 in
set_option maxHeartbeats 1000000 in
theorem again_calls (w : World) (x0 x1 x2 : Int) (gone : Bool) : Calls Try.prog 6 #[.agg #[.int .i64 x0, .int .i64 x1, .int .i64 x2], .bool gone] w (Yes w) := by
  go_enter Try.func6, Try.ntmps6
  go_wp2_with fail
  have hb0 := below_alloc (Below.refl w.heap.size w) (.cells #[.int .i64 x0, .int .i64 x1, .int .i64 x2] 36)
  refine (wnew _).mono ?_
  rintro e W1 ⟨F, p, rfl, h1, hB, hb1⟩
  have q0 : W1.cell? ⟨w.heap.size, 0, none⟩ = some (.int .i64 x0) := pw_cell_below hb1 (by go_simp)
  have q1 : W1.cell? ⟨w.heap.size, 1, none⟩ = some (.int .i64 x1) := pw_cell_below hb1 (by go_simp)
  have q2 : W1.cell? ⟨w.heap.size, 2, none⟩ = some (.int .i64 x2) := pw_cell_below hb1 (by go_simp)
  have HW1 : Aside0 (One W1 F p 0 0 0) := ⟨⟨by rw [show oneD 0 (decide ((0 : Int) + 1 ≤ 0)) = fun _ => none by funext x; simp [oneD]]; exact h1⟩⟩
  have HM : Aside0 (Mine w W1 F) := ⟨⟨fun k hk => by have := hB k hk; have := hb0.size; omega, below_then hb0 hb0.size hb1⟩⟩
  clear h1 hB hb1 hb0
  go_upto_region 4 with fail
  go_quiet (fail)
  have ea : wrap64 (1 + x0 % 64) = 1 + x0 % 64 := by unfold wrap64; omega
  have ec : wrap64 (1 + x2 % 64) = 1 + x2 % 64 := by unfold wrap64; omega
  simp only [i64_and63 x0, i64_and63 x1, i64_and63 x2, ea, ec]
  obtain ⟨a, ha, ha1, ha2⟩ : ∃ a : Int, 1 + x0 % 64 = a ∧ 1 ≤ a ∧ a ≤ 64 := ⟨_, rfl, by omega, by omega⟩
  obtain ⟨m, hm, hm2⟩ : ∃ m : Nat, x1 % 64 = (m : Int) ∧ m ≤ 63 := ⟨(x1 % 64).toNat, by omega, by omega⟩
  obtain ⟨c, hc, hc1, hc2⟩ : ∃ a : Int, 1 + x2 % 64 = a ∧ 1 ≤ a ∧ a ≤ 64 := ⟨_, rfl, by omega, by omega⟩
  rw [ha, hm, hc]
  clear ea ec ha hm hc q0 q1 q2
  go_wp2_with fail
  refine (one_set ⟨HW1.out.is.drewN _⟩ a ha1 ha2 (by omega) (by omega) (by omega)).mono ?_
  rintro e W2 ⟨rfl, F2, h2, hF2, ht2⟩
  have HW2 : Aside0 (One W2 F2 p 0 a 1) := ⟨by rw [show a = 0 + a by omega]; exact h2⟩
  have HM2 : Aside0 (Mine w W2 F2) := ⟨Mine.set ⟨HM.out.young, pw_below_drewN HM.out.below _⟩ ht2 hF2⟩
  clear h2 hF2 ht2 HW1 HM
  go_wp2_with fail
  go_loopw [9] (fun i wr => ∃ k : Nat, k ≤ m ∧ i = .int .i64 (k + 1) ∧ Aside0 (One wr F2 p k a 1) ∧ Aside0 (Mine w wr F2)) (fun i _ => m + 1 - (intOf i).toNat)
  case atStart => exact ⟨0, by omega, rfl, HW2, HM2⟩
  case round =>
    clear HW2 HM2
    obtain ⟨k, hk, rfl, HW, HM⟩ := hrel
    by_cases hlt : k < m
    · have hlt' : (k : Int) + 1 ≤ (m : Int) := by omega
      go_wp2_with fail
      refine (one_tick HW.out (by omega) (by omega) (by omega)).mono ?_
      rintro e w' ⟨⟨Av, cv, rfl⟩, h2, h3⟩
      have HW2 := Aside0.mk h2
      have HM2 := Aside0.mk (HM.out.tick h3)
      clear h2 h3
      by_cases hka : (k : Int) + 1 = a
      · have g1 : ((k : Int) + 1 == a) = true := by rw [beq_iff_eq]; exact hka
        rw [decide_eq_true hka, Bool.toNat_true]
        clear hka
        go_wp2_with fail
        go_roundw
        case rel => exact ⟨k + 1, by omega, by go_num, HW2, HM2⟩
        case measure => simp [intOf]; omega
      · have g1 : ((k : Int) + 1 == a) = false := by rw [beq_eq_false_iff_ne]; exact hka
        rw [decide_eq_false hka, Bool.toNat_false]
        clear hka
        go_wp2_with fail
        go_roundw
        case rel => exact ⟨k + 1, by omega, by go_num, HW2, HM2⟩
        case measure => simp [intOf]; omega
    · have ek : k = m := by omega
      subst ek
      have hlt' : ¬ (k : Int) + 1 ≤ (k : Int) := by omega
      have hcase : gone = true ∨ gone = false := by cases gone <;> simp
      rcases hcase with rfl | rfl
      · go_wp2_with fail
        refine (one_gone HW.out).mono ?_
        rintro e w' ⟨rfl, h2, h3⟩
        have HW2 := Aside0.mk h2
        have HM2 := Aside0.mk (HM.out.tick h3)
        clear h2 h3
        have g2 : decide ((k : Int) + 1 ≤ a) = decide ((k : Int) < a) := by by_cases h : (k : Int) < a <;> simp [h] <;> omega
        rw [g2]
        clear g2
        go_wp2_with fail
        refine (one_len HW2.out).mono ?_
        rintro e w2 ⟨rfl, rfl⟩
        go_wp2_with fail
        go_loopw [11] (fun i wr => ∃ j : Nat, j ≤ 70 ∧ i = .int .i64 (j + 1) ∧ Aside0 (One wr F2 p ((k : Int) + j) ((k : Int) + 0) 1) ∧ Aside0 (Mine w wr F2)) (fun i _ => 71 - (intOf i).toNat)
        case atStart => exact ⟨0, by omega, rfl, ⟨by simpa using HW2.out⟩, HM2⟩
        case round =>
          clear HW2 HM2 HW HM
          obtain ⟨j, hj, rfl, HW, HM⟩ := hrel
          by_cases hlt2 : j < 70
          · have hlt3 : (j : Int) + 1 ≤ 70 := by omega
            go_wp2_with fail
            refine (one_tick HW.out (by omega) (by omega) (by omega)).mono ?_
            rintro e w' ⟨⟨Av, cv, rfl⟩, h2, h3⟩
            have HW2 := Aside0.mk h2
            have HM2 := Aside0.mk (HM.out.tick h3)
            clear h2 h3
            by_cases hka : (k : Int) + j + 1 = (k : Int) + 0
            · have g1 : ((j : Int) + 1 == 0) = true := by rw [beq_iff_eq]; omega
              rw [decide_eq_true hka, Bool.toNat_true]
              clear hka
              go_wp2_with fail
              go_roundw
              case rel => exact ⟨j + 1, by omega, by go_num, ⟨by have := HW2.out; rw [show ((k : Int) + ((j + 1 : Nat) : Int)) = (k : Int) + j + 1 by omega]; exact this⟩, HM2⟩
              case measure => simp [intOf]; omega
            · have g1 : ((j : Int) + 1 == 0) = false := by rw [beq_eq_false_iff_ne]; omega
              rw [decide_eq_false hka, Bool.toNat_false]
              clear hka
              go_wp2_with fail
              go_roundw
              case rel => exact ⟨j + 1, by omega, by go_num, ⟨by have := HW2.out; rw [show ((k : Int) + ((j + 1 : Nat) : Int)) = (k : Int) + j + 1 by omega]; exact this⟩, HM2⟩
              case measure => simp [intOf]; omega
          · have ej : j = 70 := by omega
            subst ej
            have hlt3 : ¬ ((70 : Nat) : Int) + 1 ≤ 70 := by omega
            go_wp2_with (go_at_call 13; refine (awake_calls _).mono ?_; rintro e w7 ⟨rfl, hb7⟩)
            go_ret
            exact ⟨rfl, below_then HM.out.below HM.out.below.size hb7⟩
      · go_wp2_with fail
        refine (one_set HW.out c hc1 hc2 (by omega) (by omega) (by omega)).mono ?_
        rintro e w' ⟨rfl, F3, h2, hF3, h3⟩
        have HW2 := Aside0.mk h2
        have HM2 := Aside0.mk (HM.out.set h3 hF3)
        clear h2 h3 hF3
        go_wp2_with fail
        go_loopw [11] (fun i wr => ∃ j : Nat, j ≤ 70 ∧ i = .int .i64 (j + 1) ∧ Aside0 (One wr F3 p ((k : Int) + j) ((k : Int) + c) (1 + 1)) ∧ Aside0 (Mine w wr F3)) (fun i _ => 71 - (intOf i).toNat)
        case atStart => exact ⟨0, by omega, rfl, ⟨by simpa using HW2.out⟩, HM2⟩
        case round =>
          clear HW2 HM2 HW HM
          obtain ⟨j, hj, rfl, HW, HM⟩ := hrel
          by_cases hlt2 : j < 70
          · have hlt3 : (j : Int) + 1 ≤ 70 := by omega
            go_wp2_with fail
            refine (one_tick HW.out (by omega) (by omega) (by omega)).mono ?_
            rintro e w' ⟨⟨Av, cv, rfl⟩, h2, h3⟩
            have HW2 := Aside0.mk h2
            have HM2 := Aside0.mk (HM.out.tick h3)
            clear h2 h3
            by_cases hka : (k : Int) + j + 1 = (k : Int) + c
            · have g1 : ((j : Int) + 1 == c) = true := by rw [beq_iff_eq]; omega
              rw [decide_eq_true hka, Bool.toNat_true]
              clear hka
              go_wp2_with fail
              go_roundw
              case rel => exact ⟨j + 1, by omega, by go_num, ⟨by have := HW2.out; rw [show ((k : Int) + ((j + 1 : Nat) : Int)) = (k : Int) + j + 1 by omega]; exact this⟩, HM2⟩
              case measure => simp [intOf]; omega
            · have g1 : ((j : Int) + 1 == c) = false := by rw [beq_eq_false_iff_ne]; omega
              rw [decide_eq_false hka, Bool.toNat_false]
              clear hka
              go_wp2_with fail
              go_roundw
              case rel => exact ⟨j + 1, by omega, by go_num, ⟨by have := HW2.out; rw [show ((k : Int) + ((j + 1 : Nat) : Int)) = (k : Int) + j + 1 by omega]; exact this⟩, HM2⟩
              case measure => simp [intOf]; omega
          · have ej : j = 70 := by omega
            subst ej
            have hlt3 : ¬ ((70 : Nat) : Int) + 1 ≤ 70 := by omega
            go_wp2_with (go_at_call 13; refine (awake_calls _).mono ?_; rintro e w7 ⟨rfl, hb7⟩)
            go_ret
            exact ⟨rfl, below_then HM.out.below HM.out.below.size hb7⟩


end Go.Proofs.Ytncmkcdnlcmiaaa.Wh
