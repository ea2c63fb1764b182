-- PRINTED BY print.sh 35421559b90ae4d0a3588c463048766b98c2df88dd9212a6774a882060cdf62d: not written by this session
import Derived.Test.YtjhalgoondljgaaDoorPChartTextsx0
namespace Go.Proofs.YtjhalgoondljgaaDoor.PChartTexts
open Go.RowKit Go.Proofs.YtjhalgoondljgaaDoorW.PrintWords Go.Proofs.YtjhalgoondljgaaDoorW.PrintLast Go.Proofs.YtjhalgoondljgaaDoorW.PrintMore
attribute [local go_sem] max2_int min2_int max_two min_two max_three min_three max_four min_four   -- for this text's walks alone
set_option linter.unusedVariables false
set_option linter.unusedSimpArgs false

/-! ### ploverref02_number: function 43 -/
mutual
def ploverref02_number.j0 : Nat → ByteArray → Int → Int → Bool → Option (Int × Int × Int)
  | 0, _, _, _, _ => none
  | k + 1, x0, x5, x6, x18 => if x18 = true then (ploverref02_number.j1 k x0 1 (-1)) else (ploverref02_number.j1 k x0 x5 x6)
def ploverref02_number.j1 : Nat → ByteArray → Int → Int → Option (Int × Int × Int)
  | 0, _, _, _ => none
  | k + 1, x0, x5, x6 => ploverref02_number.l0 k x0 x5 x6 x5 0
def ploverref02_number.l0 : Nat → ByteArray → Int → Int → Int → Int → Option (Int × Int × Int)
  | 0, _, _, _, _, _ => none
  | k + 1, x0, x5, x6, x7, x8 => if x5 = (x0.size : Int) then (some (0, 0, 21)) else (if 0 ≤ x5 then (if x5 < (x0.size : Int) then (if (bt x0 x5) = 101 then (ploverref02_number.j3 k x0 x5 x6 x7 x8 (bt x0 x5) (decide (x5 > x7))) else (ploverref02_number.j3 k x0 x5 x6 x7 x8 (bt x0 x5) false)) else (none)) else (none))
def ploverref02_number.j3 : Nat → ByteArray → Int → Int → Int → Int → Int → Bool → Option (Int × Int × Int)
  | 0, _, _, _, _, _, _, _ => none
  | k + 1, x0, x5, x6, x7, x8, x9, x33 => if x33 = true then (some (x8, wrap64 (x5 + 1), 0)) else (if x9 < 48 then (ploverref02_number.j4 k x0 x5 x6 x7 x8 x9 true) else (if x9 > 57 then (ploverref02_number.j4 k x0 x5 x6 x7 x8 x9 true) else (if x5 = x7 then (if x9 = 48 then (if x6 < 0 then (ploverref02_number.j4 k x0 x5 x6 x7 x8 x9 true) else (if x5 > x7 then (if 0 ≤ x7 then (if x7 < (x0.size : Int) then (ploverref02_number.j4 k x0 x5 x6 x7 x8 x9 ((bt x0 x7) == 48)) else (none)) else (none)) else (ploverref02_number.j4 k x0 x5 x6 x7 x8 x9 false))) else (if x5 > x7 then (if 0 ≤ x7 then (if x7 < (x0.size : Int) then (ploverref02_number.j4 k x0 x5 x6 x7 x8 x9 ((bt x0 x7) == 48)) else (none)) else (none)) else (ploverref02_number.j4 k x0 x5 x6 x7 x8 x9 false))) else (if x5 > x7 then (if 0 ≤ x7 then (if x7 < (x0.size : Int) then (ploverref02_number.j4 k x0 x5 x6 x7 x8 x9 ((bt x0 x7) == 48)) else (none)) else (none)) else (ploverref02_number.j4 k x0 x5 x6 x7 x8 x9 false)))))
def ploverref02_number.j4 : Nat → ByteArray → Int → Int → Int → Int → Int → Bool → Option (Int × Int × Int)
  | 0, _, _, _, _, _, _, _ => none
  | k + 1, x0, x5, x6, x7, x8, x9, x66 => if x66 = true then (some (0, 0, 20)) else (if x8 > 922337203685477580 then (some (0, 0, 20)) else (if x8 < (-922337203685477580) then (some (0, 0, 20)) else (if x6 > 0 then (if (wrap64 (10 * x8)) > (wrap64 (9223372036854775807 - (wrap64 (x6 * ((x9 - 48) % 256))))) then (some (0, 0, 20)) else (if x6 < 0 then (if (wrap64 (10 * x8)) < (wrap64 ((-9223372036854775808) - (wrap64 (x6 * ((x9 - 48) % 256))))) then (some (0, 0, 20)) else (ploverref02_number.l0 k x0 (wrap64 (x5 + 1)) x6 x7 (wrap64 ((wrap64 (10 * x8)) + (wrap64 (x6 * ((x9 - 48) % 256))))))) else (ploverref02_number.l0 k x0 (wrap64 (x5 + 1)) x6 x7 (wrap64 ((wrap64 (10 * x8)) + (wrap64 (x6 * ((x9 - 48) % 256)))))))) else (if x6 < 0 then (if (wrap64 (10 * x8)) < (wrap64 ((-9223372036854775808) - (wrap64 (x6 * ((x9 - 48) % 256))))) then (some (0, 0, 20)) else (ploverref02_number.l0 k x0 (wrap64 (x5 + 1)) x6 x7 (wrap64 ((wrap64 (10 * x8)) + (wrap64 (x6 * ((x9 - 48) % 256))))))) else (ploverref02_number.l0 k x0 (wrap64 (x5 + 1)) x6 x7 (wrap64 ((wrap64 (10 * x8)) + (wrap64 (x6 * ((x9 - 48) % 256))))))))))
end
def ploverref02_number.f (k : Nat) (a0 : ByteArray) : Option (Int × Int × Int) := if (a0.size : Int) > 0 then (if 0 < (a0.size : Int) then (ploverref02_number.j0 k a0 0 1 ((bt a0 0) == 45)) else (none)) else (ploverref02_number.j0 k a0 0 1 false)
theorem ploverref02_number.mono_l : ∀ k, (∀ y0 y1 y2 y3, LeO (ploverref02_number.j0 k y0 y1 y2 y3) (ploverref02_number.j0 (k + 1) y0 y1 y2 y3)) ∧ (∀ y0 y1 y2, LeO (ploverref02_number.j1 k y0 y1 y2) (ploverref02_number.j1 (k + 1) y0 y1 y2)) ∧ (∀ y0 y1 y2 y3 y4, LeO (ploverref02_number.l0 k y0 y1 y2 y3 y4) (ploverref02_number.l0 (k + 1) y0 y1 y2 y3 y4)) ∧ (∀ y0 y1 y2 y3 y4 y5 y6, LeO (ploverref02_number.j3 k y0 y1 y2 y3 y4 y5 y6) (ploverref02_number.j3 (k + 1) y0 y1 y2 y3 y4 y5 y6)) ∧ (∀ y0 y1 y2 y3 y4 y5 y6, LeO (ploverref02_number.j4 k y0 y1 y2 y3 y4 y5 y6) (ploverref02_number.j4 (k + 1) y0 y1 y2 y3 y4 y5 y6))
  | 0 => ⟨fun _ _ _ _ r h => by simp [ploverref02_number.j0] at h, fun _ _ _ r h => by simp [ploverref02_number.j1] at h, fun _ _ _ _ _ r h => by simp [ploverref02_number.l0] at h, fun _ _ _ _ _ _ _ r h => by simp [ploverref02_number.j3] at h, fun _ _ _ _ _ _ _ r h => by simp [ploverref02_number.j4] at h⟩
  | k + 1 => by
    obtain ⟨ih0, ih1, ih2, ih3, ih4⟩ := ploverref02_number.mono_l k
    refine ⟨?_, ?_, ?_, ?_, ?_⟩
    · intro y0 y1 y2 y3
      unfold ploverref02_number.j0
      repeat' first
      | (with_reducible exact ih0 _ _ _ _)
      | (with_reducible exact ih1 _ _ _)
      | (with_reducible exact ih2 _ _ _ _ _)
      | (with_reducible exact ih3 _ _ _ _ _ _ _)
      | (with_reducible exact ih4 _ _ _ _ _ _ _)
      | (with_reducible exact LeO.refl _)
      | (with_reducible exact LeO.none _)
      | (with_reducible refine LeO.ite ?_ ?_)
      | (with_reducible refine LeO.bind ?_ (fun _ => ?_))
      | exact ih0 _ _ _ _
      | exact ih1 _ _ _
      | exact ih2 _ _ _ _ _
      | exact ih3 _ _ _ _ _ _ _
      | exact ih4 _ _ _ _ _ _ _
      | exact LeO.none _
      | refine LeO.ite ?_ ?_
      | refine LeO.bind ?_ (fun _ => ?_)
    · intro y0 y1 y2
      unfold ploverref02_number.j1
      repeat' first
      | (with_reducible exact ih0 _ _ _ _)
      | (with_reducible exact ih1 _ _ _)
      | (with_reducible exact ih2 _ _ _ _ _)
      | (with_reducible exact ih3 _ _ _ _ _ _ _)
      | (with_reducible exact ih4 _ _ _ _ _ _ _)
      | (with_reducible exact LeO.refl _)
      | (with_reducible exact LeO.none _)
      | (with_reducible refine LeO.ite ?_ ?_)
      | (with_reducible refine LeO.bind ?_ (fun _ => ?_))
      | exact ih0 _ _ _ _
      | exact ih1 _ _ _
      | exact ih2 _ _ _ _ _
      | exact ih3 _ _ _ _ _ _ _
      | exact ih4 _ _ _ _ _ _ _
      | exact LeO.none _
      | refine LeO.ite ?_ ?_
      | refine LeO.bind ?_ (fun _ => ?_)
    · intro y0 y1 y2 y3 y4
      unfold ploverref02_number.l0
      repeat' first
      | (with_reducible exact ih0 _ _ _ _)
      | (with_reducible exact ih1 _ _ _)
      | (with_reducible exact ih2 _ _ _ _ _)
      | (with_reducible exact ih3 _ _ _ _ _ _ _)
      | (with_reducible exact ih4 _ _ _ _ _ _ _)
      | (with_reducible exact LeO.refl _)
      | (with_reducible exact LeO.none _)
      | (with_reducible refine LeO.ite ?_ ?_)
      | (with_reducible refine LeO.bind ?_ (fun _ => ?_))
      | exact ih0 _ _ _ _
      | exact ih1 _ _ _
      | exact ih2 _ _ _ _ _
      | exact ih3 _ _ _ _ _ _ _
      | exact ih4 _ _ _ _ _ _ _
      | exact LeO.none _
      | refine LeO.ite ?_ ?_
      | refine LeO.bind ?_ (fun _ => ?_)
    · intro y0 y1 y2 y3 y4 y5 y6
      unfold ploverref02_number.j3
      repeat' first
      | (with_reducible exact ih0 _ _ _ _)
      | (with_reducible exact ih1 _ _ _)
      | (with_reducible exact ih2 _ _ _ _ _)
      | (with_reducible exact ih3 _ _ _ _ _ _ _)
      | (with_reducible exact ih4 _ _ _ _ _ _ _)
      | (with_reducible exact LeO.refl _)
      | (with_reducible exact LeO.none _)
      | (with_reducible refine LeO.ite ?_ ?_)
      | (with_reducible refine LeO.bind ?_ (fun _ => ?_))
      | exact ih0 _ _ _ _
      | exact ih1 _ _ _
      | exact ih2 _ _ _ _ _
      | exact ih3 _ _ _ _ _ _ _
      | exact ih4 _ _ _ _ _ _ _
      | exact LeO.none _
      | refine LeO.ite ?_ ?_
      | refine LeO.bind ?_ (fun _ => ?_)
    · intro y0 y1 y2 y3 y4 y5 y6
      unfold ploverref02_number.j4
      repeat' first
      | (with_reducible exact ih0 _ _ _ _)
      | (with_reducible exact ih1 _ _ _)
      | (with_reducible exact ih2 _ _ _ _ _)
      | (with_reducible exact ih3 _ _ _ _ _ _ _)
      | (with_reducible exact ih4 _ _ _ _ _ _ _)
      | (with_reducible exact LeO.refl _)
      | (with_reducible exact LeO.none _)
      | (with_reducible refine LeO.ite ?_ ?_)
      | (with_reducible refine LeO.bind ?_ (fun _ => ?_))
      | exact ih0 _ _ _ _
      | exact ih1 _ _ _
      | exact ih2 _ _ _ _ _
      | exact ih3 _ _ _ _ _ _ _
      | exact ih4 _ _ _ _ _ _ _
      | exact LeO.none _
      | refine LeO.ite ?_ ?_
      | refine LeO.bind ?_ (fun _ => ?_)
theorem ploverref02_number.mono : ∀ a0 k, LeO (ploverref02_number.f k a0) (ploverref02_number.f (k + 1) a0) := by
  intro a0 k
  obtain ⟨ih0, ih1, ih2, ih3, ih4⟩ := ploverref02_number.mono_l k
  unfold ploverref02_number.f
  repeat' first
      | (with_reducible exact ih0 _ _ _ _)
      | (with_reducible exact ih1 _ _ _)
      | (with_reducible exact ih2 _ _ _ _ _)
      | (with_reducible exact ih3 _ _ _ _ _ _ _)
      | (with_reducible exact ih4 _ _ _ _ _ _ _)
      | (with_reducible exact LeO.refl _)
      | (with_reducible exact LeO.none _)
      | (with_reducible refine LeO.ite ?_ ?_)
      | (with_reducible refine LeO.bind ?_ (fun _ => ?_))
      | exact ih0 _ _ _ _
      | exact ih1 _ _ _
      | exact ih2 _ _ _ _ _
      | exact ih3 _ _ _ _ _ _ _
      | exact ih4 _ _ _ _ _ _ _
      | exact LeO.none _
      | refine LeO.ite ?_ ?_
      | refine LeO.bind ?_ (fun _ => ?_)
set_option maxHeartbeats 8000000 in
set_option maxRecDepth 100000 in
theorem ploverref02_number.calls (k : Nat) (a0 : ByteArray) (r1 : Int) (r2 : Int) (r3 : Int) (w : World) (h : ploverref02_number.f k a0 = some (r1, r2, r3)) :
    Calls Tryd.prog 43 #[.string a0] w fun e w' => e = .returned (.tuple #[.int .i64 r1, .int .i64 r2, .int .i64 r3]) ∧ Drawn0 w w' := by
  have H : (if (a0.size : Int) > 0 then (if 0 < (a0.size : Int) then (ploverref02_number.j0 k a0 0 1 ((bt a0 0) == 45)) else (none)) else (ploverref02_number.j0 k a0 0 1 false)) = some (r1, r2, r3) := h
  clear h
  have HC2 := Aside0.mk H
  clear H
  go_enter Tryd.func43, Tryd.ntmps43
  go_upto_region 3 with (fail)
  go_cut [18] (fun v18 wc => ∃ (kq : Nat) (x18_1 : Bool), v18 = .bool x18_1 ∧ Aside0 (ploverref02_number.j0 kq a0 0 1 x18_1 = some (r1, r2, r3)) ∧ Aside0 (kq ≤ k) ∧ Drawn0 w wc)
  case first =>
    have H := HC2.out
    clear HC2
    by_cases c3 : (a0.size : Int) > 0
    · rw [if_pos c3] at H
      have c3b0 : decide (0 < (a0.size : Int)) = true := decide_eq_true c3
      have c3b1 : decide (0 < a0.size) = true := decide_eq_true (by omega)
      clear c3
      (first | rw [c3b0] | (simp only [i64_w, i32_w]; rw [c3b0]) | skip)
      by_cases c4 : 0 < (a0.size : Int)
      · rw [if_pos c4] at H
        have c4b0 : decide (0 < (a0.size : Int)) = true := decide_eq_true c4
        have c4b1 : decide (0 < a0.size) = true := decide_eq_true (by omega)
        clear c4
        have H' := Aside0.mk H
        clear H
        have p5 : 0 ≤ (0 : Int) := (by omega)
        have q5 : 0 < a0.size := (by have : (0 : Int) < (a0.size : Int) := of_decide_eq_true (by first | (with_reducible assumption) | assumption); omega)
        have hx5 : ∀ h : 0 < a0.size, ((a0[0]'h).toNat : Int) = bt a0 0 := bt_at a0 0
        clear p5
        have qi5 : (0 < (a0.size : Int)) = True := eq_true (of_decide_eq_true (by first | (with_reducible assumption) | assumption))
        replace q5 := eq_true q5
        go_wp2
        go_meet
        case rel => exact ⟨_, (((bt a0 0) == 45)), (by first | rfl | (simp; done) | (simp [*]; done)), H', ⟨by first | omega | exact Nat.le_refl _⟩, by repeat (first | exact Drawn0.refl _ | apply Drawn0.step)⟩
      · rw [if_neg c4] at H
        exact absurd H (by simp)
    · rw [if_neg c3] at H
      have c3b0 : decide (0 < (a0.size : Int)) = false := decide_eq_false c3
      have c3b1 : decide (0 < a0.size) = false := decide_eq_false (by omega)
      clear c3
      (first | rw [c3b0] | (simp only [i64_w, i32_w]; rw [c3b0]) | skip)
      have H' := Aside0.mk H
      clear H
      go_wp2
      go_meet
      case rel => exact ⟨_, (false), (by first | rfl | (simp; done) | (simp [*]; done)), H', ⟨by first | omega | exact Nat.le_refl _⟩, by repeat (first | exact Drawn0.refl _ | apply Drawn0.step)⟩
  case rest =>
    clear HC2
    try clear p2
    try clear c3
    try clear c3b0
    try clear c3b1
    try clear c4
    try clear c4b0
    try clear c4b1
    try clear p5
    try clear q5
    try clear hx5
    try clear qi5
    try clear p5
    try clear q5
    obtain ⟨kq, x18_1, rfl, HA, HJ1, ⟨mc1, rfl⟩⟩ := hcut
    cases kq with
    | zero => exact absurd HA.out (by simp [ploverref02_number.j0])
    | succ kj1 =>
      have H := HA.out
      clear HA
      simp only [ploverref02_number.j0] at H
      have HC6 := Aside0.mk H
      clear H
      go_upto_if 18 with (fail)
      go_cut [5, 6] (fun v5 v6 wc => ∃ (kq : Nat) (x5_5 : Int) (x6_5 : Int), v5 = .int .i64 x5_5 ∧ v6 = .int .i64 x6_5 ∧ Aside0 (ploverref02_number.j1 kq a0 x5_5 x6_5 = some (r1, r2, r3)) ∧ Aside0 (kq ≤ kj1) ∧ Drawn0 w wc)
      case first =>
        have H := HC6.out
        clear HC6
        by_cases c7 : x18_1 = true
        · subst c7
          have H1 : (ploverref02_number.j1 kj1 a0 1 (-1)) = some (r1, r2, r3) := by rw [if_pos rfl] at H; exact H
          clear H
          have H := H1
          clear H1
          have H' := Aside0.mk H
          clear H
          go_wp2
          go_meet
          case rel => exact ⟨_, (1), ((-1)), (by first | rfl | (simp; done) | (simp [*]; done)), (by first | rfl | (simp; done) | (simp [*]; done)), H', ⟨by have := HJ1.out; first | omega | exact Nat.le_refl _⟩, by repeat (first | exact Drawn0.refl _ | apply Drawn0.step)⟩
        · replace c7 := Bool.eq_false_iff.mpr c7
          subst c7
          have H1 : (ploverref02_number.j1 kj1 a0 0 1) = some (r1, r2, r3) := by rw [if_neg (show ¬ (false = true) by decide)] at H; exact H
          clear H
          have H := H1
          clear H1
          have H' := Aside0.mk H
          clear H
          go_wp2
          go_meet
          case rel => exact ⟨_, (0), (1), (by first | rfl | (simp; done) | (simp [*]; done)), (by first | rfl | (simp; done) | (simp [*]; done)), H', ⟨by have := HJ1.out; first | omega | exact Nat.le_refl _⟩, by repeat (first | exact Drawn0.refl _ | apply Drawn0.step)⟩
      case rest =>
        clear HC6
        try clear c1
        try clear p2
        try clear c3
        try clear c3b0
        try clear c3b1
        try clear c4
        try clear c4b0
        try clear c4b1
        try clear p5
        try clear q5
        try clear hx5
        try clear qi5
        try clear c7
        try clear p2
        try clear p5
        try clear q5
        obtain ⟨kq, x5_5, x6_5, rfl, rfl, HA, HJ5, ⟨mc5, rfl⟩⟩ := hcut
        cases kq with
        | zero => exact absurd HA.out (by simp [ploverref02_number.j1])
        | succ kj5 =>
          have H := HA.out
          clear HA
          simp only [ploverref02_number.j1] at H
          have H' := Aside0.mk H
          clear H
          go_wp2
          go_loopg [5, 8] kj5 (fun kq v5 v8 w' => ∃ (x5_3 : Int) (x8_3 : Int), v5 = .int .i64 x5_3 ∧ v8 = .int .i64 x8_3 ∧ Aside0 (ploverref02_number.l0 kq a0 x5_3 x6_5 x5_5 x8_3 = some (r1, r2, r3)) ∧ Aside0 (kq ≤ kj5) ∧ Drawn0 w w')
          case atStart => exact ⟨(x5_5), (0), (by first | rfl | (simp; done) | (simp [*]; done)), (by first | rfl | (simp; done) | (simp [*]; done)), H', ⟨Nat.le_refl _⟩, by repeat (first | exact Drawn0.refl _ | apply Drawn0.step)⟩
          case round =>
            clear H'
            try clear c1
            try clear p2
            try clear c3
            try clear c3b0
            try clear c3b1
            try clear c4
            try clear c4b0
            try clear c4b1
            try clear c5
            try clear p5
            try clear q5
            try clear hx5
            try clear qi5
            try clear c7
            try clear p2
            try clear p5
            try clear q5
            obtain ⟨x5_3, x8_3, rfl, rfl, HA, HK3, ⟨m3, rfl⟩⟩ := hrel
            cases gk with
            | zero => exact absurd HA.out (by simp [ploverref02_number.l0])
            | succ k3 =>
              have H := HA.out
              clear HA
              simp only [ploverref02_number.l0] at H
              by_cases c8 : x5_3 = (a0.size : Int)
              · rw [if_pos c8] at H
                have c8b0 : (x5_3 == (a0.size : Int)) = true := beq_iff_eq.mpr c8
                have c8b1 : (x5_3 != (a0.size : Int)) = false := bne_eq_false_iff_eq.mpr c8
                clear c8
                simp only [Option.some.injEq, Prod.mk.injEq] at H
                obtain ⟨rfl, rfl, rfl⟩ := H
                go_wp2
                go_ret3
                exact ⟨by first | rfl | (simp; done) | (simp [*]; done), by repeat (first | exact Drawn0.refl _ | apply Drawn0.step)⟩
              · rw [if_neg c8] at H
                have c8b0 : (x5_3 == (a0.size : Int)) = false := beq_eq_false_iff_ne.mpr c8
                have c8b1 : (x5_3 != (a0.size : Int)) = true := bne_iff_ne.mpr c8
                by_cases c9 : 0 ≤ x5_3
                · rw [if_pos c9] at H
                  have c9b0 : decide (0 ≤ x5_3) = true := decide_eq_true c9
                  clear c9
                  by_cases c10 : x5_3 < (a0.size : Int)
                  · rw [if_pos c10] at H
                    have c10b0 : decide (x5_3 < (a0.size : Int)) = true := decide_eq_true c10
                    clear c10
                    have HC12 := Aside0.mk H
                    clear H
                    have p11 : 0 ≤ (x5_3 : Int) := of_decide_eq_true (by first | (with_reducible assumption) | assumption)
                    have q11 : x5_3 < (a0.size : Int) := of_decide_eq_true (by first | (with_reducible assumption) | assumption)
                    have hx11 := bt_at a0 x5_3
                    replace p11 := eq_true p11
                    replace q11 := eq_true q11
                    go_upto_region 11 with (fail)
                    go_cut [33] (fun v33 wc => ∃ (kq : Nat) (x33_11 : Bool), v33 = .bool x33_11 ∧ Aside0 (ploverref02_number.j3 kq a0 x5_3 x6_5 x5_5 x8_3 (bt a0 x5_3) x33_11 = some (r1, r2, r3)) ∧ Aside0 (kq ≤ k3) ∧ Drawn0 w wc)
                    case first =>
                      have H := HC12.out
                      clear HC12
                      by_cases c13 : (bt a0 x5_3) = 101
                      · rw [if_pos c13] at H
                        have c13b0 : ((bt a0 x5_3) == 101) = true := beq_iff_eq.mpr c13
                        have c13b1 : ((bt a0 x5_3) != 101) = false := bne_eq_false_iff_eq.mpr c13
                        clear c13
                        (first | rw [c13b0] | (simp only [i64_w, i32_w]; rw [c13b0]) | skip)
                        have H' := Aside0.mk H
                        clear H
                        go_wp2
                        go_meet
                        case rel => exact ⟨_, (decide (x5_3 > x5_5)), (by first | rfl | (simp; done) | (simp [*]; done)), H', ⟨by have := HJ1.out; have := HJ5.out; have := HK3.out; first | omega | exact Nat.le_refl _⟩, by repeat (first | exact Drawn0.refl _ | apply Drawn0.step)⟩
                      · rw [if_neg c13] at H
                        have c13b0 : ((bt a0 x5_3) == 101) = false := beq_eq_false_iff_ne.mpr c13
                        have c13b1 : ((bt a0 x5_3) != 101) = true := bne_iff_ne.mpr c13
                        (first | rw [c13b0] | (simp only [i64_w, i32_w]; rw [c13b0]) | skip)
                        have H' := Aside0.mk H
                        clear H
                        go_wp2
                        go_meet
                        case rel => exact ⟨_, (false), (by first | rfl | (simp; done) | (simp [*]; done)), H', ⟨by have := HJ1.out; have := HJ5.out; have := HK3.out; first | omega | exact Nat.le_refl _⟩, by repeat (first | exact Drawn0.refl _ | apply Drawn0.step)⟩
                    case rest =>
                      clear HC12
                      try clear c1
                      try clear p1
                      try clear q1
                      try clear hx1
                      try clear p2
                      try clear c3
                      try clear c3b0
                      try clear c3b1
                      try clear c4
                      try clear c4b0
                      try clear c4b1
                      try clear c5
                      try clear p5
                      try clear q5
                      try clear hx5
                      try clear qi5
                      try clear c7
                      try clear c8
                      try clear c8b0
                      try clear c8b1
                      try clear c9
                      try clear c9b0
                      try clear c10
                      try clear c10b0
                      try clear p11
                      try clear q11
                      try clear hx11
                      try clear c13
                      try clear c13b0
                      try clear c13b1
                      try clear p11
                      try clear p2
                      try clear p5
                      try clear q11
                      try clear q5
                      obtain ⟨kq, x33_11, rfl, HA, HJ11, ⟨mc11, rfl⟩⟩ := hcut
                      cases kq with
                      | zero => exact absurd HA.out (by simp [ploverref02_number.j3])
                      | succ kj11 =>
                        have H := HA.out
                        clear HA
                        simp only [ploverref02_number.j3] at H
                        by_cases c14 : x33_11 = true
                        · subst c14
                          have H1 : (some (x8_3, wrap64 (x5_3 + 1), 0)) = some (r1, r2, r3) := by rw [if_pos rfl] at H; exact H
                          clear H
                          have H := H1
                          clear H1
                          simp only [Option.some.injEq, Prod.mk.injEq] at H
                          obtain ⟨rfl, rfl, rfl⟩ := H
                          go_wp2
                          go_ret3
                          exact ⟨by first | rfl | (simp; done) | (simp [*]; done), by repeat (first | exact Drawn0.refl _ | apply Drawn0.step)⟩
                        · replace c14 := Bool.eq_false_iff.mpr c14
                          subst c14
                          have H1 : (if (bt a0 x5_3) < 48 then (ploverref02_number.j4 kj11 a0 x5_3 x6_5 x5_5 x8_3 (bt a0 x5_3) true) else (if (bt a0 x5_3) > 57 then (ploverref02_number.j4 kj11 a0 x5_3 x6_5 x5_5 x8_3 (bt a0 x5_3) true) else (if x5_3 = x5_5 then (if (bt a0 x5_3) = 48 then (if x6_5 < 0 then (ploverref02_number.j4 kj11 a0 x5_3 x6_5 x5_5 x8_3 (bt a0 x5_3) true) else (if x5_3 > x5_5 then (if 0 ≤ x5_5 then (if x5_5 < (a0.size : Int) then (ploverref02_number.j4 kj11 a0 x5_3 x6_5 x5_5 x8_3 (bt a0 x5_3) ((bt a0 x5_5) == 48)) else (none)) else (none)) else (ploverref02_number.j4 kj11 a0 x5_3 x6_5 x5_5 x8_3 (bt a0 x5_3) false))) else (if x5_3 > x5_5 then (if 0 ≤ x5_5 then (if x5_5 < (a0.size : Int) then (ploverref02_number.j4 kj11 a0 x5_3 x6_5 x5_5 x8_3 (bt a0 x5_3) ((bt a0 x5_5) == 48)) else (none)) else (none)) else (ploverref02_number.j4 kj11 a0 x5_3 x6_5 x5_5 x8_3 (bt a0 x5_3) false))) else (if x5_3 > x5_5 then (if 0 ≤ x5_5 then (if x5_5 < (a0.size : Int) then (ploverref02_number.j4 kj11 a0 x5_3 x6_5 x5_5 x8_3 (bt a0 x5_3) ((bt a0 x5_5) == 48)) else (none)) else (none)) else (ploverref02_number.j4 kj11 a0 x5_3 x6_5 x5_5 x8_3 (bt a0 x5_3) false))))) = some (r1, r2, r3) := by rw [if_neg (show ¬ (false = true) by decide)] at H; exact H
                          clear H
                          have H := H1
                          clear H1
                          have HC15 := Aside0.mk H
                          clear H
                          go_upto_region 13 with (fail)
                          go_cut [66] (fun v66 wc => ∃ (kq : Nat) (x66_14 : Bool), v66 = .bool x66_14 ∧ Aside0 (ploverref02_number.j4 kq a0 x5_3 x6_5 x5_5 x8_3 (bt a0 x5_3) x66_14 = some (r1, r2, r3)) ∧ Aside0 (kq ≤ kj11) ∧ Drawn0 w wc)
                          case first =>
                            have H := HC15.out
                            clear HC15
                            by_cases c16 : (bt a0 x5_3) < 48
                            · rw [if_pos c16] at H
                              have c16b0 : decide ((bt a0 x5_3) < 48) = true := decide_eq_true c16
                              clear c16
                              (first | rw [c16b0] | (simp only [i64_w, i32_w]; rw [c16b0]) | skip)
                              have H' := Aside0.mk H
                              clear H
                              go_wp2
                              go_meet
                              case rel => exact ⟨_, (true), (by first | rfl | (simp; done) | (simp [*]; done)), H', ⟨by have := HJ1.out; have := HJ5.out; have := HK3.out; have := HJ11.out; first | omega | exact Nat.le_refl _⟩, by repeat (first | exact Drawn0.refl _ | apply Drawn0.step)⟩
                            · rw [if_neg c16] at H
                              have c16b0 : decide ((bt a0 x5_3) < 48) = false := decide_eq_false c16
                              clear c16
                              (first | rw [c16b0] | (simp only [i64_w, i32_w]; rw [c16b0]) | skip)
                              by_cases c17 : (bt a0 x5_3) > 57
                              · rw [if_pos c17] at H
                                have c17b0 : decide (57 < (bt a0 x5_3)) = true := decide_eq_true c17
                                clear c17
                                have H' := Aside0.mk H
                                clear H
                                go_wp2
                                go_meet
                                case rel => exact ⟨_, (true), (by first | rfl | (simp; done) | (simp [*]; done)), H', ⟨by have := HJ1.out; have := HJ5.out; have := HK3.out; have := HJ11.out; first | omega | exact Nat.le_refl _⟩, by repeat (first | exact Drawn0.refl _ | apply Drawn0.step)⟩
                              · rw [if_neg c17] at H
                                have c17b0 : decide (57 < (bt a0 x5_3)) = false := decide_eq_false c17
                                clear c17
                                by_cases c18 : x5_3 = x5_5
                                · rw [if_pos c18] at H
                                  have c18b0 : (x5_3 == x5_5) = true := beq_iff_eq.mpr c18
                                  have c18b1 : (x5_3 != x5_5) = false := bne_eq_false_iff_eq.mpr c18
                                  clear c18
                                  by_cases c19 : (bt a0 x5_3) = 48
                                  · rw [if_pos c19] at H
                                    have c19b0 : ((bt a0 x5_3) == 48) = true := beq_iff_eq.mpr c19
                                    have c19b1 : ((bt a0 x5_3) != 48) = false := bne_eq_false_iff_eq.mpr c19
                                    clear c19
                                    by_cases c20 : x6_5 < 0
                                    · rw [if_pos c20] at H
                                      have c20b0 : decide (x6_5 < 0) = true := decide_eq_true c20
                                      clear c20
                                      have H' := Aside0.mk H
                                      clear H
                                      go_wp2
                                      go_meet
                                      case rel => exact ⟨_, (true), (by first | rfl | (simp; done) | (simp [*]; done)), H', ⟨by have := HJ1.out; have := HJ5.out; have := HK3.out; have := HJ11.out; first | omega | exact Nat.le_refl _⟩, by repeat (first | exact Drawn0.refl _ | apply Drawn0.step)⟩
                                    · rw [if_neg c20] at H
                                      have c20b0 : decide (x6_5 < 0) = false := decide_eq_false c20
                                      clear c20
                                      by_cases c21 : x5_3 > x5_5
                                      · rw [if_pos c21] at H
                                        have c21b0 : decide (x5_5 < x5_3) = true := decide_eq_true c21
                                        clear c21
                                        by_cases c22 : 0 ≤ x5_5
                                        · rw [if_pos c22] at H
                                          have c22b0 : decide (0 ≤ x5_5) = true := decide_eq_true c22
                                          clear c22
                                          by_cases c23 : x5_5 < (a0.size : Int)
                                          · rw [if_pos c23] at H
                                            have c23b0 : decide (x5_5 < (a0.size : Int)) = true := decide_eq_true c23
                                            clear c23
                                            have H' := Aside0.mk H
                                            clear H
                                            have p24 : 0 ≤ (x5_5 : Int) := of_decide_eq_true (by first | (with_reducible assumption) | assumption)
                                            have q24 : x5_5 < (a0.size : Int) := of_decide_eq_true (by first | (with_reducible assumption) | assumption)
                                            have hx24 := bt_at a0 x5_5
                                            replace p24 := eq_true p24
                                            replace q24 := eq_true q24
                                            go_wp2
                                            go_meet
                                            case rel => exact ⟨_, (((bt a0 x5_5) == 48)), (by first | rfl | (simp; done) | (simp [*]; done)), H', ⟨by have := HJ1.out; have := HJ5.out; have := HK3.out; have := HJ11.out; first | omega | exact Nat.le_refl _⟩, by repeat (first | exact Drawn0.refl _ | apply Drawn0.step)⟩
                                          · rw [if_neg c23] at H
                                            exact absurd H (by simp)
                                        · rw [if_neg c22] at H
                                          exact absurd H (by simp)
                                      · rw [if_neg c21] at H
                                        have c21b0 : decide (x5_5 < x5_3) = false := decide_eq_false c21
                                        clear c21
                                        have H' := Aside0.mk H
                                        clear H
                                        go_wp2
                                        go_meet
                                        case rel => exact ⟨_, (false), (by first | rfl | (simp; done) | (simp [*]; done)), H', ⟨by have := HJ1.out; have := HJ5.out; have := HK3.out; have := HJ11.out; first | omega | exact Nat.le_refl _⟩, by repeat (first | exact Drawn0.refl _ | apply Drawn0.step)⟩
                                  · rw [if_neg c19] at H
                                    have c19b0 : ((bt a0 x5_3) == 48) = false := beq_eq_false_iff_ne.mpr c19
                                    have c19b1 : ((bt a0 x5_3) != 48) = true := bne_iff_ne.mpr c19
                                    by_cases c25 : x5_3 > x5_5
                                    · rw [if_pos c25] at H
                                      have c25b0 : decide (x5_5 < x5_3) = true := decide_eq_true c25
                                      clear c25
                                      by_cases c26 : 0 ≤ x5_5
                                      · rw [if_pos c26] at H
                                        have c26b0 : decide (0 ≤ x5_5) = true := decide_eq_true c26
                                        clear c26
                                        by_cases c27 : x5_5 < (a0.size : Int)
                                        · rw [if_pos c27] at H
                                          have c27b0 : decide (x5_5 < (a0.size : Int)) = true := decide_eq_true c27
                                          clear c27
                                          have H' := Aside0.mk H
                                          clear H
                                          have p28 : 0 ≤ (x5_5 : Int) := of_decide_eq_true (by first | (with_reducible assumption) | assumption)
                                          have q28 : x5_5 < (a0.size : Int) := of_decide_eq_true (by first | (with_reducible assumption) | assumption)
                                          have hx28 := bt_at a0 x5_5
                                          replace p28 := eq_true p28
                                          replace q28 := eq_true q28
                                          go_wp2
                                          go_meet
                                          case rel => exact ⟨_, (((bt a0 x5_5) == 48)), (by first | rfl | (simp; done) | (simp [*]; done)), H', ⟨by have := HJ1.out; have := HJ5.out; have := HK3.out; have := HJ11.out; first | omega | exact Nat.le_refl _⟩, by repeat (first | exact Drawn0.refl _ | apply Drawn0.step)⟩
                                        · rw [if_neg c27] at H
                                          exact absurd H (by simp)
                                      · rw [if_neg c26] at H
                                        exact absurd H (by simp)
                                    · rw [if_neg c25] at H
                                      have c25b0 : decide (x5_5 < x5_3) = false := decide_eq_false c25
                                      clear c25
                                      have H' := Aside0.mk H
                                      clear H
                                      go_wp2
                                      go_meet
                                      case rel => exact ⟨_, (false), (by first | rfl | (simp; done) | (simp [*]; done)), H', ⟨by have := HJ1.out; have := HJ5.out; have := HK3.out; have := HJ11.out; first | omega | exact Nat.le_refl _⟩, by repeat (first | exact Drawn0.refl _ | apply Drawn0.step)⟩
                                · rw [if_neg c18] at H
                                  have c18b0 : (x5_3 == x5_5) = false := beq_eq_false_iff_ne.mpr c18
                                  have c18b1 : (x5_3 != x5_5) = true := bne_iff_ne.mpr c18
                                  by_cases c29 : x5_3 > x5_5
                                  · rw [if_pos c29] at H
                                    have c29b0 : decide (x5_5 < x5_3) = true := decide_eq_true c29
                                    clear c29
                                    by_cases c30 : 0 ≤ x5_5
                                    · rw [if_pos c30] at H
                                      have c30b0 : decide (0 ≤ x5_5) = true := decide_eq_true c30
                                      clear c30
                                      by_cases c31 : x5_5 < (a0.size : Int)
                                      · rw [if_pos c31] at H
                                        have c31b0 : decide (x5_5 < (a0.size : Int)) = true := decide_eq_true c31
                                        clear c31
                                        have H' := Aside0.mk H
                                        clear H
                                        have p32 : 0 ≤ (x5_5 : Int) := of_decide_eq_true (by first | (with_reducible assumption) | assumption)
                                        have q32 : x5_5 < (a0.size : Int) := of_decide_eq_true (by first | (with_reducible assumption) | assumption)
                                        have hx32 := bt_at a0 x5_5
                                        replace p32 := eq_true p32
                                        replace q32 := eq_true q32
                                        go_wp2
                                        go_meet
                                        case rel => exact ⟨_, (((bt a0 x5_5) == 48)), (by first | rfl | (simp; done) | (simp [*]; done)), H', ⟨by have := HJ1.out; have := HJ5.out; have := HK3.out; have := HJ11.out; first | omega | exact Nat.le_refl _⟩, by repeat (first | exact Drawn0.refl _ | apply Drawn0.step)⟩
                                      · rw [if_neg c31] at H
                                        exact absurd H (by simp)
                                    · rw [if_neg c30] at H
                                      exact absurd H (by simp)
                                  · rw [if_neg c29] at H
                                    have c29b0 : decide (x5_5 < x5_3) = false := decide_eq_false c29
                                    clear c29
                                    have H' := Aside0.mk H
                                    clear H
                                    go_wp2
                                    go_meet
                                    case rel => exact ⟨_, (false), (by first | rfl | (simp; done) | (simp [*]; done)), H', ⟨by have := HJ1.out; have := HJ5.out; have := HK3.out; have := HJ11.out; first | omega | exact Nat.le_refl _⟩, by repeat (first | exact Drawn0.refl _ | apply Drawn0.step)⟩
                          case rest =>
                            clear HC15
                            try clear c1
                            try clear p1
                            try clear q1
                            try clear hx1
                            try clear c2
                            try clear p2
                            try clear q2
                            try clear hx2
                            try clear c3
                            try clear c3b0
                            try clear c3b1
                            try clear p3
                            try clear q3
                            try clear hx3
                            try clear c4
                            try clear c4b0
                            try clear c4b1
                            try clear c5
                            try clear p5
                            try clear q5
                            try clear hx5
                            try clear qi5
                            try clear p6
                            try clear c7
                            try clear c8
                            try clear c8b0
                            try clear c8b1
                            try clear c9
                            try clear c9b0
                            try clear c10
                            try clear c10b0
                            try clear c11
                            try clear p11
                            try clear q11
                            try clear hx11
                            try clear c13
                            try clear c13b0
                            try clear c13b1
                            try clear c14
                            try clear c16
                            try clear c16b0
                            try clear c17
                            try clear c17b0
                            try clear c18
                            try clear c18b0
                            try clear c18b1
                            try clear c19
                            try clear c19b0
                            try clear c19b1
                            try clear c20
                            try clear c20b0
                            try clear c21
                            try clear c21b0
                            try clear c22
                            try clear c22b0
                            try clear c23
                            try clear c23b0
                            try clear p24
                            try clear q24
                            try clear hx24
                            try clear c25
                            try clear c25b0
                            try clear c26
                            try clear c26b0
                            try clear c27
                            try clear c27b0
                            try clear p28
                            try clear q28
                            try clear hx28
                            try clear c29
                            try clear c29b0
                            try clear c30
                            try clear c30b0
                            try clear c31
                            try clear c31b0
                            try clear p32
                            try clear q32
                            try clear hx32
                            try clear p1
                            try clear p11
                            try clear p2
                            try clear p24
                            try clear p28
                            try clear p32
                            try clear p5
                            try clear q1
                            try clear q11
                            try clear q24
                            try clear q28
                            try clear q32
                            try clear q5
                            obtain ⟨kq, x66_14, rfl, HA, HJ14, ⟨mc14, rfl⟩⟩ := hcut
                            cases kq with
                            | zero => exact absurd HA.out (by simp [ploverref02_number.j4])
                            | succ kj14 =>
                              have H := HA.out
                              clear HA
                              simp only [ploverref02_number.j4] at H
                              by_cases c33 : x66_14 = true
                              · subst c33
                                have H1 : (some (0, 0, 20)) = some (r1, r2, r3) := by rw [if_pos rfl] at H; exact H
                                clear H
                                have H := H1
                                clear H1
                                simp only [Option.some.injEq, Prod.mk.injEq] at H
                                obtain ⟨rfl, rfl, rfl⟩ := H
                                go_wp2
                                go_ret3
                                exact ⟨by first | rfl | (simp; done) | (simp [*]; done), by repeat (first | exact Drawn0.refl _ | apply Drawn0.step)⟩
                              · replace c33 := Bool.eq_false_iff.mpr c33
                                subst c33
                                have H1 : (if x8_3 > 922337203685477580 then (some (0, 0, 20)) else (if x8_3 < (-922337203685477580) then (some (0, 0, 20)) else (if x6_5 > 0 then (if (wrap64 (10 * x8_3)) > (wrap64 (9223372036854775807 - (wrap64 (x6_5 * (((bt a0 x5_3) - 48) % 256))))) then (some (0, 0, 20)) else (if x6_5 < 0 then (if (wrap64 (10 * x8_3)) < (wrap64 ((-9223372036854775808) - (wrap64 (x6_5 * (((bt a0 x5_3) - 48) % 256))))) then (some (0, 0, 20)) else (ploverref02_number.l0 kj14 a0 (wrap64 (x5_3 + 1)) x6_5 x5_5 (wrap64 ((wrap64 (10 * x8_3)) + (wrap64 (x6_5 * (((bt a0 x5_3) - 48) % 256))))))) else (ploverref02_number.l0 kj14 a0 (wrap64 (x5_3 + 1)) x6_5 x5_5 (wrap64 ((wrap64 (10 * x8_3)) + (wrap64 (x6_5 * (((bt a0 x5_3) - 48) % 256)))))))) else (if x6_5 < 0 then (if (wrap64 (10 * x8_3)) < (wrap64 ((-9223372036854775808) - (wrap64 (x6_5 * (((bt a0 x5_3) - 48) % 256))))) then (some (0, 0, 20)) else (ploverref02_number.l0 kj14 a0 (wrap64 (x5_3 + 1)) x6_5 x5_5 (wrap64 ((wrap64 (10 * x8_3)) + (wrap64 (x6_5 * (((bt a0 x5_3) - 48) % 256))))))) else (ploverref02_number.l0 kj14 a0 (wrap64 (x5_3 + 1)) x6_5 x5_5 (wrap64 ((wrap64 (10 * x8_3)) + (wrap64 (x6_5 * (((bt a0 x5_3) - 48) % 256)))))))))) = some (r1, r2, r3) := by rw [if_neg (show ¬ (false = true) by decide)] at H; exact H
                                clear H
                                have H := H1
                                clear H1
                                by_cases c34 : x8_3 > 922337203685477580
                                · rw [if_pos c34] at H
                                  have c34b0 : decide (922337203685477580 < x8_3) = true := decide_eq_true c34
                                  clear c34
                                  simp only [Option.some.injEq, Prod.mk.injEq] at H
                                  obtain ⟨rfl, rfl, rfl⟩ := H
                                  go_wp2
                                  go_ret3
                                  exact ⟨by first | rfl | (simp; done) | (simp [*]; done), by repeat (first | exact Drawn0.refl _ | apply Drawn0.step)⟩
                                · rw [if_neg c34] at H
                                  have c34b0 : decide (922337203685477580 < x8_3) = false := decide_eq_false c34
                                  clear c34
                                  by_cases c35 : x8_3 < (-922337203685477580)
                                  · rw [if_pos c35] at H
                                    have c35b0 : decide (x8_3 < (-922337203685477580)) = true := decide_eq_true c35
                                    clear c35
                                    simp only [Option.some.injEq, Prod.mk.injEq] at H
                                    obtain ⟨rfl, rfl, rfl⟩ := H
                                    go_wp2
                                    go_ret3
                                    exact ⟨by first | rfl | (simp; done) | (simp [*]; done), by repeat (first | exact Drawn0.refl _ | apply Drawn0.step)⟩
                                  · rw [if_neg c35] at H
                                    have c35b0 : decide (x8_3 < (-922337203685477580)) = false := decide_eq_false c35
                                    clear c35
                                    by_cases c36 : x6_5 > 0
                                    · rw [if_pos c36] at H
                                      have c36b0 : decide (0 < x6_5) = true := decide_eq_true c36
                                      clear c36
                                      by_cases c37 : (wrap64 (10 * x8_3)) > (wrap64 (9223372036854775807 - (wrap64 (x6_5 * (((bt a0 x5_3) - 48) % 256)))))
                                      · rw [if_pos c37] at H
                                        have c37b0 : decide ((wrap64 (9223372036854775807 - (wrap64 (x6_5 * (((bt a0 x5_3) - 48) % 256))))) < (wrap64 (10 * x8_3))) = true := decide_eq_true c37
                                        clear c37
                                        simp only [Option.some.injEq, Prod.mk.injEq] at H
                                        obtain ⟨rfl, rfl, rfl⟩ := H
                                        go_wp2
                                        go_ret3
                                        exact ⟨by first | rfl | (simp; done) | (simp [*]; done), by repeat (first | exact Drawn0.refl _ | apply Drawn0.step)⟩
                                      · rw [if_neg c37] at H
                                        have c37b0 : decide ((wrap64 (9223372036854775807 - (wrap64 (x6_5 * (((bt a0 x5_3) - 48) % 256))))) < (wrap64 (10 * x8_3))) = false := decide_eq_false c37
                                        clear c37
                                        by_cases c38 : x6_5 < 0
                                        · rw [if_pos c38] at H
                                          have c38b0 : decide (x6_5 < 0) = true := decide_eq_true c38
                                          clear c38
                                          by_cases c39 : (wrap64 (10 * x8_3)) < (wrap64 ((-9223372036854775808) - (wrap64 (x6_5 * (((bt a0 x5_3) - 48) % 256)))))
                                          · rw [if_pos c39] at H
                                            have c39b0 : decide ((wrap64 (10 * x8_3)) < (wrap64 ((-9223372036854775808) - (wrap64 (x6_5 * (((bt a0 x5_3) - 48) % 256)))))) = true := decide_eq_true c39
                                            clear c39
                                            simp only [Option.some.injEq, Prod.mk.injEq] at H
                                            obtain ⟨rfl, rfl, rfl⟩ := H
                                            go_wp2
                                            go_ret3
                                            exact ⟨by first | rfl | (simp; done) | (simp [*]; done), by repeat (first | exact Drawn0.refl _ | apply Drawn0.step)⟩
                                          · rw [if_neg c39] at H
                                            have c39b0 : decide ((wrap64 (10 * x8_3)) < (wrap64 ((-9223372036854775808) - (wrap64 (x6_5 * (((bt a0 x5_3) - 48) % 256)))))) = false := decide_eq_false c39
                                            clear c39
                                            have H' := Aside0.mk H
                                            clear H
                                            go_wp2
                                            go_roundg kj14
                                            case measure => have := HJ1.out; have := HJ5.out; have := HK3.out; have := HJ11.out; have := HJ14.out; omega
                                            case rel => exact ⟨(wrap64 (x5_3 + 1)), (wrap64 ((wrap64 (10 * x8_3)) + (wrap64 (x6_5 * (((bt a0 x5_3) - 48) % 256))))), (by first | rfl | (simp; done) | (simp [*]; done)), (by first | rfl | (simp; done) | (simp [*]; done)), H', ⟨by have := HJ1.out; have := HJ5.out; have := HK3.out; have := HJ11.out; have := HJ14.out; omega⟩, by repeat (first | exact Drawn0.refl _ | apply Drawn0.step)⟩
                                        · rw [if_neg c38] at H
                                          have c38b0 : decide (x6_5 < 0) = false := decide_eq_false c38
                                          clear c38
                                          have H' := Aside0.mk H
                                          clear H
                                          go_wp2
                                          go_roundg kj14
                                          case measure => have := HJ1.out; have := HJ5.out; have := HK3.out; have := HJ11.out; have := HJ14.out; omega
                                          case rel => exact ⟨(wrap64 (x5_3 + 1)), (wrap64 ((wrap64 (10 * x8_3)) + (wrap64 (x6_5 * (((bt a0 x5_3) - 48) % 256))))), (by first | rfl | (simp; done) | (simp [*]; done)), (by first | rfl | (simp; done) | (simp [*]; done)), H', ⟨by have := HJ1.out; have := HJ5.out; have := HK3.out; have := HJ11.out; have := HJ14.out; omega⟩, by repeat (first | exact Drawn0.refl _ | apply Drawn0.step)⟩
                                    · rw [if_neg c36] at H
                                      have c36b0 : decide (0 < x6_5) = false := decide_eq_false c36
                                      clear c36
                                      by_cases c40 : x6_5 < 0
                                      · rw [if_pos c40] at H
                                        have c40b0 : decide (x6_5 < 0) = true := decide_eq_true c40
                                        clear c40
                                        by_cases c41 : (wrap64 (10 * x8_3)) < (wrap64 ((-9223372036854775808) - (wrap64 (x6_5 * (((bt a0 x5_3) - 48) % 256)))))
                                        · rw [if_pos c41] at H
                                          have c41b0 : decide ((wrap64 (10 * x8_3)) < (wrap64 ((-9223372036854775808) - (wrap64 (x6_5 * (((bt a0 x5_3) - 48) % 256)))))) = true := decide_eq_true c41
                                          clear c41
                                          simp only [Option.some.injEq, Prod.mk.injEq] at H
                                          obtain ⟨rfl, rfl, rfl⟩ := H
                                          go_wp2
                                          go_ret3
                                          exact ⟨by first | rfl | (simp; done) | (simp [*]; done), by repeat (first | exact Drawn0.refl _ | apply Drawn0.step)⟩
                                        · rw [if_neg c41] at H
                                          have c41b0 : decide ((wrap64 (10 * x8_3)) < (wrap64 ((-9223372036854775808) - (wrap64 (x6_5 * (((bt a0 x5_3) - 48) % 256)))))) = false := decide_eq_false c41
                                          clear c41
                                          have H' := Aside0.mk H
                                          clear H
                                          go_wp2
                                          go_roundg kj14
                                          case measure => have := HJ1.out; have := HJ5.out; have := HK3.out; have := HJ11.out; have := HJ14.out; omega
                                          case rel => exact ⟨(wrap64 (x5_3 + 1)), (wrap64 ((wrap64 (10 * x8_3)) + (wrap64 (x6_5 * (((bt a0 x5_3) - 48) % 256))))), (by first | rfl | (simp; done) | (simp [*]; done)), (by first | rfl | (simp; done) | (simp [*]; done)), H', ⟨by have := HJ1.out; have := HJ5.out; have := HK3.out; have := HJ11.out; have := HJ14.out; omega⟩, by repeat (first | exact Drawn0.refl _ | apply Drawn0.step)⟩
                                      · rw [if_neg c40] at H
                                        have c40b0 : decide (x6_5 < 0) = false := decide_eq_false c40
                                        clear c40
                                        have H' := Aside0.mk H
                                        clear H
                                        go_wp2
                                        go_roundg kj14
                                        case measure => have := HJ1.out; have := HJ5.out; have := HK3.out; have := HJ11.out; have := HJ14.out; omega
                                        case rel => exact ⟨(wrap64 (x5_3 + 1)), (wrap64 ((wrap64 (10 * x8_3)) + (wrap64 (x6_5 * (((bt a0 x5_3) - 48) % 256))))), (by first | rfl | (simp; done) | (simp [*]; done)), (by first | rfl | (simp; done) | (simp [*]; done)), H', ⟨by have := HJ1.out; have := HJ5.out; have := HK3.out; have := HJ11.out; have := HJ14.out; omega⟩, by repeat (first | exact Drawn0.refl _ | apply Drawn0.step)⟩
                  · rw [if_neg c10] at H
                    exact absurd H (by simp)
                · rw [if_neg c9] at H
                  exact absurd H (by simp)

end Go.Proofs.YtjhalgoondljgaaDoor.PChartTexts
