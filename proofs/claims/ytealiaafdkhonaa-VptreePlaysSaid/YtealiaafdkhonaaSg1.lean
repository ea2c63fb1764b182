/- Several texts in one: Sg, Sh, Si. -/
import Derived.Test.YtealiaafdkhonaaSe1
namespace Go.Proofs.Ytealiaafdkhonaa.Vp
open Go.RowKit Go.Sort Mb Base Sq Go.Proofs.YtealiaafdkhonaaW.PrintWords Go.Proofs.YtealiaafdkhonaaW.PrintLast Go.Proofs.YtealiaafdkhonaaW.PrintMore
set_option linter.unusedVariables false
set_option linter.unusedSimpArgs false
noncomputable def so70_6.T : Bool × List (List Nat × List Nat) := rtab .any (opsOf Try.f70 6)
def so70_6.B : List Nat := [0, 0, 0, 0, 8, 0, 0, 64, 224, 480, 0, 0, 3072, 7168, 16355, 32739, 65535, 131071]
theorem so70_6.tab : rtab .any (opsOf Try.f70 6) = so70_6.T := rfl
theorem so70_6.bits : waitsOk so70_6.T.2 so70_6.B = true := by kernel_rfl
theorem down_facts {Q' : List E} {nv : List Int} {a j i : Nat} (h : Down (kf dE (keyE nv) Q') a j i) (hj : j = a ∨ ¬ kf dE (keyE nv) Q' j < kf dE (keyE nv) Q' (j - 1)) : Up (kf dE (keyE nv) Q') a (i + 1) :=
  h.stop (hj.imp (fun e => e) (fun e => Int.not_lt.1 e))
set_option maxRecDepth 100000 in
set_option maxHeartbeats 4000000 in
theorem insertion_calls (W : World) (nb ng : Nat) (nv : List Int) (g : Nat) (Q : List E) (c : Nat) (h : SortAt W nb ng nv g Q) (N : Nat) (hN : Q.length = N) (hNb : N ≤ 1000000) (a b : Nat) (hab : a ≤ b) (hbN : b ≤ N) :
    Calls Try.prog 70 #[.slice (some ⟨g, 0, none⟩) N c, .int .i64 (a : Nat), .int .i64 (b : Nat), .func (.func 54) #[] #[.pointer (some ⟨nb, 0, none⟩)]] W (SortDone W nb ng nv g Q (fun Q' => Seg a b Q Q' ∧ Up (kf dE (keyE nv) Q') a b)) := by
  obtain ⟨ad, had⟩ : ∃ ad : Addr, ad = ⟨g, 0, none⟩ := ⟨_, rfl⟩
  rw [← had]
  have HAD := Aside0.mk had
  have HN := Aside0.mk hN
  have HS0 := Aside0.mk h
  clear had hN h
  go_enter Try.func70, Try.ntmps70
  go_wp2_with fail
  go_loopw [8, 9] (fun z8 z9 wr => ∃ (i : Nat) (Q' : List E), z8 = .int .i64 i ∧ a + 1 ≤ i ∧ (i ≤ b ∨ i = a + 1) ∧ Aside0 (SortAt wr nb ng nv g Q') ∧ Aside0 (Seg a b Q Q') ∧ Aside0 (Up (kf dE (keyE nv) Q') a i) ∧ Aside0 (Turns (fun j => j = g) W wr)) (fun z8 _ _ => N + 2 - (intOf z8).toNat)
  case atStart => exact ⟨a + 1, Q, by go_num, by omega, .inr rfl, HS0, ⟨Seg.refl _ _ _⟩, ⟨Up.one _ _ _ (by omega)⟩, ⟨Turns.rfl_ W⟩⟩
  case round =>
    obtain ⟨i, Q1, rfl, hai, hib, HS1, HG1, HU1, HT1⟩ := hrel
    by_cases hi : i < b
    · have hii : (i : Int) < (b : Int) := by omega
      obtain ⟨wo, hwo⟩ : ∃ wo : World, wo = wr := ⟨_, rfl⟩
      subst hwo
      go_wp2_with fail
      go_loopw [9] (fun z9 wr => ∃ (j : Nat) (Q' : List E), z9 = .int .i64 j ∧ a ≤ j ∧ j ≤ i ∧ Aside0 (SortAt wr nb ng nv g Q') ∧ Aside0 (Seg a b Q Q') ∧ Aside0 (Down (kf dE (keyE nv) Q') a j i) ∧ Aside0 (Turns (fun j => j = g) W wr)) (fun z9 _ => (intOf z9).toNat)
      case atStart => exact ⟨i, Q1, rfl, by omega, by omega, HS1, HG1, ⟨Down.start HU1.out⟩, HT1⟩
      case round =>
        obtain ⟨j, Q', rfl, haj, hji, HSA, HG, HD, HT⟩ := hrel
        by_cases hja : a < j
        · have hja2 : (a : Int) < (j : Int) := by omega
          have hja3 : decide ((a : Int) < (j : Int)) = true := decide_eq_true hja2
          have hxl : j < Q'.length := by rw [HG.out.len, HN.out]; omega
          have hyl : j - 1 < Q'.length := by omega
          have f1 : (0 : Int) ≤ (j : Int) := by omega
          have f2 : (j : Int) < (N : Int) := by omega
          have f3 : (1 : Int) ≤ (j : Int) := by omega
          have f4 : (j : Int) - 1 < (N : Int) := by omega
          have f5 : ((j : Int) - 1).toNat = j - 1 := by omega
          have f6 : IntKind.i64.wrap ((j : Int) - 1) = (j : Int) - 1 := IntWalk.i64_in _ (by omega)
          have f7 : wrap64 ((j : Int) - 1) = (j : Int) - 1 := by unfold wrap64; omega
          have f8 : (0 : Int) ≤ (j : Int) - 1 := by omega
          obtain ⟨cx0, cx1⟩ := HSA.out.drew.cell_ad HAD.out (j) hxl
          obtain ⟨cy0, cy1⟩ := HSA.out.drew.cell_ad HAD.out (j - 1) hyl
          obtain ⟨xA, xN, xC, hxs⟩ := slice_val (HSA.out.mem (j) hxl).1
          obtain ⟨yA, yN, yC, hys⟩ := slice_val (HSA.out.mem (j - 1) hyl).1
          have HCM := Aside0.mk (cmpE_calls wr.drew nb ng nv HSA.out.drew.ctx (Q'.getD (j) dE) (Q'.getD (j - 1) dE) (HSA.out.drew.mem (j) hxl) (HSA.out.drew.mem (j - 1) hyl))
          obtain ⟨x1, hx1⟩ : ∃ x1, (Q'.getD (j) dE).1 = x1 := ⟨_, rfl⟩
          obtain ⟨y1, hy1⟩ : ∃ y1, (Q'.getD (j - 1) dE).1 = y1 := ⟨_, rfl⟩
          rw [hxs] at cx1
          rw [hys] at cy1
          rw [hx1] at cx0
          rw [hy1] at cy0
          rw [hx1, hy1, hxs, hys] at HCM
          obtain ⟨r, hr⟩ : ∃ r, Lib.compareInt (keyE nv (Q'.getD (j) dE)) (keyE nv (Q'.getD (j - 1) dE)) = r := ⟨_, rfl⟩
          rw [hr] at HCM
          have HRC : Aside0 (r < 0 ↔ kf dE (keyE nv) Q' (j) < kf dE (keyE nv) Q' (j - 1)) := ⟨by rw [← hr]; exact cmpI_neg _ _⟩
          clear hx1 hy1 hxs hys hr
          go_upto_region 4 with (fail)
          obtain ⟨bq, hbq⟩ : ∃ bq, (decide (r < 0)) = bq := ⟨_, rfl⟩
          have HBQ := Aside0.mk hbq
          clear hbq
          go_cut [34] (fun v wc => v = .bool bq ∧ Aside0 (Below wr.heap.size wr wc))
          case first =>
            go_region_held3 (fun w' => w'.cell? (ad.add ((j) * 2)) = some (.int .i64 x1) ∧ w'.cell? ⟨(ad.add ((j) * 2)).block, (ad.add ((j) * 2)).off + 1, none⟩ = some (.slice xA xN xC) ∧ w'.cell? (ad.add ((j - 1) * 2)) = some (.int .i64 y1) ∧ w'.cell? ⟨(ad.add ((j - 1) * 2)).block, (ad.add ((j - 1) * 2)).off + 1, none⟩ = some (.slice yA yN yC))
              (first | (go_split_ands; refine ⟨?_, ?_, ?_, ?_⟩ <;> assumption) | (go_split_ands; refine ⟨?_, ?_, ?_, ?_⟩ <;> (refine pw_cell_below hb9 ?_; assumption)) | (go_keep; done))
              ((go_at_call 54; refine HCM.out.mono ?_; rintro e w9 ⟨rfl, hb9⟩))
            all_goals (go_wp2_with fail; go_meet; exact ⟨by rw [← HBQ.out], ⟨below_step (below_drew1 (Below.refl wr.heap.size wr)) hb9⟩⟩)
          case rest =>
            obtain ⟨rfl, HBC⟩ := hcut
            by_cases hc : r < 0
            · obtain rfl : bq = true := by rw [← HBQ.out]; exact decide_eq_true hc
              have HLT := Aside0.mk (HRC.out.1 hc)
              clear HRC cx0 cx1 cy0 cy1 HCM
              have HSC := Aside0.mk (HSA.out.below HBC.out)
              have HTC : Aside0 (Turns (fun j => j = g) W wc) := ⟨HT.out.trans_ (Turns.of_below HBC.out)⟩
              clear HSA HBC
              have HSA := HSC
              go_upto_region 6 with (fail)
              obtain ⟨xv, hxv⟩ : ∃ xv, Q'.getD (j) dE = xv := ⟨_, rfl⟩
              obtain ⟨yv, hyv⟩ : ∃ yv, Q'.getD (j - 1) dE = yv := ⟨_, rfl⟩
              have HXV := Aside0.mk hxv
              have HYV := Aside0.mk hyv
              obtain ⟨cx0, cx1⟩ := HSA.out.drew.cell_ad HAD.out (j) hxl
              obtain ⟨cy0, cy1⟩ := HSA.out.drew.cell_ad HAD.out (j - 1) hyl
              obtain ⟨xA, xN, xC, hxs⟩ := slice_val (HSA.out.mem (j) hxl).1
              obtain ⟨yA, yN, yC, hys⟩ := slice_val (HSA.out.mem (j - 1) hyl).1
              rw [hxv] at cx0 cx1 hxs
              rw [hyv] at cy0 cy1 hys
              rw [hxs] at cx1
              rw [hys] at cy1
              obtain ⟨x1, hx1⟩ : ∃ x1, xv.1 = x1 := ⟨_, rfl⟩
              obtain ⟨y1, hy1⟩ : ∃ y1, yv.1 = y1 := ⟨_, rfl⟩
              rw [hx1] at cx0
              rw [hy1] at cy0
              have HEX := Aside0.mk (⟨hx1, hxs⟩ : xv.1 = x1 ∧ xv.2.2 = .slice xA xN xC)
              have HEY := Aside0.mk (⟨hy1, hys⟩ : yv.1 = y1 ∧ yv.2.2 = .slice yA yN yC)
              have HRW := Aside0.mk HSA.out.row.drew
              have HTD : Aside0 (Turns (fun j => j = g) wc wc.drew) := ⟨Turns.drew (Turns.rfl_ _)⟩
              have HZ := Aside0.mk (frozen_ad HRW.out HAD.out (j))
              clear hxv hyv hx1 hy1 hxs hys
              refine start_ (n := 18) (S := fun w' => w'.cell? (ad.add ((j) * 2)) = some (.int .i64 x1) ∧ w'.cell? ⟨(ad.add ((j) * 2)).block, (ad.add ((j) * 2)).off + 1, none⟩ = some (.slice xA xN xC) ∧ w'.cell? (ad.add ((j - 1) * 2)) = some (.int .i64 y1) ∧ w'.cell? ⟨(ad.add ((j - 1) * 2)).block, (ad.add ((j - 1) * 2)).off + 1, none⟩ = some (.slice yA yN yC)) (ds := [15, 17]) #[false, false, false, false, false, false, false, false, false, false, false, false, false, false, false, false, false, false] (by kernel_rfl) rfl rfl ⟨cx0, cx1, cy0, cy1⟩ (fun hHeld => ?_)
              refine with_tabW so70_6.tab so70_6.bits (fun HT_ HW_ => ?_)
              generalize hwD : wc.drew = wD at *
              refine pure_ (i := 0) (N := some 37) (v := ?_) (a' := ?_) #[true, false, false, false, false, false, false, false, false, false, false, false, false, false, false, false, false, false] rfl rfl (any_of HT_.out (by kernel_rfl)) (fun _ _ _ h => h) (Or.inl ⟨by rfl, ?_⟩) ?_ ?_
              rotate_left
              · intro w'
                go_simp
                with_reducible rfl
              rotate_left
              · simp only [Act.put, List.setIfInBounds_toArray, List.set_cons_zero, List.set_cons_succ, i64_w, i32_w]
                rfl
              refine pure_ (i := 1) (N := some 38) (v := ?_) (a' := ?_) #[true, true, false, false, false, false, false, false, false, false, false, false, false, false, false, false, false, false] rfl rfl (any_of HT_.out (by kernel_rfl)) (fun _ _ _ h => h) (Or.inl ⟨by rfl, ?_⟩) ?_ ?_
              rotate_left
              · intro w'
                go_simp
                with_reducible rfl
              rotate_left
              · simp only [Act.put, List.setIfInBounds_toArray, List.set_cons_zero, List.set_cons_succ, i64_w, i32_w]
                rfl
              refine pure_ (i := 2) (N := some 39) (v := ?_) (a' := ?_) #[true, true, true, false, false, false, false, false, false, false, false, false, false, false, false, false, false, false] rfl rfl (any_of HT_.out (by kernel_rfl)) (fun _ _ _ h => h) (Or.inl ⟨by rfl, ?_⟩) ?_ ?_
              rotate_left
              · intro w'
                go_simp
                with_reducible rfl
              rotate_left
              · simp only [Act.put, List.setIfInBounds_toArray, List.set_cons_zero, List.set_cons_succ, i64_w, i32_w]
                rfl
              refine pure_ (i := 3) (N := some 40) (v := ?_) (a' := ?_) #[true, true, true, true, false, false, false, false, false, false, false, false, false, false, false, false, false, false] rfl rfl (any_of HT_.out (by kernel_rfl)) (fun _ _ _ h => h) (Or.inl ⟨by rfl, ?_⟩) ?_ ?_
              rotate_left
              · intro w'
                go_simp
                with_reducible rfl
              rotate_left
              · simp only [Act.put, List.setIfInBounds_toArray, List.set_cons_zero, List.set_cons_succ, i64_w, i32_w]
                rfl
              refine pure_ (i := 4) (N := some 41) (v := ?_) (a' := ?_) #[true, true, true, true, true, false, false, false, false, false, false, false, false, false, false, false, false, false] rfl rfl (any_of HT_.out (by kernel_rfl)) (fun _ _ _ h => h) (Or.inl ⟨by rfl, ?_⟩) ?_ ?_
              rotate_left
              · intro w'
                go_simp
                with_reducible rfl
              rotate_left
              · simp only [Act.put, List.setIfInBounds_toArray, List.set_cons_zero, List.set_cons_succ, i64_w, i32_w]
                rfl
              refine pure_ (i := 5) (N := some 42) (v := ?_) (a' := ?_) #[true, true, true, true, true, true, false, false, false, false, false, false, false, false, false, false, false, false] rfl rfl (any_of HT_.out (by kernel_rfl)) (fun _ _ _ h => h) (Or.inl ⟨by rfl, ?_⟩) ?_ ?_
              rotate_left
              · intro w'
                go_simp
                with_reducible rfl
              rotate_left
              · simp only [Act.put, List.setIfInBounds_toArray, List.set_cons_zero, List.set_cons_succ, i64_w, i32_w]
                rfl
              refine pure_ (i := 6) (N := some 43) (v := ?_) (a' := ?_) #[true, true, true, true, true, true, true, false, false, false, false, false, false, false, false, false, false, false] rfl rfl (any_of HT_.out (by kernel_rfl)) (fun _ _ _ h => h) (Or.inl ⟨by rfl, ?_⟩) ?_ ?_
              rotate_left
              · intro w'
                go_simp
                with_reducible rfl
              rotate_left
              · simp only [Act.put, List.setIfInBounds_toArray, List.set_cons_zero, List.set_cons_succ, i64_w, i32_w]
                rfl
              refine pure_ (i := 7) (N := some 44) (v := ?_) (a' := ?_) #[true, true, true, true, true, true, true, true, false, false, false, false, false, false, false, false, false, false] rfl rfl (any_of HT_.out (by kernel_rfl)) (fun _ _ _ h => h) (Or.inl ⟨by rfl, ?_⟩) ?_ ?_
              rotate_left
              · intro w'
                go_simp
                with_reducible rfl
              rotate_left
              · simp only [Act.put, List.setIfInBounds_toArray, List.set_cons_zero, List.set_cons_succ, i64_w, i32_w]
                rfl
              refine pure_ (i := 8) (N := some 45) (v := ?_) (a' := ?_) #[true, true, true, true, true, true, true, true, true, false, false, false, false, false, false, false, false, false] rfl rfl (any_of HT_.out (by kernel_rfl)) (fun _ _ _ h => h) (Or.inl ⟨by rfl, ?_⟩) ?_ ?_
              rotate_left
              · intro w'
                go_simp
                with_reducible rfl
              rotate_left
              · simp only [Act.put, List.setIfInBounds_toArray, List.set_cons_zero, List.set_cons_succ, i64_w, i32_w]
                rfl
              refine pure_ (i := 10) (N := some 47) (v := ?_) (a' := ?_) #[true, true, true, true, true, true, true, true, true, false, true, false, false, false, false, false, false, false] rfl rfl (any_of HT_.out (by kernel_rfl)) (fun _ _ _ h => h) (Or.inl ⟨by rfl, ?_⟩) ?_ ?_
              rotate_left
              · intro w'
                go_simp
                with_reducible rfl
              rotate_left
              · simp only [Act.put, List.setIfInBounds_toArray, List.set_cons_zero, List.set_cons_succ, i64_w, i32_w]
                rfl
              refine pure_ (i := 11) (N := some 48) (v := ?_) (a' := ?_) #[true, true, true, true, true, true, true, true, true, false, true, true, false, false, false, false, false, false] rfl rfl (any_of HT_.out (by kernel_rfl)) (fun _ _ _ h => h) (Or.inl ⟨by rfl, ?_⟩) ?_ ?_
              rotate_left
              · intro w'
                go_simp
                with_reducible rfl
              rotate_left
              · simp only [Act.put, List.setIfInBounds_toArray, List.set_cons_zero, List.set_cons_succ, i64_w, i32_w]
                rfl
              refine pure_ (i := 12) (N := some 49) (v := ?_) (a' := ?_) #[true, true, true, true, true, true, true, true, true, false, true, true, true, false, false, false, false, false] rfl rfl (any_of HT_.out (by kernel_rfl)) (fun _ _ _ h => h) (Or.inl ⟨by rfl, ?_⟩) ?_ ?_
              rotate_left
              · intro w'
                go_simp
                with_reducible rfl
              rotate_left
              · simp only [Act.put, List.setIfInBounds_toArray, List.set_cons_zero, List.set_cons_succ, i64_w, i32_w]
                rfl
              refine take_ (i := 9) (N := some 46) (v := ?_) (a' := ?_) #[true, true, true, true, true, true, true, true, true, true, true, true, true, false, false, false, false, false] rfl rfl (take_ofW HT_.out HW_.out (by kernel_rfl)) (fun _ _ _ h => h) (Or.inl ⟨by rfl, ?_⟩) hHeld ?_ ?_
              rotate_left
              · rintro w' ⟨s0, s1, s2, s3⟩
                go_simp
                with_reducible rfl
              rotate_left
              · simp only [Act.put, List.setIfInBounds_toArray, List.set_cons_zero, List.set_cons_succ, i64_w, i32_w]
                rfl
              refine take_ (i := 13) (N := some 50) (v := ?_) (a' := ?_) #[true, true, true, true, true, true, true, true, true, true, true, true, true, true, false, false, false, false] rfl rfl (take_ofW HT_.out HW_.out (by kernel_rfl)) (fun _ _ _ h => h) (Or.inl ⟨by rfl, ?_⟩) hHeld ?_ ?_
              rotate_left
              · rintro w' ⟨s0, s1, s2, s3⟩
                go_simp
                with_reducible rfl
              rotate_left
              · simp only [Act.put, List.setIfInBounds_toArray, List.set_cons_zero, List.set_cons_succ, i64_w, i32_w]
                rfl
              refine pure_ (i := 14) (N := some 51) (v := ?_) (a' := ?_) #[true, true, true, true, true, true, true, true, true, true, true, true, true, true, true, false, false, false] rfl rfl (any_of HT_.out (by kernel_rfl)) (fun _ _ _ h => h) (Or.inl ⟨by rfl, ?_⟩) ?_ ?_
              rotate_left
              · intro w'
                go_simp
                with_reducible rfl
              rotate_left
              · simp only [Act.put, List.setIfInBounds_toArray, List.set_cons_zero, List.set_cons_succ, i64_w, i32_w]
                rfl
              refine last_ (i := 15) (N := none) #[true, true, true, true, true, true, true, true, true, true, true, true, true, true, true, true, false, false] rfl rfl (one_of HT_.out (by kernel_rfl)) (by decide) (fun K hK => ?_)
              obtain ⟨hz0, hz1⟩ := HZ.out
              obtain ⟨p0, p1, p2, p3⟩ := hHeld
              have p4 := second_cell (u := .int .i64 y1) p1
              refine skip_ (w1 := ?_) (by rfl) rfl ?_ ?_
              rotate_left
              · go_simp
                rfl
              have HR1 := Aside0.mk (set_row_ad HRW.out HAD.out (j) hxl yv)
              have HT1 := Aside0.mk (turns_ad HAD.out HTD.out (j) (.int .i64 yv.1) yv.2.2)
              rw [HEY.out.1, HEY.out.2] at HR1 HT1
              refine hK.out _ _ ?_
              clear hK K hz0 hz1 p0 p1 p2 p3 p4 HZ
              generalize hw1 : World.setCell (World.setCell wD _ _) _ _ = w1 at *
              clear hw1
              have HZ2 := Aside0.mk (frozen_ad HR1.out HAD.out (j - 1))
              have HC2 := Aside0.mk (cell_row HR1.out HAD.out (j - 1) (by rw [List.length_set]; exact hyl))
              refine pure_ (i := 16) (N := some 52) (v := ?_) (a' := ?_) #[true, true, true, true, true, true, true, true, true, true, true, true, true, true, true, true, true, false] rfl rfl (any_of HT_.out (by kernel_rfl)) (fun _ _ _ h => h) (Or.inl ⟨by rfl, ?_⟩) ?_ ?_
              rotate_left
              · intro w'
                go_simp
                with_reducible rfl
              rotate_left
              · simp only [Act.put, List.setIfInBounds_toArray, List.set_cons_zero, List.set_cons_succ, i64_w, i32_w]
                rfl
              refine last_ (i := 17) (N := none) #[true, true, true, true, true, true, true, true, true, true, true, true, true, true, true, true, true, true] rfl rfl (one_of HT_.out (by kernel_rfl)) (by decide) (fun K hK => ?_)
              obtain ⟨hz0, hz1⟩ := HZ2.out
              obtain ⟨p0, p1⟩ := HC2.out
              have p4 := second_cell (u := .int .i64 x1) p1
              refine skip_ (w1 := ?_) (by rfl) rfl ?_ ?_
              rotate_left
              · go_simp
                rfl
              have HR2 := Aside0.mk (set_row_ad HR1.out HAD.out (j - 1) (by rw [List.length_set]; exact hyl) xv)
              have HT2 := Aside0.mk (turns_ad HAD.out HT1.out (j - 1) (.int .i64 xv.1) xv.2.2)
              rw [HEX.out.1, HEX.out.2] at HR2 HT2
              refine hK.out _ _ ?_
              clear hK K hz0 hz1 p0 p1 p4 HZ2 HC2
              generalize hw2 : World.setCell (World.setCell w1 _ _) _ _ = wS at *
              clear hw2
              refine done_ (done_of HT_.out (by kernel_rfl)) ?_
              have HSW := Aside0.mk (swapped HSA.out hxl hyl HT2.out (by have := HR2.out; rw [← HYV.out, ← HXV.out] at this; exact this))
              have HTN := Aside0.mk (HTC.out.trans_ HT2.out)
              have HGN : Aside0 (Seg a b Q (swapL dE Q' j (j - 1))) := ⟨HG.out.trans (Seg.swap (by omega) (by omega) (by omega) (by omega) (by rw [HG.out.len, HN.out]; exact hbN))⟩
              have HDN : Aside0 (Down (kf dE (keyE nv) (swapL dE Q' j (j - 1))) a (j - 1) i) := ⟨HD.out.step hja hji (by rw [HG.out.len, HN.out]; omega) HLT.out⟩
              have hj1 : (j : Int) - 1 = ((j - 1 : Nat) : Int) := by omega
              have HJ1 := Aside0.mk hj1
              clear hj1
              go_wp2_with fail
              go_roundw
              case rel => exact ⟨j - 1, _, by rw [HJ1.out], by omega, by omega, HSW, HGN, HDN, HTN⟩
              case measure => simp [intOf]; omega
            · obtain rfl : bq = false := by rw [← HBQ.out]; exact decide_eq_false hc
              have HUP : Aside0 (Up (kf dE (keyE nv) Q') a (i + 1)) := ⟨down_facts HD.out (.inr (fun e => hc (HRC.out.2 e)))⟩
              have HSC := Aside0.mk (HSA.out.below HBC.out)
              have HTC : Aside0 (Turns (fun j => j = g) W wc) := ⟨HT.out.trans_ (Turns.of_below HBC.out)⟩
              clear HRC cx0 cx1 cy0 cy1 HCM
              go_wp2_with fail
              go_roundw
              case rel => exact ⟨i + 1, Q', by go_num, by omega, by omega, HSC, HG, HUP, HTC⟩
              case measure => simp [intOf]; omega
        · have hja2 : ¬ (a : Int) < (j : Int) := by omega
          have hja3 : decide ((a : Int) < (j : Int)) = false := decide_eq_false hja2
          have HUP : Aside0 (Up (kf dE (keyE nv) Q') a (i + 1)) := ⟨down_facts HD.out (.inl (by omega))⟩
          go_upto_region 4 with (fail)
          go_quiet (fail)
          go_wp2_with fail
          go_roundw
          case rel => exact ⟨i + 1, Q', by go_num, by omega, by omega, ⟨HSA.out.below (pw_below_drewN (Below.refl _ _) nq)⟩, HG, HUP, ⟨HT.out.drewN nq⟩⟩
          case measure => simp [intOf]; omega
    · have hii : ¬ (i : Int) < (b : Int) := by omega
      go_wp2_with fail
      refine bodyPost_end (results_none rfl _ _ _) rfl ?_
      exact ⟨rfl, ⟨Q1, HS1.out, HG1.out, HU1.out.sub (Nat.le_refl _) (by omega)⟩, HT1.out⟩
end Go.Proofs.Ytealiaafdkhonaa.Vp

namespace Go.Proofs.Ytealiaafdkhonaa.Vp
open Go.RowKit Go.Sort Mb Base Sq Go.Proofs.YtealiaafdkhonaaW.PrintWords Go.Proofs.YtealiaafdkhonaaW.PrintLast Go.Proofs.YtealiaafdkhonaaW.PrintMore
set_option linter.unusedVariables false
set_option linter.unusedSimpArgs false
noncomputable def so71_11.T : Bool × List (List Nat × List Nat) := rtab .any (opsOf Try.f71 11)
def so71_11.B : List Nat := [0, 0, 0, 0, 8, 0, 0, 64, 224, 480, 0, 0, 3072, 7168, 16355, 32739, 65535, 131071]
theorem so71_11.tab : rtab .any (opsOf Try.f71 11) = so71_11.T := rfl
theorem so71_11.bits : waitsOk so71_11.T.2 so71_11.B = true := by kernel_rfl
set_option maxRecDepth 100000 in
set_option maxHeartbeats 4000000 in
theorem symMerge_one (W : World) (nb ng : Nat) (nv : List Int) (g : Nat) (Q : List E) (c : Nat) (h : SortAt W nb ng nv g Q) (N : Nat) (hN : Q.length = N) (hNb : N ≤ 1000000) (a m b : Nat) (ham : m = a + 1) (hmb : m < b) (hbN : b ≤ N) (h2 : Up (kf dE (keyE nv) Q) m b) :
    Calls Try.prog 71 #[.slice (some ⟨g, 0, none⟩) N c, .int .i64 (a : Nat), .int .i64 (m : Nat), .int .i64 (b : Nat), .func (.func 54) #[] #[.pointer (some ⟨nb, 0, none⟩)]] W (SortDone W nb ng nv g Q (fun Q' => Seg a b Q Q' ∧ Up (kf dE (keyE nv) Q') a b)) := by
  obtain ⟨ad, had⟩ : ∃ ad : Addr, ad = ⟨g, 0, none⟩ := ⟨_, rfl⟩
  rw [← had]
  have HAD := Aside0.mk had
  have HN := Aside0.mk hN
  have HS0 := Aside0.mk h
  have HU := Aside0.mk h2
  have g1 : (m : Int) - (a : Int) = 1 := by omega
  have HAM := Aside0.mk ham
  have ham1 : a + 1 ≤ m ∧ m ≤ a + 1 := by omega
  obtain ⟨ham2, ham3⟩ := ham1
  clear had hN h h2 ham
  go_enter Try.func71, Try.ntmps71
  go_wp2_with fail
  go_loopw [10, 11] (fun z1 z2 wr => ∃ i j : Nat, z1 = .int .i64 i ∧ z2 = .int .i64 j ∧ m ≤ i ∧ i ≤ j ∧ j ≤ b ∧ Aside0 (SortAt wr nb ng nv g Q) ∧ Aside0 (∀ k, m ≤ k → k < i → kf dE (keyE nv) Q k < kf dE (keyE nv) Q a) ∧ Aside0 (∀ k, j ≤ k → k < b → ¬ kf dE (keyE nv) Q k < kf dE (keyE nv) Q a) ∧ Aside0 (Turns (fun j => j = g) W wr)) (fun z1 z2 _ => (intOf z2).toNat - (intOf z1).toNat)
  case atStart => exact ⟨m, b, rfl, rfl, by omega, by omega, by omega, HS0, ⟨fun k h1 h2 => by omega⟩, ⟨fun k h1 h2 => by omega⟩, ⟨Turns.rfl_ W⟩⟩
  case round =>
    obtain ⟨i, j, rfl, rfl, hmi, hij, hjb, HSA, HL, HR, HT⟩ := hrel
    by_cases hlt : i < j
    · have hlt2 : (i : Int) < (j : Int) := by omega
      obtain ⟨h, hh, hh1, hh2⟩ : ∃ h : Nat, (i + j) / 2 = h ∧ i ≤ h ∧ h < j := ⟨_, rfl, by omega, by omega⟩
      have hmid : ((i : Int) + (j : Int)) / 2 = (h : Int) := by omega
      have hxl : h < Q.length := by rw [HN.out]; omega
      have hyl : a < Q.length := by rw [HN.out]; omega
      have f1 : (0 : Int) ≤ (h : Int) := by omega
      have f2 : (h : Int) < (N : Int) := by omega
      have f3 : (0 : Int) ≤ (a : Int) := by omega
      have f4 : (a : Int) < (N : Int) := by omega
      obtain ⟨cx0, cx1⟩ := HSA.out.drew.cell_ad HAD.out (h) hxl
      obtain ⟨cy0, cy1⟩ := HSA.out.drew.cell_ad HAD.out (a) hyl
      obtain ⟨xA, xN, xC, hxs⟩ := slice_val (HSA.out.mem (h) hxl).1
      obtain ⟨yA, yN, yC, hys⟩ := slice_val (HSA.out.mem (a) hyl).1
      have HCM := Aside0.mk (cmpE_calls wr.drew nb ng nv HSA.out.drew.ctx (Q.getD (h) dE) (Q.getD (a) dE) (HSA.out.drew.mem (h) hxl) (HSA.out.drew.mem (a) hyl))
      obtain ⟨x1, hx1⟩ : ∃ x1, (Q.getD (h) dE).1 = x1 := ⟨_, rfl⟩
      obtain ⟨y1, hy1⟩ : ∃ y1, (Q.getD (a) dE).1 = y1 := ⟨_, rfl⟩
      rw [hxs] at cx1
      rw [hys] at cy1
      rw [hx1] at cx0
      rw [hy1] at cy0
      rw [hx1, hy1, hxs, hys] at HCM
      obtain ⟨r, hr⟩ : ∃ r, Lib.compareInt (keyE nv (Q.getD (h) dE)) (keyE nv (Q.getD (a) dE)) = r := ⟨_, rfl⟩
      rw [hr] at HCM
      have HRC : Aside0 (r < 0 ↔ kf dE (keyE nv) Q (h) < kf dE (keyE nv) Q (a)) := ⟨by rw [← hr]; exact cmpI_neg _ _⟩
      clear hx1 hy1 hxs hys hr
      go_upto_region 5 with (fail)
      obtain ⟨bq, hbq⟩ : ∃ bq, (decide (r < 0)) = bq := ⟨_, rfl⟩
      have HBQ := Aside0.mk hbq
      clear hbq
      go_cut [50] (fun v wc => v = .bool bq ∧ Aside0 (Below wr.heap.size wr wc))
      case first =>
        go_region_held3 (fun w' => w'.cell? (ad.add ((h) * 2)) = some (.int .i64 x1) ∧ w'.cell? ⟨(ad.add ((h) * 2)).block, (ad.add ((h) * 2)).off + 1, none⟩ = some (.slice xA xN xC) ∧ w'.cell? (ad.add ((a) * 2)) = some (.int .i64 y1) ∧ w'.cell? ⟨(ad.add ((a) * 2)).block, (ad.add ((a) * 2)).off + 1, none⟩ = some (.slice yA yN yC))
          (first | (go_split_ands; refine ⟨?_, ?_, ?_, ?_⟩ <;> assumption) | (go_split_ands; refine ⟨?_, ?_, ?_, ?_⟩ <;> (refine pw_cell_below hb9 ?_; assumption)) | (go_keep; done))
          ((go_at_call 54; refine HCM.out.mono ?_; rintro e w9 ⟨rfl, hb9⟩))
        all_goals (go_wp2_with fail; go_meet; exact ⟨by rw [← HBQ.out], ⟨below_step (below_drew1 (Below.refl wr.heap.size wr)) hb9⟩⟩)
      case rest =>
        obtain ⟨rfl, HBC⟩ := hcut
        have HSC := Aside0.mk (HSA.out.below HBC.out)
        have HTC : Aside0 (Turns (fun j => j = g) W wc) := ⟨HT.out.trans_ (Turns.of_below HBC.out)⟩
        by_cases hc : r < 0
        · obtain rfl : bq = true := by rw [← HBQ.out]; exact decide_eq_true hc
          have HL2 : Aside0 (∀ k, m ≤ k → k < h + 1 → kf dE (keyE nv) Q k < kf dE (keyE nv) Q a) := ⟨fun k h1 h2 => by
            have h3 := HRC.out.1 hc
            by_cases e : k = h
            · rw [e]; exact h3
            · exact Int.lt_of_le_of_lt (HU.out k h h1 (by omega) (by omega)) h3⟩
          clear HRC cx0 cx1 cy0 cy1 HCM
          go_wp2_with fail
          go_roundw
          case rel => exact ⟨h + 1, j, by go_num, rfl, by omega, by omega, hjb, HSC, HL2, HR, HTC⟩
          case measure => simp [intOf]; omega
        · obtain rfl : bq = false := by rw [← HBQ.out]; exact decide_eq_false hc
          have HR2 : Aside0 (∀ k, h ≤ k → k < b → ¬ kf dE (keyE nv) Q k < kf dE (keyE nv) Q a) := ⟨fun k h1 h2 h4 => by
            have h3 : ¬ kf dE (keyE nv) Q h < kf dE (keyE nv) Q a := fun e => hc (HRC.out.2 e)
            by_cases e : h = k
            · rw [← e] at h4; exact h3 h4
            · exact h3 (Int.lt_of_le_of_lt (HU.out h k (by omega) (by omega) h2) h4)⟩
          clear HRC cx0 cx1 cy0 cy1 HCM
          go_wp2_with fail
          go_roundw
          case rel => exact ⟨i, h, rfl, rfl, hmi, by omega, by omega, HSC, HL, HR2, HTC⟩
          case measure => simp [intOf]; omega
    · obtain rfl : i = j := by omega
      have hlt2 : ¬ (i : Int) < (i : Int) := by omega
      obtain ⟨wo, hwo⟩ : ∃ wo : World, wo = wr := ⟨_, rfl⟩
      subst hwo
      have HLS : Aside0 (Lift (kf dE (keyE nv) Q) a a b) := ⟨Lift.start (by have := HU.out; rw [HAM.out] at this; exact this)⟩
      go_wp2_with fail
      go_loopw [13] (fun z wr => ∃ (k : Nat) (Q' : List E), z = .int .i64 k ∧ a ≤ k ∧ k + 1 ≤ i ∧ Aside0 (SortAt wr nb ng nv g Q') ∧ Aside0 (Seg a b Q Q') ∧ Aside0 (Lift (kf dE (keyE nv) Q') a k b) ∧ Aside0 ((∀ q, k < q → kf dE (keyE nv) Q' q = kf dE (keyE nv) Q q) ∧ kf dE (keyE nv) Q' k = kf dE (keyE nv) Q a) ∧ Aside0 (Turns (fun j => j = g) W wr)) (fun z _ => N - (intOf z).toNat)
      case atStart => exact ⟨a, Q, rfl, by omega, by omega, HSA, ⟨Seg.refl _ _ _⟩, HLS, ⟨fun q _ => rfl, rfl⟩, HT⟩
      case round =>
        obtain ⟨k, Q', rfl, hak, hki, HSA, HG, HD, HF, HT⟩ := hrel
        by_cases hk : k + 1 < i
        · have hk2 : (k : Int) < (i : Int) - 1 := by omega
          have hxl : k < Q'.length := by rw [HG.out.len, HN.out]; omega
          have hyl : k + 1 < Q'.length := by rw [HG.out.len, HN.out]; omega
          have f1 : (0 : Int) ≤ (k : Int) := by omega
          have f2 : (k : Int) < (N : Int) := by omega
          have f3 : (0 : Int) ≤ (k : Int) + 1 := by omega
          have f4 : (k : Int) + 1 < (N : Int) := by omega
          have f5 : ((k : Int) + 1).toNat = k + 1 := by omega
          have f6 : IntKind.i64.wrap ((k : Int) + 1) = (k : Int) + 1 := IntWalk.i64_in _ (by omega)
          have f7 : wrap64 ((k : Int) + 1) = (k : Int) + 1 := by unfold wrap64; omega
          go_upto_region 11 with (fail)
          obtain ⟨xv, hxv⟩ : ∃ xv, Q'.getD (k) dE = xv := ⟨_, rfl⟩
          obtain ⟨yv, hyv⟩ : ∃ yv, Q'.getD (k + 1) dE = yv := ⟨_, rfl⟩
          have HXV := Aside0.mk hxv
          have HYV := Aside0.mk hyv
          obtain ⟨cx0, cx1⟩ := HSA.out.drew.cell_ad HAD.out (k) hxl
          obtain ⟨cy0, cy1⟩ := HSA.out.drew.cell_ad HAD.out (k + 1) hyl
          obtain ⟨xA, xN, xC, hxs⟩ := slice_val (HSA.out.mem (k) hxl).1
          obtain ⟨yA, yN, yC, hys⟩ := slice_val (HSA.out.mem (k + 1) hyl).1
          rw [hxv] at cx0 cx1 hxs
          rw [hyv] at cy0 cy1 hys
          rw [hxs] at cx1
          rw [hys] at cy1
          obtain ⟨x1, hx1⟩ : ∃ x1, xv.1 = x1 := ⟨_, rfl⟩
          obtain ⟨y1, hy1⟩ : ∃ y1, yv.1 = y1 := ⟨_, rfl⟩
          rw [hx1] at cx0
          rw [hy1] at cy0
          have HEX := Aside0.mk (⟨hx1, hxs⟩ : xv.1 = x1 ∧ xv.2.2 = .slice xA xN xC)
          have HEY := Aside0.mk (⟨hy1, hys⟩ : yv.1 = y1 ∧ yv.2.2 = .slice yA yN yC)
          have HRW := Aside0.mk HSA.out.row.drew
          have HTD : Aside0 (Turns (fun j => j = g) wr wr.drew) := ⟨Turns.drew (Turns.rfl_ _)⟩
          have HZ := Aside0.mk (frozen_ad HRW.out HAD.out (k))
          clear hxv hyv hx1 hy1 hxs hys
          refine start_ (n := 18) (S := fun w' => w'.cell? (ad.add ((k) * 2)) = some (.int .i64 x1) ∧ w'.cell? ⟨(ad.add ((k) * 2)).block, (ad.add ((k) * 2)).off + 1, none⟩ = some (.slice xA xN xC) ∧ w'.cell? (ad.add ((k + 1) * 2)) = some (.int .i64 y1) ∧ w'.cell? ⟨(ad.add ((k + 1) * 2)).block, (ad.add ((k + 1) * 2)).off + 1, none⟩ = some (.slice yA yN yC)) (ds := [15, 17]) #[false, false, false, false, false, false, false, false, false, false, false, false, false, false, false, false, false, false] (by kernel_rfl) rfl rfl ⟨cx0, cx1, cy0, cy1⟩ (fun hHeld => ?_)
          refine with_tabW so71_11.tab so71_11.bits (fun HT_ HW_ => ?_)
          generalize hwD : wr.drew = wD at *
          refine pure_ (i := 0) (N := some 61) (v := ?_) (a' := ?_) #[true, false, false, false, false, false, false, false, false, false, false, false, false, false, false, false, false, false] rfl rfl (any_of HT_.out (by kernel_rfl)) (fun _ _ _ h => h) (Or.inl ⟨by rfl, ?_⟩) ?_ ?_
          rotate_left
          · intro w'
            go_simp
            with_reducible rfl
          rotate_left
          · simp only [Act.put, List.setIfInBounds_toArray, List.set_cons_zero, List.set_cons_succ, i64_w, i32_w]
            rfl
          refine pure_ (i := 1) (N := some 62) (v := ?_) (a' := ?_) #[true, true, false, false, false, false, false, false, false, false, false, false, false, false, false, false, false, false] rfl rfl (any_of HT_.out (by kernel_rfl)) (fun _ _ _ h => h) (Or.inl ⟨by rfl, ?_⟩) ?_ ?_
          rotate_left
          · intro w'
            go_simp
            with_reducible rfl
          rotate_left
          · simp only [Act.put, List.setIfInBounds_toArray, List.set_cons_zero, List.set_cons_succ, i64_w, i32_w]
            rfl
          refine pure_ (i := 2) (N := some 63) (v := ?_) (a' := ?_) #[true, true, true, false, false, false, false, false, false, false, false, false, false, false, false, false, false, false] rfl rfl (any_of HT_.out (by kernel_rfl)) (fun _ _ _ h => h) (Or.inl ⟨by rfl, ?_⟩) ?_ ?_
          rotate_left
          · intro w'
            go_simp
            with_reducible rfl
          rotate_left
          · simp only [Act.put, List.setIfInBounds_toArray, List.set_cons_zero, List.set_cons_succ, i64_w, i32_w]
            rfl
          refine pure_ (i := 3) (N := some 64) (v := ?_) (a' := ?_) #[true, true, true, true, false, false, false, false, false, false, false, false, false, false, false, false, false, false] rfl rfl (any_of HT_.out (by kernel_rfl)) (fun _ _ _ h => h) (Or.inl ⟨by rfl, ?_⟩) ?_ ?_
          rotate_left
          · intro w'
            go_simp
            with_reducible rfl
          rotate_left
          · simp only [Act.put, List.setIfInBounds_toArray, List.set_cons_zero, List.set_cons_succ, i64_w, i32_w]
            rfl
          refine pure_ (i := 4) (N := some 65) (v := ?_) (a' := ?_) #[true, true, true, true, true, false, false, false, false, false, false, false, false, false, false, false, false, false] rfl rfl (any_of HT_.out (by kernel_rfl)) (fun _ _ _ h => h) (Or.inl ⟨by rfl, ?_⟩) ?_ ?_
          rotate_left
          · intro w'
            go_simp
            with_reducible rfl
          rotate_left
          · simp only [Act.put, List.setIfInBounds_toArray, List.set_cons_zero, List.set_cons_succ, i64_w, i32_w]
            rfl
          refine pure_ (i := 5) (N := some 66) (v := ?_) (a' := ?_) #[true, true, true, true, true, true, false, false, false, false, false, false, false, false, false, false, false, false] rfl rfl (any_of HT_.out (by kernel_rfl)) (fun _ _ _ h => h) (Or.inl ⟨by rfl, ?_⟩) ?_ ?_
          rotate_left
          · intro w'
            go_simp
            with_reducible rfl
          rotate_left
          · simp only [Act.put, List.setIfInBounds_toArray, List.set_cons_zero, List.set_cons_succ, i64_w, i32_w]
            rfl
          refine pure_ (i := 6) (N := some 67) (v := ?_) (a' := ?_) #[true, true, true, true, true, true, true, false, false, false, false, false, false, false, false, false, false, false] rfl rfl (any_of HT_.out (by kernel_rfl)) (fun _ _ _ h => h) (Or.inl ⟨by rfl, ?_⟩) ?_ ?_
          rotate_left
          · intro w'
            go_simp
            with_reducible rfl
          rotate_left
          · simp only [Act.put, List.setIfInBounds_toArray, List.set_cons_zero, List.set_cons_succ, i64_w, i32_w]
            rfl
          refine pure_ (i := 7) (N := some 68) (v := ?_) (a' := ?_) #[true, true, true, true, true, true, true, true, false, false, false, false, false, false, false, false, false, false] rfl rfl (any_of HT_.out (by kernel_rfl)) (fun _ _ _ h => h) (Or.inl ⟨by rfl, ?_⟩) ?_ ?_
          rotate_left
          · intro w'
            go_simp
            with_reducible rfl
          rotate_left
          · simp only [Act.put, List.setIfInBounds_toArray, List.set_cons_zero, List.set_cons_succ, i64_w, i32_w]
            rfl
          refine pure_ (i := 8) (N := some 69) (v := ?_) (a' := ?_) #[true, true, true, true, true, true, true, true, true, false, false, false, false, false, false, false, false, false] rfl rfl (any_of HT_.out (by kernel_rfl)) (fun _ _ _ h => h) (Or.inl ⟨by rfl, ?_⟩) ?_ ?_
          rotate_left
          · intro w'
            go_simp
            with_reducible rfl
          rotate_left
          · simp only [Act.put, List.setIfInBounds_toArray, List.set_cons_zero, List.set_cons_succ, i64_w, i32_w]
            rfl
          refine pure_ (i := 10) (N := some 71) (v := ?_) (a' := ?_) #[true, true, true, true, true, true, true, true, true, false, true, false, false, false, false, false, false, false] rfl rfl (any_of HT_.out (by kernel_rfl)) (fun _ _ _ h => h) (Or.inl ⟨by rfl, ?_⟩) ?_ ?_
          rotate_left
          · intro w'
            go_simp
            with_reducible rfl
          rotate_left
          · simp only [Act.put, List.setIfInBounds_toArray, List.set_cons_zero, List.set_cons_succ, i64_w, i32_w]
            rfl
          refine pure_ (i := 11) (N := some 72) (v := ?_) (a' := ?_) #[true, true, true, true, true, true, true, true, true, false, true, true, false, false, false, false, false, false] rfl rfl (any_of HT_.out (by kernel_rfl)) (fun _ _ _ h => h) (Or.inl ⟨by rfl, ?_⟩) ?_ ?_
          rotate_left
          · intro w'
            go_simp
            with_reducible rfl
          rotate_left
          · simp only [Act.put, List.setIfInBounds_toArray, List.set_cons_zero, List.set_cons_succ, i64_w, i32_w]
            rfl
          refine pure_ (i := 12) (N := some 73) (v := ?_) (a' := ?_) #[true, true, true, true, true, true, true, true, true, false, true, true, true, false, false, false, false, false] rfl rfl (any_of HT_.out (by kernel_rfl)) (fun _ _ _ h => h) (Or.inl ⟨by rfl, ?_⟩) ?_ ?_
          rotate_left
          · intro w'
            go_simp
            with_reducible rfl
          rotate_left
          · simp only [Act.put, List.setIfInBounds_toArray, List.set_cons_zero, List.set_cons_succ, i64_w, i32_w]
            rfl
          refine take_ (i := 9) (N := some 70) (v := ?_) (a' := ?_) #[true, true, true, true, true, true, true, true, true, true, true, true, true, false, false, false, false, false] rfl rfl (take_ofW HT_.out HW_.out (by kernel_rfl)) (fun _ _ _ h => h) (Or.inl ⟨by rfl, ?_⟩) hHeld ?_ ?_
          rotate_left
          · rintro w' ⟨s0, s1, s2, s3⟩
            go_simp
            with_reducible rfl
          rotate_left
          · simp only [Act.put, List.setIfInBounds_toArray, List.set_cons_zero, List.set_cons_succ, i64_w, i32_w]
            rfl
          refine take_ (i := 13) (N := some 74) (v := ?_) (a' := ?_) #[true, true, true, true, true, true, true, true, true, true, true, true, true, true, false, false, false, false] rfl rfl (take_ofW HT_.out HW_.out (by kernel_rfl)) (fun _ _ _ h => h) (Or.inl ⟨by rfl, ?_⟩) hHeld ?_ ?_
          rotate_left
          · rintro w' ⟨s0, s1, s2, s3⟩
            go_simp
            with_reducible rfl
          rotate_left
          · simp only [Act.put, List.setIfInBounds_toArray, List.set_cons_zero, List.set_cons_succ, i64_w, i32_w]
            rfl
          refine pure_ (i := 14) (N := some 75) (v := ?_) (a' := ?_) #[true, true, true, true, true, true, true, true, true, true, true, true, true, true, true, false, false, false] rfl rfl (any_of HT_.out (by kernel_rfl)) (fun _ _ _ h => h) (Or.inl ⟨by rfl, ?_⟩) ?_ ?_
          rotate_left
          · intro w'
            go_simp
            with_reducible rfl
          rotate_left
          · simp only [Act.put, List.setIfInBounds_toArray, List.set_cons_zero, List.set_cons_succ, i64_w, i32_w]
            rfl
          refine last_ (i := 15) (N := none) #[true, true, true, true, true, true, true, true, true, true, true, true, true, true, true, true, false, false] rfl rfl (one_of HT_.out (by kernel_rfl)) (by decide) (fun K hK => ?_)
          obtain ⟨hz0, hz1⟩ := HZ.out
          obtain ⟨p0, p1, p2, p3⟩ := hHeld
          have p4 := second_cell (u := .int .i64 y1) p1
          refine skip_ (w1 := ?_) (by rfl) rfl ?_ ?_
          rotate_left
          · go_simp
            rfl
          have HR1 := Aside0.mk (set_row_ad HRW.out HAD.out (k) hxl yv)
          have HT1 := Aside0.mk (turns_ad HAD.out HTD.out (k) (.int .i64 yv.1) yv.2.2)
          rw [HEY.out.1, HEY.out.2] at HR1 HT1
          refine hK.out _ _ ?_
          clear hK K hz0 hz1 p0 p1 p2 p3 p4 HZ
          generalize hw1 : World.setCell (World.setCell wD _ _) _ _ = w1 at *
          clear hw1
          have HZ2 := Aside0.mk (frozen_ad HR1.out HAD.out (k + 1))
          have HC2 := Aside0.mk (cell_row HR1.out HAD.out (k + 1) (by rw [List.length_set]; exact hyl))
          refine pure_ (i := 16) (N := some 76) (v := ?_) (a' := ?_) #[true, true, true, true, true, true, true, true, true, true, true, true, true, true, true, true, true, false] rfl rfl (any_of HT_.out (by kernel_rfl)) (fun _ _ _ h => h) (Or.inl ⟨by rfl, ?_⟩) ?_ ?_
          rotate_left
          · intro w'
            go_simp
            with_reducible rfl
          rotate_left
          · simp only [Act.put, List.setIfInBounds_toArray, List.set_cons_zero, List.set_cons_succ, i64_w, i32_w]
            rfl
          refine last_ (i := 17) (N := none) #[true, true, true, true, true, true, true, true, true, true, true, true, true, true, true, true, true, true] rfl rfl (one_of HT_.out (by kernel_rfl)) (by decide) (fun K hK => ?_)
          obtain ⟨hz0, hz1⟩ := HZ2.out
          obtain ⟨p0, p1⟩ := HC2.out
          have p4 := second_cell (u := .int .i64 x1) p1
          refine skip_ (w1 := ?_) (by rfl) rfl ?_ ?_
          rotate_left
          · go_simp
            rfl
          have HR2 := Aside0.mk (set_row_ad HR1.out HAD.out (k + 1) (by rw [List.length_set]; exact hyl) xv)
          have HT2 := Aside0.mk (turns_ad HAD.out HT1.out (k + 1) (.int .i64 xv.1) xv.2.2)
          rw [HEX.out.1, HEX.out.2] at HR2 HT2
          refine hK.out _ _ ?_
          clear hK K hz0 hz1 p0 p1 p4 HZ2 HC2
          generalize hw2 : World.setCell (World.setCell w1 _ _) _ _ = wS at *
          clear hw2
          refine done_ (done_of HT_.out (by kernel_rfl)) ?_
          have HSW := Aside0.mk (swapped HSA.out hxl hyl HT2.out (by have := HR2.out; rw [← HYV.out, ← HXV.out] at this; exact this))
          have HTN := Aside0.mk (HT.out.trans_ HT2.out)
          have HGN : Aside0 (Seg a b Q (swapL dE Q' k (k + 1))) := ⟨HG.out.trans (Seg.swap (by omega) (by omega) (by omega) (by omega) (by rw [HG.out.len, HN.out]; exact hbN))⟩
          have HDN : Aside0 (Lift (kf dE (keyE nv) (swapL dE Q' k (k + 1))) a (k + 1) b) := ⟨HD.out.step hak (by omega) (by rw [HG.out.len, HN.out]; exact hbN) (by
            rw [HF.out.1 (k + 1) (by omega), HF.out.2]; exact Int.le_of_lt (HL.out (k + 1) (by omega) hk))⟩
          have HFN : Aside0 ((∀ q, k + 1 < q → kf dE (keyE nv) (swapL dE Q' k (k + 1)) q = kf dE (keyE nv) Q q) ∧ kf dE (keyE nv) (swapL dE Q' k (k + 1)) (k + 1) = kf dE (keyE nv) Q a) :=
            ⟨fun q hq => by rw [swap_kf Q' hxl hyl, if_neg (by omega), if_neg (by omega)]; exact HF.out.1 q (by omega), by rw [swap_kf Q' hxl hyl, if_pos rfl]; exact HF.out.2⟩
          clear f3 f4 f5 f6 f7
          go_wp2_with fail
          go_roundw
          case rel => exact ⟨k + 1, _, by go_num, by omega, by omega, HSW, HGN, HDN, HFN, HTN⟩
          case measure => simp [intOf]; omega
        · have hk2 : ¬ (k : Int) < (i : Int) - 1 := by omega
          go_wp2_with fail
          refine bodyPost_ret (results_none rfl _ _ _) rfl ?_
          exact ⟨rfl, ⟨Q', HSA.out, HG.out, HD.out.stop (fun q h1 h2 => by rw [HF.out.1 q h1, HF.out.2]; have h9 := HR.out q (by omega) h2; omega)⟩, HT.out⟩
end Go.Proofs.Ytealiaafdkhonaa.Vp

namespace Go.Proofs.Ytealiaafdkhonaa.Vp
open Go.RowKit Go.Sort Mb Base Sq Go.Proofs.YtealiaafdkhonaaW.PrintWords Go.Proofs.YtealiaafdkhonaaW.PrintLast Go.Proofs.YtealiaafdkhonaaW.PrintMore
set_option linter.unusedVariables false
set_option linter.unusedSimpArgs false
noncomputable def so71_23.T : Bool × List (List Nat × List Nat) := rtab .any (opsOf Try.f71 23)
def so71_23.B : List Nat := [0, 0, 0, 0, 8, 0, 0, 64, 224, 480, 0, 0, 3072, 7168, 16355, 32739, 65535, 131071]
theorem so71_23.tab : rtab .any (opsOf Try.f71 23) = so71_23.T := rfl
theorem so71_23.bits : waitsOk so71_23.T.2 so71_23.B = true := by kernel_rfl
set_option maxRecDepth 100000 in
set_option maxHeartbeats 4000000 in
theorem symMerge_two (W : World) (nb ng : Nat) (nv : List Int) (g : Nat) (Q : List E) (c : Nat) (h : SortAt W nb ng nv g Q) (N : Nat) (hN : Q.length = N) (hNb : N ≤ 1000000) (a m b : Nat) (ham : a + 1 < m) (hmb : b = m + 1) (hbN : b ≤ N) (h1 : Up (kf dE (keyE nv) Q) a m) :
    Calls Try.prog 71 #[.slice (some ⟨g, 0, none⟩) N c, .int .i64 (a : Nat), .int .i64 (m : Nat), .int .i64 (b : Nat), .func (.func 54) #[] #[.pointer (some ⟨nb, 0, none⟩)]] W (SortDone W nb ng nv g Q (fun Q' => Seg a b Q Q' ∧ Up (kf dE (keyE nv) Q') a b)) := by
  obtain ⟨ad, had⟩ : ∃ ad : Addr, ad = ⟨g, 0, none⟩ := ⟨_, rfl⟩
  rw [← had]
  have HAD := Aside0.mk had
  have HN := Aside0.mk hN
  have HS0 := Aside0.mk h
  have HU := Aside0.mk h1
  have g0 : ((m : Int) - (a : Int) == 1) = false := by rw [beq_eq_false_iff_ne]; omega
  have g1 : (b : Int) - (m : Int) = 1 := by omega
  have HMB := Aside0.mk hmb
  have ham1 : m + 1 ≤ b ∧ b ≤ m + 1 := by omega
  obtain ⟨ham2, ham3⟩ := ham1
  clear had hN h h1 hmb
  go_enter Try.func71, Try.ntmps71
  go_wp2_with fail
  go_loopw [14, 15] (fun z1 z2 wr => ∃ i j : Nat, z1 = .int .i64 i ∧ z2 = .int .i64 j ∧ a ≤ i ∧ i ≤ j ∧ j ≤ m ∧ Aside0 (SortAt wr nb ng nv g Q) ∧ Aside0 (∀ k, a ≤ k → k < i → ¬ kf dE (keyE nv) Q m < kf dE (keyE nv) Q k) ∧ Aside0 (∀ k, j ≤ k → k < m → kf dE (keyE nv) Q m < kf dE (keyE nv) Q k) ∧ Aside0 (Turns (fun j => j = g) W wr)) (fun z1 z2 _ => (intOf z2).toNat - (intOf z1).toNat)
  case atStart => exact ⟨a, m, rfl, rfl, by omega, by omega, by omega, HS0, ⟨fun k h1 h2 => by omega⟩, ⟨fun k h1 h2 => by omega⟩, ⟨Turns.rfl_ W⟩⟩
  case round =>
    obtain ⟨i, j, rfl, rfl, hmi, hij, hjb, HSA, HL, HR, HT⟩ := hrel
    by_cases hlt : i < j
    · have hlt2 : (i : Int) < (j : Int) := by omega
      obtain ⟨h, hh, hh1, hh2⟩ : ∃ h : Nat, (i + j) / 2 = h ∧ i ≤ h ∧ h < j := ⟨_, rfl, by omega, by omega⟩
      have hmid : ((i : Int) + (j : Int)) / 2 = (h : Int) := by omega
      have hxl : m < Q.length := by rw [HN.out]; omega
      have hyl : h < Q.length := by rw [HN.out]; omega
      have f1 : (0 : Int) ≤ (h : Int) := by omega
      have f2 : (h : Int) < (N : Int) := by omega
      have f3 : (0 : Int) ≤ (m : Int) := by omega
      have f4 : (m : Int) < (N : Int) := by omega
      obtain ⟨cx0, cx1⟩ := HSA.out.drew.cell_ad HAD.out (m) hxl
      obtain ⟨cy0, cy1⟩ := HSA.out.drew.cell_ad HAD.out (h) hyl
      obtain ⟨xA, xN, xC, hxs⟩ := slice_val (HSA.out.mem (m) hxl).1
      obtain ⟨yA, yN, yC, hys⟩ := slice_val (HSA.out.mem (h) hyl).1
      have HCM := Aside0.mk (cmpE_calls wr.drew nb ng nv HSA.out.drew.ctx (Q.getD (m) dE) (Q.getD (h) dE) (HSA.out.drew.mem (m) hxl) (HSA.out.drew.mem (h) hyl))
      obtain ⟨x1, hx1⟩ : ∃ x1, (Q.getD (m) dE).1 = x1 := ⟨_, rfl⟩
      obtain ⟨y1, hy1⟩ : ∃ y1, (Q.getD (h) dE).1 = y1 := ⟨_, rfl⟩
      rw [hxs] at cx1
      rw [hys] at cy1
      rw [hx1] at cx0
      rw [hy1] at cy0
      rw [hx1, hy1, hxs, hys] at HCM
      obtain ⟨r, hr⟩ : ∃ r, Lib.compareInt (keyE nv (Q.getD (m) dE)) (keyE nv (Q.getD (h) dE)) = r := ⟨_, rfl⟩
      rw [hr] at HCM
      have HRC : Aside0 (r < 0 ↔ kf dE (keyE nv) Q (m) < kf dE (keyE nv) Q (h)) := ⟨by rw [← hr]; exact cmpI_neg _ _⟩
      clear hx1 hy1 hxs hys hr
      go_upto_region 17 with (fail)
      obtain ⟨bq, hbq⟩ : ∃ bq, (!decide (r < 0)) = bq := ⟨_, rfl⟩
      have HBQ := Aside0.mk hbq
      clear hbq
      go_cut [103] (fun v wc => v = .bool bq ∧ Aside0 (Below wr.heap.size wr wc))
      case first =>
        go_region_held3 (fun w' => w'.cell? (ad.add ((m) * 2)) = some (.int .i64 x1) ∧ w'.cell? ⟨(ad.add ((m) * 2)).block, (ad.add ((m) * 2)).off + 1, none⟩ = some (.slice xA xN xC) ∧ w'.cell? (ad.add ((h) * 2)) = some (.int .i64 y1) ∧ w'.cell? ⟨(ad.add ((h) * 2)).block, (ad.add ((h) * 2)).off + 1, none⟩ = some (.slice yA yN yC))
          (first | (go_split_ands; refine ⟨?_, ?_, ?_, ?_⟩ <;> assumption) | (go_split_ands; refine ⟨?_, ?_, ?_, ?_⟩ <;> (refine pw_cell_below hb9 ?_; assumption)) | (go_keep; done))
          ((go_at_call 54; refine HCM.out.mono ?_; rintro e w9 ⟨rfl, hb9⟩))
        all_goals (go_wp2_with fail; go_meet; exact ⟨by rw [← HBQ.out], ⟨below_step (below_drew1 (Below.refl wr.heap.size wr)) hb9⟩⟩)
      case rest =>
        obtain ⟨rfl, HBC⟩ := hcut
        have HSC := Aside0.mk (HSA.out.below HBC.out)
        have HTC : Aside0 (Turns (fun j => j = g) W wc) := ⟨HT.out.trans_ (Turns.of_below HBC.out)⟩
        by_cases hc : r < 0
        · obtain rfl : bq = false := by rw [← HBQ.out, decide_eq_true hc]; rfl
          have HR2 : Aside0 (∀ k, h ≤ k → k < m → kf dE (keyE nv) Q m < kf dE (keyE nv) Q k) := ⟨fun k h1 h2 => by
            have h3 := HRC.out.1 hc
            by_cases e : h = k
            · rw [← e]; exact h3
            · exact Int.lt_of_lt_of_le h3 (HU.out h k (by omega) (by omega) h2)⟩
          clear HRC cx0 cx1 cy0 cy1 HCM
          go_wp2_with fail
          go_roundw
          case rel => exact ⟨i, h, rfl, rfl, hmi, by omega, by omega, HSC, HL, HR2, HTC⟩
          case measure => simp [intOf]; omega
        · obtain rfl : bq = true := by rw [← HBQ.out, decide_eq_false hc]; rfl
          have HL2 : Aside0 (∀ k, a ≤ k → k < h + 1 → ¬ kf dE (keyE nv) Q m < kf dE (keyE nv) Q k) := ⟨fun k h1 h2 h4 => by
            have h3 : ¬ kf dE (keyE nv) Q m < kf dE (keyE nv) Q h := fun e => hc (HRC.out.2 e)
            by_cases e : k = h
            · rw [e] at h4; exact h3 h4
            · exact h3 (Int.lt_of_lt_of_le h4 (HU.out k h h1 (by omega) (by omega)))⟩
          clear HRC cx0 cx1 cy0 cy1 HCM
          go_wp2_with fail
          go_roundw
          case rel => exact ⟨h + 1, j, by go_num, rfl, by omega, by omega, hjb, HSC, HL2, HR, HTC⟩
          case measure => simp [intOf]; omega
    · obtain rfl : i = j := by omega
      have hlt2 : ¬ (i : Int) < (i : Int) := by omega
      obtain ⟨wo, hwo⟩ : ∃ wo : World, wo = wr := ⟨_, rfl⟩
      subst hwo
      have HLS : Aside0 (Down (kf dE (keyE nv) Q) a m m) := ⟨Down.start HU.out⟩
      go_wp2_with fail
      go_loopw [17] (fun z wr => ∃ (k : Nat) (Q' : List E), z = .int .i64 k ∧ i ≤ k ∧ k ≤ m ∧ Aside0 (SortAt wr nb ng nv g Q') ∧ Aside0 (Seg a b Q Q') ∧ Aside0 (Down (kf dE (keyE nv) Q') a k m) ∧ Aside0 ((∀ q, q < k → kf dE (keyE nv) Q' q = kf dE (keyE nv) Q q) ∧ kf dE (keyE nv) Q' k = kf dE (keyE nv) Q m) ∧ Aside0 (Turns (fun j => j = g) W wr)) (fun z _ => (intOf z).toNat)
      case atStart => exact ⟨m, Q, rfl, by omega, by omega, HSA, ⟨Seg.refl _ _ _⟩, HLS, ⟨fun q _ => rfl, rfl⟩, HT⟩
      case round =>
        obtain ⟨k, Q', rfl, hik, hkm, HSA, HG, HD, HF, HT⟩ := hrel
        by_cases hk : i < k
        · have hk2 : (i : Int) < (k : Int) := by omega
          have hxl : k < Q'.length := by rw [HG.out.len, HN.out]; omega
          have hyl : k - 1 < Q'.length := by rw [HG.out.len, HN.out]; omega
          have f1 : (0 : Int) ≤ (k : Int) := by omega
          have f2 : (k : Int) < (N : Int) := by omega
          have f3 : (0 : Int) ≤ (k : Int) - 1 := by omega
          have f4 : (k : Int) - 1 < (N : Int) := by omega
          have f5 : ((k : Int) - 1).toNat = k - 1 := by omega
          have f6 : IntKind.i64.wrap ((k : Int) - 1) = (k : Int) - 1 := IntWalk.i64_in _ (by omega)
          have f7 : wrap64 ((k : Int) - 1) = (k : Int) - 1 := by unfold wrap64; omega
          have f8 : (1 : Int) ≤ (k : Int) := by omega
          go_upto_region 23 with (fail)
          obtain ⟨xv, hxv⟩ : ∃ xv, Q'.getD (k) dE = xv := ⟨_, rfl⟩
          obtain ⟨yv, hyv⟩ : ∃ yv, Q'.getD (k - 1) dE = yv := ⟨_, rfl⟩
          have HXV := Aside0.mk hxv
          have HYV := Aside0.mk hyv
          obtain ⟨cx0, cx1⟩ := HSA.out.drew.cell_ad HAD.out (k) hxl
          obtain ⟨cy0, cy1⟩ := HSA.out.drew.cell_ad HAD.out (k - 1) hyl
          obtain ⟨xA, xN, xC, hxs⟩ := slice_val (HSA.out.mem (k) hxl).1
          obtain ⟨yA, yN, yC, hys⟩ := slice_val (HSA.out.mem (k - 1) hyl).1
          rw [hxv] at cx0 cx1 hxs
          rw [hyv] at cy0 cy1 hys
          rw [hxs] at cx1
          rw [hys] at cy1
          obtain ⟨x1, hx1⟩ : ∃ x1, xv.1 = x1 := ⟨_, rfl⟩
          obtain ⟨y1, hy1⟩ : ∃ y1, yv.1 = y1 := ⟨_, rfl⟩
          rw [hx1] at cx0
          rw [hy1] at cy0
          have HEX := Aside0.mk (⟨hx1, hxs⟩ : xv.1 = x1 ∧ xv.2.2 = .slice xA xN xC)
          have HEY := Aside0.mk (⟨hy1, hys⟩ : yv.1 = y1 ∧ yv.2.2 = .slice yA yN yC)
          have HRW := Aside0.mk HSA.out.row.drew
          have HTD : Aside0 (Turns (fun j => j = g) wr wr.drew) := ⟨Turns.drew (Turns.rfl_ _)⟩
          have HZ := Aside0.mk (frozen_ad HRW.out HAD.out (k))
          clear hxv hyv hx1 hy1 hxs hys
          refine start_ (n := 18) (S := fun w' => w'.cell? (ad.add ((k) * 2)) = some (.int .i64 x1) ∧ w'.cell? ⟨(ad.add ((k) * 2)).block, (ad.add ((k) * 2)).off + 1, none⟩ = some (.slice xA xN xC) ∧ w'.cell? (ad.add ((k - 1) * 2)) = some (.int .i64 y1) ∧ w'.cell? ⟨(ad.add ((k - 1) * 2)).block, (ad.add ((k - 1) * 2)).off + 1, none⟩ = some (.slice yA yN yC)) (ds := [15, 17]) #[false, false, false, false, false, false, false, false, false, false, false, false, false, false, false, false, false, false] (by kernel_rfl) rfl rfl ⟨cx0, cx1, cy0, cy1⟩ (fun hHeld => ?_)
          refine with_tabW so71_23.tab so71_23.bits (fun HT_ HW_ => ?_)
          generalize hwD : wr.drew = wD at *
          refine pure_ (i := 0) (N := some 113) (v := ?_) (a' := ?_) #[true, false, false, false, false, false, false, false, false, false, false, false, false, false, false, false, false, false] rfl rfl (any_of HT_.out (by kernel_rfl)) (fun _ _ _ h => h) (Or.inl ⟨by rfl, ?_⟩) ?_ ?_
          rotate_left
          · intro w'
            go_simp
            with_reducible rfl
          rotate_left
          · simp only [Act.put, List.setIfInBounds_toArray, List.set_cons_zero, List.set_cons_succ, i64_w, i32_w]
            rfl
          refine pure_ (i := 1) (N := some 114) (v := ?_) (a' := ?_) #[true, true, false, false, false, false, false, false, false, false, false, false, false, false, false, false, false, false] rfl rfl (any_of HT_.out (by kernel_rfl)) (fun _ _ _ h => h) (Or.inl ⟨by rfl, ?_⟩) ?_ ?_
          rotate_left
          · intro w'
            go_simp
            with_reducible rfl
          rotate_left
          · simp only [Act.put, List.setIfInBounds_toArray, List.set_cons_zero, List.set_cons_succ, i64_w, i32_w]
            rfl
          refine pure_ (i := 2) (N := some 115) (v := ?_) (a' := ?_) #[true, true, true, false, false, false, false, false, false, false, false, false, false, false, false, false, false, false] rfl rfl (any_of HT_.out (by kernel_rfl)) (fun _ _ _ h => h) (Or.inl ⟨by rfl, ?_⟩) ?_ ?_
          rotate_left
          · intro w'
            go_simp
            with_reducible rfl
          rotate_left
          · simp only [Act.put, List.setIfInBounds_toArray, List.set_cons_zero, List.set_cons_succ, i64_w, i32_w]
            rfl
          refine pure_ (i := 3) (N := some 116) (v := ?_) (a' := ?_) #[true, true, true, true, false, false, false, false, false, false, false, false, false, false, false, false, false, false] rfl rfl (any_of HT_.out (by kernel_rfl)) (fun _ _ _ h => h) (Or.inl ⟨by rfl, ?_⟩) ?_ ?_
          rotate_left
          · intro w'
            go_simp
            with_reducible rfl
          rotate_left
          · simp only [Act.put, List.setIfInBounds_toArray, List.set_cons_zero, List.set_cons_succ, i64_w, i32_w]
            rfl
          refine pure_ (i := 4) (N := some 117) (v := ?_) (a' := ?_) #[true, true, true, true, true, false, false, false, false, false, false, false, false, false, false, false, false, false] rfl rfl (any_of HT_.out (by kernel_rfl)) (fun _ _ _ h => h) (Or.inl ⟨by rfl, ?_⟩) ?_ ?_
          rotate_left
          · intro w'
            go_simp
            with_reducible rfl
          rotate_left
          · simp only [Act.put, List.setIfInBounds_toArray, List.set_cons_zero, List.set_cons_succ, i64_w, i32_w]
            rfl
          refine pure_ (i := 5) (N := some 118) (v := ?_) (a' := ?_) #[true, true, true, true, true, true, false, false, false, false, false, false, false, false, false, false, false, false] rfl rfl (any_of HT_.out (by kernel_rfl)) (fun _ _ _ h => h) (Or.inl ⟨by rfl, ?_⟩) ?_ ?_
          rotate_left
          · intro w'
            go_simp
            with_reducible rfl
          rotate_left
          · simp only [Act.put, List.setIfInBounds_toArray, List.set_cons_zero, List.set_cons_succ, i64_w, i32_w]
            rfl
          refine pure_ (i := 6) (N := some 119) (v := ?_) (a' := ?_) #[true, true, true, true, true, true, true, false, false, false, false, false, false, false, false, false, false, false] rfl rfl (any_of HT_.out (by kernel_rfl)) (fun _ _ _ h => h) (Or.inl ⟨by rfl, ?_⟩) ?_ ?_
          rotate_left
          · intro w'
            go_simp
            with_reducible rfl
          rotate_left
          · simp only [Act.put, List.setIfInBounds_toArray, List.set_cons_zero, List.set_cons_succ, i64_w, i32_w]
            rfl
          refine pure_ (i := 7) (N := some 120) (v := ?_) (a' := ?_) #[true, true, true, true, true, true, true, true, false, false, false, false, false, false, false, false, false, false] rfl rfl (any_of HT_.out (by kernel_rfl)) (fun _ _ _ h => h) (Or.inl ⟨by rfl, ?_⟩) ?_ ?_
          rotate_left
          · intro w'
            go_simp
            with_reducible rfl
          rotate_left
          · simp only [Act.put, List.setIfInBounds_toArray, List.set_cons_zero, List.set_cons_succ, i64_w, i32_w]
            rfl
          refine pure_ (i := 8) (N := some 121) (v := ?_) (a' := ?_) #[true, true, true, true, true, true, true, true, true, false, false, false, false, false, false, false, false, false] rfl rfl (any_of HT_.out (by kernel_rfl)) (fun _ _ _ h => h) (Or.inl ⟨by rfl, ?_⟩) ?_ ?_
          rotate_left
          · intro w'
            go_simp
            with_reducible rfl
          rotate_left
          · simp only [Act.put, List.setIfInBounds_toArray, List.set_cons_zero, List.set_cons_succ, i64_w, i32_w]
            rfl
          refine pure_ (i := 10) (N := some 123) (v := ?_) (a' := ?_) #[true, true, true, true, true, true, true, true, true, false, true, false, false, false, false, false, false, false] rfl rfl (any_of HT_.out (by kernel_rfl)) (fun _ _ _ h => h) (Or.inl ⟨by rfl, ?_⟩) ?_ ?_
          rotate_left
          · intro w'
            go_simp
            with_reducible rfl
          rotate_left
          · simp only [Act.put, List.setIfInBounds_toArray, List.set_cons_zero, List.set_cons_succ, i64_w, i32_w]
            rfl
          refine pure_ (i := 11) (N := some 124) (v := ?_) (a' := ?_) #[true, true, true, true, true, true, true, true, true, false, true, true, false, false, false, false, false, false] rfl rfl (any_of HT_.out (by kernel_rfl)) (fun _ _ _ h => h) (Or.inl ⟨by rfl, ?_⟩) ?_ ?_
          rotate_left
          · intro w'
            go_simp
            with_reducible rfl
          rotate_left
          · simp only [Act.put, List.setIfInBounds_toArray, List.set_cons_zero, List.set_cons_succ, i64_w, i32_w]
            rfl
          refine pure_ (i := 12) (N := some 125) (v := ?_) (a' := ?_) #[true, true, true, true, true, true, true, true, true, false, true, true, true, false, false, false, false, false] rfl rfl (any_of HT_.out (by kernel_rfl)) (fun _ _ _ h => h) (Or.inl ⟨by rfl, ?_⟩) ?_ ?_
          rotate_left
          · intro w'
            go_simp
            with_reducible rfl
          rotate_left
          · simp only [Act.put, List.setIfInBounds_toArray, List.set_cons_zero, List.set_cons_succ, i64_w, i32_w]
            rfl
          refine take_ (i := 9) (N := some 122) (v := ?_) (a' := ?_) #[true, true, true, true, true, true, true, true, true, true, true, true, true, false, false, false, false, false] rfl rfl (take_ofW HT_.out HW_.out (by kernel_rfl)) (fun _ _ _ h => h) (Or.inl ⟨by rfl, ?_⟩) hHeld ?_ ?_
          rotate_left
          · rintro w' ⟨s0, s1, s2, s3⟩
            go_simp
            with_reducible rfl
          rotate_left
          · simp only [Act.put, List.setIfInBounds_toArray, List.set_cons_zero, List.set_cons_succ, i64_w, i32_w]
            rfl
          refine take_ (i := 13) (N := some 126) (v := ?_) (a' := ?_) #[true, true, true, true, true, true, true, true, true, true, true, true, true, true, false, false, false, false] rfl rfl (take_ofW HT_.out HW_.out (by kernel_rfl)) (fun _ _ _ h => h) (Or.inl ⟨by rfl, ?_⟩) hHeld ?_ ?_
          rotate_left
          · rintro w' ⟨s0, s1, s2, s3⟩
            go_simp
            with_reducible rfl
          rotate_left
          · simp only [Act.put, List.setIfInBounds_toArray, List.set_cons_zero, List.set_cons_succ, i64_w, i32_w]
            rfl
          refine pure_ (i := 14) (N := some 127) (v := ?_) (a' := ?_) #[true, true, true, true, true, true, true, true, true, true, true, true, true, true, true, false, false, false] rfl rfl (any_of HT_.out (by kernel_rfl)) (fun _ _ _ h => h) (Or.inl ⟨by rfl, ?_⟩) ?_ ?_
          rotate_left
          · intro w'
            go_simp
            with_reducible rfl
          rotate_left
          · simp only [Act.put, List.setIfInBounds_toArray, List.set_cons_zero, List.set_cons_succ, i64_w, i32_w]
            rfl
          refine last_ (i := 15) (N := none) #[true, true, true, true, true, true, true, true, true, true, true, true, true, true, true, true, false, false] rfl rfl (one_of HT_.out (by kernel_rfl)) (by decide) (fun K hK => ?_)
          obtain ⟨hz0, hz1⟩ := HZ.out
          obtain ⟨p0, p1, p2, p3⟩ := hHeld
          have p4 := second_cell (u := .int .i64 y1) p1
          refine skip_ (w1 := ?_) (by rfl) rfl ?_ ?_
          rotate_left
          · go_simp
            rfl
          have HR1 := Aside0.mk (set_row_ad HRW.out HAD.out (k) hxl yv)
          have HT1 := Aside0.mk (turns_ad HAD.out HTD.out (k) (.int .i64 yv.1) yv.2.2)
          rw [HEY.out.1, HEY.out.2] at HR1 HT1
          refine hK.out _ _ ?_
          clear hK K hz0 hz1 p0 p1 p2 p3 p4 HZ
          generalize hw1 : World.setCell (World.setCell wD _ _) _ _ = w1 at *
          clear hw1
          have HZ2 := Aside0.mk (frozen_ad HR1.out HAD.out (k - 1))
          have HC2 := Aside0.mk (cell_row HR1.out HAD.out (k - 1) (by rw [List.length_set]; exact hyl))
          refine pure_ (i := 16) (N := some 128) (v := ?_) (a' := ?_) #[true, true, true, true, true, true, true, true, true, true, true, true, true, true, true, true, true, false] rfl rfl (any_of HT_.out (by kernel_rfl)) (fun _ _ _ h => h) (Or.inl ⟨by rfl, ?_⟩) ?_ ?_
          rotate_left
          · intro w'
            go_simp
            with_reducible rfl
          rotate_left
          · simp only [Act.put, List.setIfInBounds_toArray, List.set_cons_zero, List.set_cons_succ, i64_w, i32_w]
            rfl
          refine last_ (i := 17) (N := none) #[true, true, true, true, true, true, true, true, true, true, true, true, true, true, true, true, true, true] rfl rfl (one_of HT_.out (by kernel_rfl)) (by decide) (fun K hK => ?_)
          obtain ⟨hz0, hz1⟩ := HZ2.out
          obtain ⟨p0, p1⟩ := HC2.out
          have p4 := second_cell (u := .int .i64 x1) p1
          refine skip_ (w1 := ?_) (by rfl) rfl ?_ ?_
          rotate_left
          · go_simp
            rfl
          have HR2 := Aside0.mk (set_row_ad HR1.out HAD.out (k - 1) (by rw [List.length_set]; exact hyl) xv)
          have HT2 := Aside0.mk (turns_ad HAD.out HT1.out (k - 1) (.int .i64 xv.1) xv.2.2)
          rw [HEX.out.1, HEX.out.2] at HR2 HT2
          refine hK.out _ _ ?_
          clear hK K hz0 hz1 p0 p1 p4 HZ2 HC2
          generalize hw2 : World.setCell (World.setCell w1 _ _) _ _ = wS at *
          clear hw2
          refine done_ (done_of HT_.out (by kernel_rfl)) ?_
          have HSW := Aside0.mk (swapped HSA.out hxl hyl HT2.out (by have := HR2.out; rw [← HYV.out, ← HXV.out] at this; exact this))
          have HTN := Aside0.mk (HT.out.trans_ HT2.out)
          have HGN : Aside0 (Seg a b Q (swapL dE Q' k (k - 1))) := ⟨HG.out.trans (Seg.swap (by omega) (by omega) (by omega) (by omega) (by rw [HG.out.len, HN.out]; exact hbN))⟩
          have HDN : Aside0 (Down (kf dE (keyE nv) (swapL dE Q' k (k - 1))) a (k - 1) m) := ⟨HD.out.step (by omega) hkm (by rw [HG.out.len, HN.out]; omega) (by
            rw [HF.out.1 (k - 1) (by omega), HF.out.2]; exact HR.out (k - 1) (by omega) (by omega))⟩
          have HFN : Aside0 ((∀ q, q < k - 1 → kf dE (keyE nv) (swapL dE Q' k (k - 1)) q = kf dE (keyE nv) Q q) ∧ kf dE (keyE nv) (swapL dE Q' k (k - 1)) (k - 1) = kf dE (keyE nv) Q m) :=
            ⟨fun q hq => by rw [swap_kf Q' hxl hyl, if_neg (by omega), if_neg (by omega)]; exact HF.out.1 q (by omega), by rw [swap_kf Q' hxl hyl, if_pos rfl]; exact HF.out.2⟩
          have hj1 : (k : Int) - 1 = ((k - 1 : Nat) : Int) := by omega
          have HJ1 := Aside0.mk hj1
          clear f3 f4 f5 f6 f7 hj1
          go_wp2_with fail
          go_roundw
          case rel => exact ⟨k - 1, _, by rw [HJ1.out], by omega, by omega, HSW, HGN, HDN, HFN, HTN⟩
          case measure => simp [intOf]; omega
        · have hk2 : ¬ (i : Int) < (k : Int) := by omega
          go_wp2_with fail
          refine bodyPost_ret (results_none rfl _ _ _) rfl ?_
          refine ⟨rfl, ⟨Q', HSA.out, HG.out, ?_⟩, HT.out⟩
          have h9 := HD.out.stop (by
            by_cases e : k = a
            · exact .inl e
            · right
              rw [HF.out.1 (k - 1) (by omega), HF.out.2]
              have h9 := HL.out (k - 1) (by omega) (by omega)
              omega)
          rw [HMB.out]
          exact h9
end Go.Proofs.Ytealiaafdkhonaa.Vp
