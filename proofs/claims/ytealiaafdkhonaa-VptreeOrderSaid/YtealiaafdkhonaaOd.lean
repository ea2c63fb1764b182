/- VptreeOrder, walked. -/
import Derived.Test.YtealiaafdkhonaaOq
import Derived.Test.YtealiaafdkhonaaSz
import Derived.Test.YtealiaafdkhonaaLi
namespace Go.Proofs.Ytealiaafdkhonaa.Vp
open Go.RowKit Go.Sort Mb Base Go.Proofs.YtealiaafdkhonaaW.PrintWords Go.Proofs.YtealiaafdkhonaaW.PrintLast Go.Proofs.YtealiaafdkhonaaW.PrintMore
set_option linter.unusedVariables false
set_option linter.unusedSimpArgs false
noncomputable def od10.T : Bool × List (List Nat × List Nat) := rtab .any (opsOf Try.f5 10)
def od10.B : List Nat := [0, 0, 0, 0, 12, 28, 60, 124, 0, 0, 768, 1792, 3840, 7936, 16380, 32766, 65535]
theorem od10.tab : rtab .any (opsOf Try.f5 10) = od10.T := rfl
theorem od10.bits : waitsOk od10.T.2 od10.B = true := by kernel_rfl
noncomputable def od11.T : Bool × List (List Nat × List Nat) := rtab .any (opsOf Try.f5 11)
def od11.B : List Nat := [0, 0, 0, 0, 12, 28, 60, 124, 0, 0, 768, 1792, 3840, 7936, 16380, 32766, 65535]
theorem od11.tab : rtab .any (opsOf Try.f5 11) = od11.T := rfl
theorem od11.bits : waitsOk od11.T.2 od11.B = true := by kernel_rfl
theorem below_b {b b' : Nat} {W w1 w2 : World} (h : Below b W w1) (k : Below b' w1 w2) (hb : b ≤ b') : Below b W w2 := below_cat h (k.mono hb)
set_option maxRecDepth 100000 in
set_option maxHeartbeats 8000000 in
theorem order_calls (W : World) (A : Option Addr) (c : Nat) (s : List (Int × Int)) (x y turn : Int) (hr : ReadsRow P2 2 W A s.length s) (hc : s.length ≤ c) : Calls Try.prog 5 #[.slice A s.length c, .agg #[.int .i64 x, .int .i64 y], .int .i64 turn] W (Yes W) := by
  have HR := Aside0.mk hr
  obtain ⟨N, hN⟩ : ∃ N, s.length = N := ⟨_, rfl⟩
  have HN := Aside0.mk hN
  rw [hN] at hc
  rw [hN]
  clear hr hN
  obtain ⟨W1, hW1⟩ : ∃ W1, W.alloc (.cells #[.int .i64 x, .int .i64 y] 24) = W1 := ⟨_, rfl⟩
  have HVB : Aside0 (W1.heap[W.heap.size]? = some (.cells #[.int .i64 x, .int .i64 y] 24 (0, 0))) := ⟨by rw [← hW1]; exact blk_new _ _⟩
  have HB1 : Aside0 (Below W.heap.size W W1) := ⟨by rw [← hW1]; exact below_alloc (Below.refl _ _) _⟩
  have HW1 := Aside0.mk hW1
  clear hW1
  have q3 := Base.i64_and255 turn
  obtain ⟨t, ht⟩ : ∃ t : Nat, turn % 256 = (t : Int) := ⟨(turn % 256).toNat, by omega⟩
  have ht1 : t < 256 := by omega
  rw [ht] at q3
  obtain ⟨u, q4⟩ : ∃ u, bits .and .i64 (turn / 256) 255 = u := ⟨_, rfl⟩
  clear ht
  by_cases hlen : (60 : Int) < (N : Int)
  · go_enter Try.func5, Try.ntmps5
    go_upto_region 2 with (go_at_call 11; refine (hold_new 2 (by omega) (by omega) _).mono ?_; rintro e w1 ⟨⟨ga, maa, rfl, hh⟩, hb⟩; have e25 : ∀ w, (binOp .eql 25 (.pointer (some ⟨ga, 0, none⟩)) (.pointer none)).run Try.prog w = .ok (.bool false) w := (fun w => by kernel_rfl); have e25n : ∀ w, (binOp .neq 25 (.pointer (some ⟨ga, 0, none⟩)) (.pointer none)).run Try.prog w = .ok (.bool true) w := (fun w => by kernel_rfl); have HB2 := Aside0.mk hb; clear hb hh)
    go_upto_region 3 with (go_at_call 11; refine (hold_new 2 (by omega) (by omega) _).mono ?_; rintro e w2 ⟨⟨gb, mab, rfl, hh⟩, hb⟩; have e26 : ∀ w, (binOp .eql 25 (.pointer (some ⟨gb, 0, none⟩)) (.pointer none)).run Try.prog w = .ok (.bool false) w := (fun w => by kernel_rfl); have e26n : ∀ w, (binOp .neq 25 (.pointer (some ⟨gb, 0, none⟩)) (.pointer none)).run Try.prog w = .ok (.bool true) w := (fun w => by kernel_rfl); have HB3 := Aside0.mk hb; clear hb hh)
    rw [HW1.out] at HB2
    go_wp2_with (go_at_call 12; refine (awake_calls _).mono ?_; rintro e w3 ⟨rfl, hb3⟩; have HB4 := Aside0.mk hb3; clear hb3)
    go_ret
    exact ⟨rfl, below_step (below_step (below_step HB1.out HB2.out) HB3.out) HB4.out⟩
  · go_enter Try.func5, Try.ntmps5
    go_upto_region 2 with (go_at_call 11; refine (hold_new 2 (by omega) (by omega) _).mono ?_; rintro e w1 ⟨⟨ga, maa, rfl, hh⟩, hb⟩; have e25 : ∀ w, (binOp .eql 25 (.pointer (some ⟨ga, 0, none⟩)) (.pointer none)).run Try.prog w = .ok (.bool false) w := (fun w => by kernel_rfl); have HB2 := Aside0.mk hb; have HH1 := Aside0.mk hh; clear hb hh)
    go_upto_region 5 with (go_at_call 11; refine (hold_new 2 (by omega) (by omega) _).mono ?_; rintro e w2 ⟨⟨gb, mab, rfl, hh⟩, hb⟩; have e26 : ∀ w, (binOp .eql 25 (.pointer (some ⟨gb, 0, none⟩)) (.pointer none)).run Try.prog w = .ok (.bool false) w := (fun w => by kernel_rfl); have HB3 := Aside0.mk hb; have HH2 := Aside0.mk hh; clear hb hh)
    rw [HW1.out] at HB2 HH1
    have HT : Aside0 (Two w2 W1.heap.size ga maa gb mab 2 [] []) := ⟨two_new HH1.out HB2.out HH2.out HB3.out⟩
    have HBB : Aside0 (Below W1.heap.size W1 w2) := ⟨below_step HB2.out HB3.out⟩
    obtain ⟨b0, hb0⟩ : ∃ b0, W1.heap.size = b0 := ⟨_, rfl⟩
    have HB0 := Aside0.mk hb0
    rw [hb0] at HT HBB
    have hN60 : N ≤ 60 := by omega
    clear hb0 HH1 HH2 HB2 HB3
    go_wp2_with fail
    go_loopw [12] (fun z wr => ∃ i : Nat, z = .int .i64 i ∧ i ≤ N ∧ Aside0 (∃ L, OrdB s N t i L ∧ Two wr b0 ga maa gb mab 2 (rowsH s i) L) ∧ Aside0 (Below b0 W1 wr)) (fun z _ => N - (intOf z).toNat)
    case atStart => exact ⟨0, rfl, Nat.zero_le _, ⟨[], OrdB.start _ _ _, HT.out⟩, HBB⟩
    case round =>
      obtain ⟨i, rfl, hi, ⟨⟨L, hO, hH⟩⟩, HB⟩ := hrel
      have HO := Aside0.mk hO
      have HH := Aside0.mk hH
      clear hO hH
      by_cases hlt : i < N
      · have hlt' : (i : Int) < (N : Int) := by omega
        have hi0 : (0 : Int) ≤ (i : Int) := by omega
        obtain ⟨k, hk⟩ : ∃ k, (i + t) % N = k := ⟨_, rfl⟩
        have hkN : k < N := by rw [← hk]; exact Nat.mod_lt _ (by omega)
        have hkI : ((i : Int) + (t : Int)) % (N : Int) = (k : Int) := by rw [← hk]; simp
        have hkT : ((i : Int) + (t : Int)).tmod (N : Int) = (k : Int) := by rw [Int.tmod_eq_emod_of_nonneg (by omega)]; exact hkI
        have HK := Aside0.mk hk
        have hkN' : (k : Int) < (N : Int) := by omega
        have hk0 : (0 : Int) ≤ (k : Int) := by omega
        have hn0 : (0 : Int) < (N : Int) := by omega
        clear hk
        go_upto_region 10 with (fail)
        clear hkI hkT
        obtain ⟨ad, e0, r0', r1'⟩ := at_two HR.out i (by have := HN.out; omega)
        subst e0
        obtain ⟨x0, hx0⟩ : ∃ x0, (s[i]'(by have := HN.out; omega)).1 = x0 := ⟨_, rfl⟩
        obtain ⟨y0, hy0⟩ : ∃ y0, (s[i]'(by have := HN.out; omega)).2 = y0 := ⟨_, rfl⟩
        rw [hx0] at r0'
        rw [hy0] at r1'
        have hbd : RowKit.Below W.heap.size W wr.drew := below_b HB1.out HB.out.drew (by rw [← HB0.out]; exact HB1.out.size)
        have r0 : wr.drew.cell? (ad.add (i * 2)) = some (.int .i64 x0) := pw_cell_below hbd r0'
        have r1 : wr.drew.cell? ⟨(ad.add (i * 2)).block, (ad.add (i * 2)).off + 1, none⟩ = some (.int .i64 y0) := pw_cell_below hbd r1'
        have HGD : Aside0 (s.getD i (0, 0) = (x0, y0)) := ⟨by rw [List.getD_eq_getElem?_getD, List.getElem?_eq_getElem (by have := HN.out; omega)]; exact Prod.ext hx0 hy0⟩
        have q1 := i64_and65535 x0
        have q2 := i64_and65535 y0
        obtain ⟨x1, hx1⟩ : ∃ x1, x0 % 65536 = x1 := ⟨_, rfl⟩
        obtain ⟨y1, hy1⟩ : ∃ y1, y0 % 65536 = y1 := ⟨_, rfl⟩
        rw [hx1] at q1
        rw [hy1] at q2
        have HBD : Aside0 (Below b0 W1 wr.drew) := ⟨HB.out.drew⟩
        have HAT : Aside0 (at16 s i = [x1, y1]) := ⟨by unfold at16; rw [HGD.out, ← hx1, ← hy1]; rfl⟩
        have HPUT : Aside0 (Calls Try.prog 15 #[.pointer (some ⟨ga, 0, none⟩), .agg #[.int .i64 i, .slice (some ⟨wr.drew.heap.size, 0, none⟩) 2 2]] (wr.drew.alloc (.cells #[.int .i64 x1, .int .i64 y1] 3)) (TwoD (wr.drew.alloc (.cells #[.int .i64 x1, .int .i64 y1] 3)) b0 ga maa gb mab 2 (rowsH s (i + 1)) L (.tuple #[.bool false, .int .i64 0]))) := ⟨by
          have h1 := two_put ((HH.out.below (below_drew1 (Below.refl _ _))).below (below_alloc (Below.refl _ _) (.cells #[.int .i64 x1, .int .i64 y1] 3))) (i : Int) (by show decide _ = true; simp [IntKind.wrap]; omega) (some ⟨wr.drew.heap.size, 0, none⟩) 2 [x1, y1] (C_two2 (blk_new _ _)) (by rw [← HAT.out]; exact (at16_ok s i).1) rfl false (by rw [rowsH_look]; rfl) (.inr (by rw [rowsH_len]; omega))
          rw [← HAT.out, rowsH_put] at h1
          exact h1⟩
        have HLT : Aside0 (b0 ≤ wr.drew.heap.size) := ⟨(HH.out.below (below_drew1 (Below.refl _ _))).lt⟩
        clear hx0 hy0 hx1 hy1 r0' r1' hbd
        refine start_ (n := 17) (S := fun w' => w'.cell? (ad.add (i * 2)) = some (.int .i64 x0) ∧ w'.cell? ⟨(ad.add (i * 2)).block, (ad.add (i * 2)).off + 1, none⟩ = some (.int .i64 y0)) (ds := [16]) #[false, false, false, false, false, false, false, false, false, false, false, false, false, false, false, false, false] (by kernel_rfl) rfl rfl ⟨r0, r1⟩ (fun hHeld => ?_)
        refine with_tabW od10.tab od10.bits (fun HT_ HW_ => ?_)
        generalize hwEwE : wr.drew = wE at *
        refine pure_ (i := 0) (N := some 76) (v := ?_) (a' := ?_) #[true, false, false, false, false, false, false, false, false, false, false, false, false, false, false, false, false] rfl rfl (any_of HT_.out (by kernel_rfl)) (fun _ _ _ h => h) (Or.inl ⟨by rfl, ?_⟩) ?_ ?_
        rotate_left
        · intro w'
          go_simp
          with_reducible rfl
        rotate_left
        · simp only [Act.put, List.setIfInBounds_toArray, List.set_cons_zero, List.set_cons_succ, i64_w, i32_w]
          rfl
        refine pure_ (i := 1) (N := some 77) (v := ?_) (a' := ?_) #[true, true, false, false, false, false, false, false, false, false, false, false, false, false, false, false, false] rfl rfl (any_of HT_.out (by kernel_rfl)) (fun _ _ _ h => h) (Or.inl ⟨by rfl, ?_⟩) ?_ ?_
        rotate_left
        · intro w'
          go_simp
          with_reducible rfl
        rotate_left
        · simp only [Act.put, List.setIfInBounds_toArray, List.set_cons_zero, List.set_cons_succ, i64_w, i32_w]
          rfl
        refine pure_ (i := 2) (N := some 78) (v := ?_) (a' := ?_) #[true, true, true, false, false, false, false, false, false, false, false, false, false, false, false, false, false] rfl rfl (any_of HT_.out (by kernel_rfl)) (fun _ _ _ h => h) (Or.inl ⟨by rfl, ?_⟩) ?_ ?_
        rotate_left
        · intro w'
          go_simp
          with_reducible rfl
        rotate_left
        · simp only [Act.put, List.setIfInBounds_toArray, List.set_cons_zero, List.set_cons_succ, i64_w, i32_w]
          rfl
        refine pure_ (i := 3) (N := some 79) (v := ?_) (a' := ?_) #[true, true, true, true, false, false, false, false, false, false, false, false, false, false, false, false, false] rfl rfl (any_of HT_.out (by kernel_rfl)) (fun _ _ _ h => h) (Or.inl ⟨by rfl, ?_⟩) ?_ ?_
        rotate_left
        · intro w'
          go_simp
          with_reducible rfl
        rotate_left
        · simp only [Act.put, List.setIfInBounds_toArray, List.set_cons_zero, List.set_cons_succ, i64_w, i32_w]
          rfl
        refine pure_ (i := 4) (N := some 80) (v := ?_) (a' := ?_) #[true, true, true, true, true, false, false, false, false, false, false, false, false, false, false, false, false] rfl rfl (any_of HT_.out (by kernel_rfl)) (fun _ _ _ h => h) (Or.inl ⟨by rfl, ?_⟩) ?_ ?_
        rotate_left
        · intro w'
          go_simp
          with_reducible rfl
        rotate_left
        · simp only [Act.put, List.setIfInBounds_toArray, List.set_cons_zero, List.set_cons_succ, i64_w, i32_w]
          rfl
        refine pure_ (i := 5) (N := some 81) (v := ?_) (a' := ?_) #[true, true, true, true, true, true, false, false, false, false, false, false, false, false, false, false, false] rfl rfl (any_of HT_.out (by kernel_rfl)) (fun _ _ _ h => h) (Or.inl ⟨by rfl, ?_⟩) ?_ ?_
        rotate_left
        · intro w'
          go_simp
          with_reducible rfl
        rotate_left
        · simp only [Act.put, List.setIfInBounds_toArray, List.set_cons_zero, List.set_cons_succ, i64_w, i32_w]
          rfl
        refine pure_ (i := 8) (N := some 84) (v := ?_) (a' := ?_) #[true, true, true, true, true, true, false, false, true, false, false, false, false, false, false, false, false] rfl rfl (any_of HT_.out (by kernel_rfl)) (fun _ _ _ h => h) (Or.inl ⟨by rfl, ?_⟩) ?_ ?_
        rotate_left
        · intro w'
          go_simp
          with_reducible rfl
        rotate_left
        · simp only [Act.put, List.setIfInBounds_toArray, List.set_cons_zero, List.set_cons_succ, i64_w, i32_w]
          rfl
        refine pure_ (i := 9) (N := some 85) (v := ?_) (a' := ?_) #[true, true, true, true, true, true, false, false, true, true, false, false, false, false, false, false, false] rfl rfl (any_of HT_.out (by kernel_rfl)) (fun _ _ _ h => h) (Or.inl ⟨by rfl, ?_⟩) ?_ ?_
        rotate_left
        · intro w'
          go_simp
          with_reducible rfl
        rotate_left
        · simp only [Act.put, List.setIfInBounds_toArray, List.set_cons_zero, List.set_cons_succ, i64_w, i32_w]
          rfl
        refine pure_ (i := 10) (N := some 86) (v := ?_) (a' := ?_) #[true, true, true, true, true, true, false, false, true, true, true, false, false, false, false, false, false] rfl rfl (any_of HT_.out (by kernel_rfl)) (fun _ _ _ h => h) (Or.inl ⟨by rfl, ?_⟩) ?_ ?_
        rotate_left
        · intro w'
          go_simp
          with_reducible rfl
        rotate_left
        · simp only [Act.put, List.setIfInBounds_toArray, List.set_cons_zero, List.set_cons_succ, i64_w, i32_w]
          rfl
        refine pure_ (i := 11) (N := some 87) (v := ?_) (a' := ?_) #[true, true, true, true, true, true, false, false, true, true, true, true, false, false, false, false, false] rfl rfl (any_of HT_.out (by kernel_rfl)) (fun _ _ _ h => h) (Or.inl ⟨by rfl, ?_⟩) ?_ ?_
        rotate_left
        · intro w'
          go_simp
          with_reducible rfl
        rotate_left
        · simp only [Act.put, List.setIfInBounds_toArray, List.set_cons_zero, List.set_cons_succ, i64_w, i32_w]
          rfl
        refine take_ (i := 6) (N := some 82) (v := ?_) (a' := ?_) #[true, true, true, true, true, true, true, false, true, true, true, true, false, false, false, false, false] rfl rfl (take_ofW HT_.out HW_.out (by kernel_rfl)) (fun _ _ _ h => h) (Or.inl ⟨by rfl, ?_⟩) hHeld ?_ ?_
        rotate_left
        · rintro w' ⟨s0, s1⟩
          go_simp
          with_reducible rfl
        rotate_left
        · simp only [Act.put, List.setIfInBounds_toArray, List.set_cons_zero, List.set_cons_succ, i64_w, i32_w]
          rfl
        refine pure_ (i := 7) (N := some 83) (v := ?_) (a' := ?_) #[true, true, true, true, true, true, true, true, true, true, true, true, false, false, false, false, false] rfl rfl (any_of HT_.out (by kernel_rfl)) (fun _ _ _ h => h) (Or.inl ⟨by rfl, ?_⟩) ?_ ?_
        rotate_left
        · intro w'
          go_simp
          with_reducible rfl
        rotate_left
        · simp only [Act.put, List.setIfInBounds_toArray, List.set_cons_zero, List.set_cons_succ, i64_w, i32_w]
          rfl
        refine take_ (i := 12) (N := some 88) (v := ?_) (a' := ?_) #[true, true, true, true, true, true, true, true, true, true, true, true, true, false, false, false, false] rfl rfl (take_ofW HT_.out HW_.out (by kernel_rfl)) (fun _ _ _ h => h) (Or.inl ⟨by rfl, ?_⟩) hHeld ?_ ?_
        rotate_left
        · rintro w' ⟨s0, s1⟩
          go_simp
          with_reducible rfl
        rotate_left
        · simp only [Act.put, List.setIfInBounds_toArray, List.set_cons_zero, List.set_cons_succ, i64_w, i32_w]
          rfl
        refine pure_ (i := 13) (N := some 89) (v := ?_) (a' := ?_) #[true, true, true, true, true, true, true, true, true, true, true, true, true, true, false, false, false] rfl rfl (any_of HT_.out (by kernel_rfl)) (fun _ _ _ h => h) (Or.inl ⟨by rfl, ?_⟩) ?_ ?_
        rotate_left
        · intro w'
          go_simp
          with_reducible rfl
        rotate_left
        · simp only [Act.put, List.setIfInBounds_toArray, List.set_cons_zero, List.set_cons_succ, i64_w, i32_w]
          rfl
        refine one_ (i := 14) (N := some 90) #[true, true, true, true, true, true, true, true, true, true, true, true, true, true, true, false, false] rfl rfl (one_of HT_.out (by kernel_rfl)) (by decide) (fun K hK => ?_)
        refine value_ (v := .slice (some ⟨wE.heap.size, 0, none⟩) 2 2) (w1 := wE.alloc (.cells #[.int .i64 x1, .int .i64 y1] 3)) (by rfl) rfl ?_ ?_
        · go_simp
        refine hK.out _ _ ⟨pw_cell_below (below_alloc (Below.refl _ _) _) hHeld.1, pw_cell_below (below_alloc (Below.refl _ _) _) hHeld.2⟩ (fun hH2 => ?_)
        clear hHeld hK K
        refine norm_ (a' := ?_) ?_ ?_
        rotate_left
        · simp only [Act.put, List.setIfInBounds_toArray, List.set_cons_zero, List.set_cons_succ, i64_w, i32_w]
          rfl
        refine pure_ (i := 15) (N := some 91) (v := ?_) (a' := ?_) #[true, true, true, true, true, true, true, true, true, true, true, true, true, true, true, true, false] rfl rfl (any_of HT_.out (by kernel_rfl)) (fun _ _ _ h => h) (Or.inl ⟨by rfl, ?_⟩) ?_ ?_
        rotate_left
        · intro w'
          go_simp
          with_reducible rfl
        rotate_left
        · simp only [Act.put, List.setIfInBounds_toArray, List.set_cons_zero, List.set_cons_succ, i64_w, i32_w]
          rfl
        refine last_ (i := 16) (N := some 92) #[true, true, true, true, true, true, true, true, true, true, true, true, true, true, true, true, true] rfl rfl (one_of HT_.out (by kernel_rfl)) (by decide) (fun K hK => ?_)
        refine goes_ Try.func15 (by kernel_rfl) rfl #[.pointer (some ⟨ga, 0, none⟩), .agg #[.int .i64 i, .slice (some ⟨wE.heap.size, 0, none⟩) 2 2]] (by rfl) rfl rfl (by (try simp only [List.map_toArray, List.map_cons, List.map_nil]); first | done | rfl) ?_
        refine HPUT.out.mono ?_
        rintro e w9 ⟨rfl, ht9, hb9, _⟩
        refine ⟨_, rfl, ?_⟩
        have HT9 := Aside0.mk ht9
        have HB9 := Aside0.mk hb9
        refine hK.out _ _ ?_
        clear hK K hH2 ht9 hb9
        simp only [Act.put, List.setIfInBounds_toArray, List.set_cons_zero, List.set_cons_succ, i64_w, i32_w]
        refine done_ (done_of HT_.out (by kernel_rfl)) ?_
        clear r0 r1 q1 q2
        have HBA : Aside0 (Below b0 W1 w9) := ⟨below_cat (below_cat HBD.out (below_alloc0 HLT.out _)) HB9.out⟩
        obtain ⟨ad2, e0, r0', r1'⟩ := at_two HR.out k (by have := HN.out; omega)
        cases e0
        obtain ⟨x0, hx0⟩ : ∃ x0, (s[k]'(by have := HN.out; omega)).1 = x0 := ⟨_, rfl⟩
        obtain ⟨y0, hy0⟩ : ∃ y0, (s[k]'(by have := HN.out; omega)).2 = y0 := ⟨_, rfl⟩
        rw [hx0] at r0'
        rw [hy0] at r1'
        have hbd : RowKit.Below W.heap.size W w9.drew := below_b HB1.out HBA.out.drew (by rw [← HB0.out]; exact HB1.out.size)
        have r0 : w9.drew.cell? (ad.add (k * 2)) = some (.int .i64 x0) := pw_cell_below hbd r0'
        have r1 : w9.drew.cell? ⟨(ad.add (k * 2)).block, (ad.add (k * 2)).off + 1, none⟩ = some (.int .i64 y0) := pw_cell_below hbd r1'
        have HGD2 : Aside0 (s.getD k (0, 0) = (x0, y0)) := ⟨by rw [List.getD_eq_getElem?_getD, List.getElem?_eq_getElem (by have := HN.out; omega)]; exact Prod.ext hx0 hy0⟩
        have q1 := i64_and65535 x0
        have q2 := i64_and65535 y0
        obtain ⟨x2, hx1⟩ : ∃ x2, x0 % 65536 = x2 := ⟨_, rfl⟩
        obtain ⟨y2, hy1⟩ : ∃ y2, y0 % 65536 = y2 := ⟨_, rfl⟩
        rw [hx1] at q1
        rw [hy1] at q2
        have HBD2 : Aside0 (Below b0 W1 w9.drew) := ⟨HBA.out.drew⟩
        have HAT2 : Aside0 (at16 s k = [x2, y2]) := ⟨by unfold at16; rw [HGD2.out, ← hx1, ← hy1]; rfl⟩
        have HPUT2 : Aside0 (Calls Try.prog 15 #[.pointer (some ⟨gb, 0, none⟩), .agg #[.int .i64 k, .slice (some ⟨w9.drew.heap.size, 0, none⟩) 2 2]] (w9.drew.alloc (.cells #[.int .i64 x2, .int .i64 y2] 3)) (TwoD (w9.drew.alloc (.cells #[.int .i64 x2, .int .i64 y2] 3)) b0 gb mab ga maa 2 (putL (k : Int) (at16 s k) L) (rowsH s (i + 1)) (.tuple #[.bool (look L (k : Int)).isSome, .int .i64 0]))) := ⟨by
          have h1 := two_put ((HT9.out.below (below_drew1 (Below.refl _ _))).below (below_alloc (Below.refl _ _) (.cells #[.int .i64 x2, .int .i64 y2] 3))).swap (k : Int) (by show decide _ = true; simp [IntKind.wrap]; omega) (some ⟨w9.drew.heap.size, 0, none⟩) 2 [x2, y2] (C_two2 (blk_new _ _)) (by rw [← HAT2.out]; exact (at16_ok s k).1) rfl _ rfl (.inr (by have := HO.out.len; omega))
          rw [← HAT2.out] at h1
          exact h1⟩
        have HLT2 : Aside0 (b0 ≤ w9.drew.heap.size) := ⟨(HT9.out.below (below_drew1 (Below.refl _ _))).lt⟩
        obtain ⟨was, hwas⟩ : ∃ was, (look L (k : Int)).isSome = was := ⟨_, rfl⟩
        rw [hwas] at HPUT2
        have HOS : Aside0 (OrdB s N t (i + 1) (putL (k : Int) (at16 s k) L)) := ⟨HO.out.step HT9.out.snd.rise HK.out⟩
        clear hx0 hy0 hx1 hy1 r0' r1' hbd hwas
        go_upto_region 11 with (fail)
        refine start_ (n := 17) (S := fun w' => w'.cell? (ad.add (k * 2)) = some (.int .i64 x0) ∧ w'.cell? ⟨(ad.add (k * 2)).block, (ad.add (k * 2)).off + 1, none⟩ = some (.int .i64 y0)) (ds := [16]) #[false, false, false, false, false, false, false, false, false, false, false, false, false, false, false, false, false] (by kernel_rfl) rfl rfl ⟨r0, r1⟩ (fun hHeld => ?_)
        refine with_tabW od11.tab od11.bits (fun HT_ HW_ => ?_)
        generalize hwEwE2 : w9.drew = wE2 at *
        refine pure_ (i := 0) (N := some 93) (v := ?_) (a' := ?_) #[true, false, false, false, false, false, false, false, false, false, false, false, false, false, false, false, false] rfl rfl (any_of HT_.out (by kernel_rfl)) (fun _ _ _ h => h) (Or.inl ⟨by rfl, ?_⟩) ?_ ?_
        rotate_left
        · intro w'
          go_simp
          with_reducible rfl
        rotate_left
        · simp only [Act.put, List.setIfInBounds_toArray, List.set_cons_zero, List.set_cons_succ, i64_w, i32_w]
          rfl
        refine pure_ (i := 1) (N := some 94) (v := ?_) (a' := ?_) #[true, true, false, false, false, false, false, false, false, false, false, false, false, false, false, false, false] rfl rfl (any_of HT_.out (by kernel_rfl)) (fun _ _ _ h => h) (Or.inl ⟨by rfl, ?_⟩) ?_ ?_
        rotate_left
        · intro w'
          go_simp
          with_reducible rfl
        rotate_left
        · simp only [Act.put, List.setIfInBounds_toArray, List.set_cons_zero, List.set_cons_succ, i64_w, i32_w]
          rfl
        refine pure_ (i := 2) (N := some 95) (v := ?_) (a' := ?_) #[true, true, true, false, false, false, false, false, false, false, false, false, false, false, false, false, false] rfl rfl (any_of HT_.out (by kernel_rfl)) (fun _ _ _ h => h) (Or.inl ⟨by rfl, ?_⟩) ?_ ?_
        rotate_left
        · intro w'
          go_simp
          with_reducible rfl
        rotate_left
        · simp only [Act.put, List.setIfInBounds_toArray, List.set_cons_zero, List.set_cons_succ, i64_w, i32_w]
          rfl
        refine pure_ (i := 3) (N := some 96) (v := ?_) (a' := ?_) #[true, true, true, true, false, false, false, false, false, false, false, false, false, false, false, false, false] rfl rfl (any_of HT_.out (by kernel_rfl)) (fun _ _ _ h => h) (Or.inl ⟨by rfl, ?_⟩) ?_ ?_
        rotate_left
        · intro w'
          go_simp
          with_reducible rfl
        rotate_left
        · simp only [Act.put, List.setIfInBounds_toArray, List.set_cons_zero, List.set_cons_succ, i64_w, i32_w]
          rfl
        refine pure_ (i := 4) (N := some 97) (v := ?_) (a' := ?_) #[true, true, true, true, true, false, false, false, false, false, false, false, false, false, false, false, false] rfl rfl (any_of HT_.out (by kernel_rfl)) (fun _ _ _ h => h) (Or.inl ⟨by rfl, ?_⟩) ?_ ?_
        rotate_left
        · intro w'
          go_simp
          with_reducible rfl
        rotate_left
        · simp only [Act.put, List.setIfInBounds_toArray, List.set_cons_zero, List.set_cons_succ, i64_w, i32_w]
          rfl
        refine pure_ (i := 5) (N := some 98) (v := ?_) (a' := ?_) #[true, true, true, true, true, true, false, false, false, false, false, false, false, false, false, false, false] rfl rfl (any_of HT_.out (by kernel_rfl)) (fun _ _ _ h => h) (Or.inl ⟨by rfl, ?_⟩) ?_ ?_
        rotate_left
        · intro w'
          go_simp
          with_reducible rfl
        rotate_left
        · simp only [Act.put, List.setIfInBounds_toArray, List.set_cons_zero, List.set_cons_succ, i64_w, i32_w]
          rfl
        refine pure_ (i := 8) (N := some 101) (v := ?_) (a' := ?_) #[true, true, true, true, true, true, false, false, true, false, false, false, false, false, false, false, false] rfl rfl (any_of HT_.out (by kernel_rfl)) (fun _ _ _ h => h) (Or.inl ⟨by rfl, ?_⟩) ?_ ?_
        rotate_left
        · intro w'
          go_simp
          with_reducible rfl
        rotate_left
        · simp only [Act.put, List.setIfInBounds_toArray, List.set_cons_zero, List.set_cons_succ, i64_w, i32_w]
          rfl
        refine pure_ (i := 9) (N := some 102) (v := ?_) (a' := ?_) #[true, true, true, true, true, true, false, false, true, true, false, false, false, false, false, false, false] rfl rfl (any_of HT_.out (by kernel_rfl)) (fun _ _ _ h => h) (Or.inl ⟨by rfl, ?_⟩) ?_ ?_
        rotate_left
        · intro w'
          go_simp
          with_reducible rfl
        rotate_left
        · simp only [Act.put, List.setIfInBounds_toArray, List.set_cons_zero, List.set_cons_succ, i64_w, i32_w]
          rfl
        refine pure_ (i := 10) (N := some 103) (v := ?_) (a' := ?_) #[true, true, true, true, true, true, false, false, true, true, true, false, false, false, false, false, false] rfl rfl (any_of HT_.out (by kernel_rfl)) (fun _ _ _ h => h) (Or.inl ⟨by rfl, ?_⟩) ?_ ?_
        rotate_left
        · intro w'
          go_simp
          with_reducible rfl
        rotate_left
        · simp only [Act.put, List.setIfInBounds_toArray, List.set_cons_zero, List.set_cons_succ, i64_w, i32_w]
          rfl
        refine pure_ (i := 11) (N := some 104) (v := ?_) (a' := ?_) #[true, true, true, true, true, true, false, false, true, true, true, true, false, false, false, false, false] rfl rfl (any_of HT_.out (by kernel_rfl)) (fun _ _ _ h => h) (Or.inl ⟨by rfl, ?_⟩) ?_ ?_
        rotate_left
        · intro w'
          go_simp
          with_reducible rfl
        rotate_left
        · simp only [Act.put, List.setIfInBounds_toArray, List.set_cons_zero, List.set_cons_succ, i64_w, i32_w]
          rfl
        refine take_ (i := 6) (N := some 99) (v := ?_) (a' := ?_) #[true, true, true, true, true, true, true, false, true, true, true, true, false, false, false, false, false] rfl rfl (take_ofW HT_.out HW_.out (by kernel_rfl)) (fun _ _ _ h => h) (Or.inl ⟨by rfl, ?_⟩) hHeld ?_ ?_
        rotate_left
        · rintro w' ⟨s0, s1⟩
          go_simp
          with_reducible rfl
        rotate_left
        · simp only [Act.put, List.setIfInBounds_toArray, List.set_cons_zero, List.set_cons_succ, i64_w, i32_w]
          rfl
        refine pure_ (i := 7) (N := some 100) (v := ?_) (a' := ?_) #[true, true, true, true, true, true, true, true, true, true, true, true, false, false, false, false, false] rfl rfl (any_of HT_.out (by kernel_rfl)) (fun _ _ _ h => h) (Or.inl ⟨by rfl, ?_⟩) ?_ ?_
        rotate_left
        · intro w'
          go_simp
          with_reducible rfl
        rotate_left
        · simp only [Act.put, List.setIfInBounds_toArray, List.set_cons_zero, List.set_cons_succ, i64_w, i32_w]
          rfl
        refine take_ (i := 12) (N := some 105) (v := ?_) (a' := ?_) #[true, true, true, true, true, true, true, true, true, true, true, true, true, false, false, false, false] rfl rfl (take_ofW HT_.out HW_.out (by kernel_rfl)) (fun _ _ _ h => h) (Or.inl ⟨by rfl, ?_⟩) hHeld ?_ ?_
        rotate_left
        · rintro w' ⟨s0, s1⟩
          go_simp
          with_reducible rfl
        rotate_left
        · simp only [Act.put, List.setIfInBounds_toArray, List.set_cons_zero, List.set_cons_succ, i64_w, i32_w]
          rfl
        refine pure_ (i := 13) (N := some 106) (v := ?_) (a' := ?_) #[true, true, true, true, true, true, true, true, true, true, true, true, true, true, false, false, false] rfl rfl (any_of HT_.out (by kernel_rfl)) (fun _ _ _ h => h) (Or.inl ⟨by rfl, ?_⟩) ?_ ?_
        rotate_left
        · intro w'
          go_simp
          with_reducible rfl
        rotate_left
        · simp only [Act.put, List.setIfInBounds_toArray, List.set_cons_zero, List.set_cons_succ, i64_w, i32_w]
          rfl
        refine one_ (i := 14) (N := some 107) #[true, true, true, true, true, true, true, true, true, true, true, true, true, true, true, false, false] rfl rfl (one_of HT_.out (by kernel_rfl)) (by decide) (fun K hK => ?_)
        refine value_ (v := .slice (some ⟨wE2.heap.size, 0, none⟩) 2 2) (w1 := wE2.alloc (.cells #[.int .i64 x2, .int .i64 y2] 3)) (by rfl) rfl ?_ ?_
        · go_simp
        refine hK.out _ _ ⟨pw_cell_below (below_alloc (Below.refl _ _) _) hHeld.1, pw_cell_below (below_alloc (Below.refl _ _) _) hHeld.2⟩ (fun hH2 => ?_)
        clear hHeld hK K
        refine norm_ (a' := ?_) ?_ ?_
        rotate_left
        · simp only [Act.put, List.setIfInBounds_toArray, List.set_cons_zero, List.set_cons_succ, i64_w, i32_w]
          rfl
        refine pure_ (i := 15) (N := some 108) (v := ?_) (a' := ?_) #[true, true, true, true, true, true, true, true, true, true, true, true, true, true, true, true, false] rfl rfl (any_of HT_.out (by kernel_rfl)) (fun _ _ _ h => h) (Or.inl ⟨by rfl, ?_⟩) ?_ ?_
        rotate_left
        · intro w'
          go_simp
          with_reducible rfl
        rotate_left
        · simp only [Act.put, List.setIfInBounds_toArray, List.set_cons_zero, List.set_cons_succ, i64_w, i32_w]
          rfl
        refine last_ (i := 16) (N := some 109) #[true, true, true, true, true, true, true, true, true, true, true, true, true, true, true, true, true] rfl rfl (one_of HT_.out (by kernel_rfl)) (by decide) (fun K hK => ?_)
        refine goes_ Try.func15 (by kernel_rfl) rfl #[.pointer (some ⟨gb, 0, none⟩), .agg #[.int .i64 k, .slice (some ⟨wE2.heap.size, 0, none⟩) 2 2]] (by rfl) rfl rfl (by (try simp only [List.map_toArray, List.map_cons, List.map_nil]); first | done | rfl) ?_
        refine HPUT2.out.mono ?_
        rintro e w10 ⟨rfl, ht9, hb9, _⟩
        refine ⟨_, rfl, ?_⟩
        have HT10 := Aside0.mk ht9
        have HB10 := Aside0.mk hb9
        refine hK.out _ _ ?_
        clear hK K hH2 ht9 hb9
        simp only [Act.put, List.setIfInBounds_toArray, List.set_cons_zero, List.set_cons_succ, i64_w, i32_w]
        refine done_ (done_of HT_.out (by kernel_rfl)) ?_
        clear r0 r1 q1 q2
        have HBZ : Aside0 (Below b0 W1 w10) := ⟨below_cat (below_cat HBD2.out (below_alloc0 HLT2.out _)) HB10.out⟩
        have HMK := Aside0.mk (two_make HT10.out.swap)
        by_cases hu : (i : Int) = u
        · have hub : ((i : Int) == u) = true := by simpa using hu
          clear hu
          go_wp2_with (go_at_call 18; refine HMK.out.mono ?_; rintro e w11 ⟨rfl, ht11, hb11, _⟩; have HT11 := Aside0.mk ht11; have HB11 := Aside0.mk hb11; clear ht11 hb11)
          go_roundw
          case rel => exact ⟨i + 1, by go_num, hlt, ⟨⟨_, HOS.out, HT11.out⟩⟩, ⟨below_cat HBZ.out HB11.out⟩⟩
          case measure => simp [intOf]; omega
        · have hub : ((i : Int) == u) = false := by simpa using hu
          clear hu
          go_wp2_with fail
          go_roundw
          case rel => exact ⟨i + 1, by go_num, hlt, ⟨⟨_, HOS.out, HT10.out.swap⟩⟩, HBZ⟩
          case measure => simp [intOf]; omega
      · have ei : i = N := by omega
        subst ei
        have hL := HO.out.done HH.out.snd.rise
        rw [hL] at HH
        clear hL
        obtain ⟨L, hL⟩ : ∃ L, rowsH s i = L := ⟨_, rfl⟩
        have HLN : Aside0 (L.length ≤ 512) := ⟨by rw [← hL]; exact HH.out.fst.few⟩
        rw [hL] at HH
        clear hL
        have HVR : Aside0 (wr.heap[W.heap.size]? = some (.cells #[.int .i64 x, .int .i64 y] 24 (0, 0))) := ⟨(HB.out.block _ (by rw [← HB0.out]; exact blk_lt HVB.out)).trans HVB.out⟩
        have v0 : wr.cell? ⟨W.heap.size, 0, none⟩ = some (.int .i64 x) := (blk_cell HVR.out 0).trans rfl
        have v1 : wr.cell? ⟨W.heap.size, 1, none⟩ = some (.int .i64 y) := (blk_cell HVR.out 1).trans rfl
        have q1 := i64_and65535 x
        have q2 := i64_and65535 y
        obtain ⟨x1, hx1⟩ : ∃ x1, x % 65536 = x1 := ⟨_, rfl⟩
        obtain ⟨y1, hy1⟩ : ∃ y1, y % 65536 = y1 := ⟨_, rfl⟩
        have HV : Aside0 (isV [x1, y1] = true) := ⟨two_ok (by omega) (by omega) (by omega) (by omega)⟩
        rw [hx1] at q1
        rw [hy1] at q2
        clear hx1 hy1
        obtain ⟨wv, hwv⟩ : ∃ wv, wr.alloc (.cells #[.int .i64 x1, .int .i64 y1] 3) = wv := ⟨_, rfl⟩
        have HHV : Aside0 (wv.heap[wr.heap.size]? = some (.cells #[.int .i64 x1, .int .i64 y1] 3 (0, 0))) := ⟨by rw [← hwv]; exact blk_new _ _⟩
        have HBV : Aside0 (Below wr.heap.size wr wv) := ⟨by rw [← hwv]; exact below_alloc (Below.refl _ _) _⟩
        have HWV := Aside0.mk hwv
        clear hwv
        obtain ⟨vb, hvb⟩ : ∃ vb, wr.heap.size = vb := ⟨_, rfl⟩
        have HVBE := Aside0.mk hvb
        rw [hvb] at HHV
        clear hvb
        have HTV : Aside0 (Two wv b0 ga maa gb mab 2 L L) := ⟨HH.out.below HBV.out⟩
        have HTO := Aside0.mk (hold_top HTV.out.fst (some ⟨vb, 0, none⟩) 2 [x1, y1] (C_two2 HHV.out) (fun ad e => by cases e; exact blk_lt HHV.out) HV.out rfl 20 (by omega) (by omega) 1099511627776)
        obtain ⟨bl, hbl⟩ : ∃ bl, best 20 1099511627776 (hits L [x1, y1]) = bl := ⟨_, rfl⟩
        have HBL : Aside0 (bl.length ≤ 20) := ⟨by rw [← hbl]; unfold best; rw [List.length_take]; omega⟩
        rw [hbl] at HTO
        go_upto_region 15 with (fail)
        rw [HWV.out, HVBE.out]
        go_upto_region 16 with (go_at_call 17; refine HTO.out.mono ?_; rintro e w5 ⟨⟨A5, c5, rfl, ho5⟩, _, hb5⟩; have HO5 := Aside0.mk ho5; have HB5 := Aside0.mk hb5; clear ho5 hb5)
        have HT5 : Aside0 (Two w5 b0 ga maa gb mab 2 L L) := ⟨HTV.out.below HB5.out⟩
        have HHV5 : Aside0 (w5.heap[vb]? = some (.cells #[.int .i64 x1, .int .i64 y1] 3 (0, 0))) := ⟨blk_below HHV.out HB5.out⟩
        have HTO2 := Aside0.mk (hold_top HT5.out.snd (some ⟨vb, 0, none⟩) 2 [x1, y1] (C_two2 HHV5.out) (fun ad e => by cases e; exact blk_lt HHV5.out) HV.out rfl 20 (by omega) (by omega) 1099511627776)
        rw [hbl] at HTO2
        clear hbl q1 q2 v0 v1
        go_upto_region 17 with (go_at_call 17; refine HTO2.out.mono ?_; rintro e w6 ⟨⟨A6, c6, rfl, ho6⟩, _, hb6⟩; have HO6 := Aside0.mk ho6; have HB6 := Aside0.mk hb6; clear ho6 hb6)
        have HT6 : Aside0 (Two w6 b0 ga maa gb mab 2 L L) := ⟨HT5.out.below HB6.out⟩
        have HS1 : Aside0 (Calls Try.prog 19 #[.slice A5 bl.length c5, .slice A6 bl.length c6] w6 fun e w' => e = .returned (.bool true) ∧ ∃ q, w' = w6.drewN q) := ⟨by
          have g1 := row_reads (own_below HO5.out HB6.out) (by have := HBL.out; omega)
          have g2 := row_reads HO6.out (by have := HBL.out; omega)
          have h1 := same_calls A5 A6 c5 c6 bl bl w6 g1.1 g2.1 g1.2 g2.2 (by have := HBL.out; omega)
          rw [decide_eq_true rfl] at h1
          exact h1⟩
        obtain ⟨n, hn⟩ : ∃ n, bl.length = n := ⟨_, rfl⟩
        rw [hn] at HS1
        rw [hn]
        have HP1 : Aside0 (∀ q, Calls Try.prog 22 #[.pointer (some ⟨ga, 0, none⟩)] (w6.drewN q) (PointsD (w6.drewN q) b0 ga maa 2 L)) := ⟨fun q => hold_points (HT6.out.below (pw_below_drewN (Below.refl _ _) q)).fst⟩
        clear hn
        go_wp2_with fail
        with_reducible refine HS1.out.mono ?_
        rintro e w8 ⟨rfl, q8, rfl⟩
        have HT8 : Aside0 (Two (w6.drewN q8) b0 ga maa gb mab 2 L L) := ⟨HT6.out.below (pw_below_drewN (Below.refl _ _) q8)⟩
        go_wp2_with fail
        with_reducible refine (HP1.out q8).mono ?_
        rintro e w9 ⟨hd9, _⟩
        have HD9 := Aside0.mk hd9
        obtain ⟨A9, c9, e9, hC9, hc9⟩ := points_read HD9.out HLN.out
        subst e9
        have HC9 := Aside0.mk hC9
        have HC9c := Aside0.mk hc9
        obtain ⟨p, hp⟩ : ∃ p, L.length = p := ⟨_, rfl⟩
        have HPL := Aside0.mk hp
        rw [hp]
        have HT9 : Aside0 (Two w9 b0 ga maa gb mab 2 L L) := ⟨HT8.out.below HD9.out.below⟩
        have HP2 := Aside0.mk (hold_points HT9.out.snd)
        clear hd9 hC9 hc9 hp
        go_wp2_with fail
        with_reducible refine HP2.out.mono ?_
        rintro e w10 ⟨hd10, _⟩
        have HD10 := Aside0.mk hd10
        obtain ⟨A10, c10, e10, hC10, hc10⟩ := points_read HD10.out HLN.out
        subst e10
        have HS2 : Aside0 (Calls Try.prog 21 #[.slice A9 p c9, .slice A10 p c10] w10 fun e w' => e = .returned (.bool true) ∧ ∃ q, w' = w10.drewN q) := ⟨by
          have h1 := same37_calls A9 A10 c9 c10 L w10 (Kd.C_below HC9.out HD10.out.below) hC10 HC9c.out hc10 (by have := HLN.out; omega) (fun z hz => by
            have h2 := HT9.out.fst.vecs z hz
            have := isV_len h2.1
            omega)
          rw [HPL.out] at h1
          exact h1⟩
        rw [HPL.out]
        clear hd10 hC10 hc10
        go_wp2_with fail
        with_reducible refine HS2.out.mono ?_
        rintro e w11 ⟨rfl, q11, rfl⟩
        go_wp2_with (go_at_call 12; refine (awake_calls _).mono ?_; rintro e w12 ⟨rfl, hb12⟩; have HB12 := Aside0.mk hb12; clear hb12)
        go_ret
        have k1 := below_b HB.out HBV.out HH.out.lt
        have k2 := below_b k1 HB5.out HTV.out.lt
        have k3 := below_b k2 HB6.out HT5.out.lt
        have k4 := pw_below_drewN k3 q8
        have k5 := below_b k4 HD9.out.below HT8.out.lt
        have k6 := below_b k5 HD10.out.below HT9.out.lt
        have k7 := pw_below_drewN k6 q11
        exact ⟨rfl, below_step (below_b HB1.out k7 (by rw [← HB0.out]; exact HB1.out.size)) HB12.out⟩
theorem order_row (W : World) (A : Option Addr) (c : Nat) (s : List (Int × Int)) (x y turn : Int) (hr : ReadsRow Op.I2 2 W A s.length s) (hc : s.length ≤ c) : Calls Try.prog 5 #[.slice A s.length c, .agg #[.int .i64 x, .int .i64 y], .int .i64 turn] W (Yes W) := order_calls W A c s x y turn (row_two hr) hc
end Go.Proofs.Ytealiaafdkhonaa.Vp
