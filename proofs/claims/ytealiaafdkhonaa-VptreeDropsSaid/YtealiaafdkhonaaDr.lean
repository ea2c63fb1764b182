/- VptreeDrops, walked. -/
import Derived.Test.YtealiaafdkhonaaDp
import Derived.Test.YtealiaafdkhonaaSz
import Derived.Test.YtealiaafdkhonaaLi
namespace Go.Proofs.Ytealiaafdkhonaa.Vp
open Go.RowKit Go.Sort Mb Base Go.Proofs.YtealiaafdkhonaaW.PrintWords Go.Proofs.YtealiaafdkhonaaW.PrintLast Go.Proofs.YtealiaafdkhonaaW.PrintMore
set_option linter.unusedVariables false
set_option linter.unusedSimpArgs false
noncomputable def dr9.T : Bool × List (List Nat × List Nat) := rtab .any (opsOf Try.f8 9)
def dr9.B : List Nat := [0, 0, 0, 6, 14, 30, 62, 0, 0, 384, 896, 1920, 3968, 8190, 16383, 0, 65535]
theorem dr9.tab : rtab .any (opsOf Try.f8 9) = dr9.T := rfl
theorem dr9.bits : waitsOk dr9.T.2 dr9.B = true := by kernel_rfl
noncomputable def dr13.T : Bool × List (List Nat × List Nat) := rtab .any (opsOf Try.f8 13)
def dr13.B : List Nat := [0, 0, 2, 0, 0, 24, 56, 120, 248, 0, 0, 1536, 3584, 7680, 15872, 32760, 65534, 131071]
theorem dr13.tab : rtab .any (opsOf Try.f8 13) = dr13.T := rfl
theorem dr13.bits : waitsOk dr13.T.2 dr13.B = true := by kernel_rfl
theorem below_b {b b' : Nat} {W w1 w2 : World} (h : Below b W w1) (k : Below b' w1 w2) (hb : b ≤ b') : Below b W w2 := below_cat h (k.mono hb)
theorem box_set {w : World} {b : Nat} {t : TypeId} {u0 u1 v0 v1 : Value} (h : w.heap[b]? = some (.cells #[u0, u1] t (0, 0))) : ((w.setCell ⟨b, 0, none⟩ v0).setCell ⟨b, 1, none⟩ v1).heap[b]? = some (.cells #[v0, v1] t (0, 0)) := (blk_set (blk_set h 0 v0) 1 v1).trans rfl
set_option maxRecDepth 100000 in
set_option maxHeartbeats 8000000 in
theorem drops_calls (W : World) (A : Option Addr) (c : Nat) (s : List (Int × Int)) (B : Option Addr) (cb : Nat) (g : List (Int × Int)) (x y : Int) (hr : ReadsRow P2 2 W A s.length s) (hc : s.length ≤ c) (hrb : ReadsRow P2 2 W B g.length g) (hcb : g.length ≤ cb) : Calls Try.prog 8 #[.slice A s.length c, .slice B g.length cb, .agg #[.int .i64 x, .int .i64 y]] W (Yes W) := by
  have HR := Aside0.mk hr
  have HRB := Aside0.mk hrb
  obtain ⟨N, hN⟩ : ∃ N, s.length = N := ⟨_, rfl⟩
  have HN := Aside0.mk hN
  obtain ⟨M, hM⟩ : ∃ M, g.length = M := ⟨_, rfl⟩
  have HM := Aside0.mk hM
  rw [hN] at hc
  rw [hM] at hcb
  rw [hN, hM]
  clear hr hrb hN hM
  obtain ⟨W1, hW1⟩ : ∃ W1, W.alloc (.cells #[.int .i64 x, .int .i64 y] 24) = W1 := ⟨_, rfl⟩
  have HVB : Aside0 (W1.heap[W.heap.size]? = some (.cells #[.int .i64 x, .int .i64 y] 24 (0, 0))) := ⟨by rw [← hW1]; exact blk_new _ _⟩
  have HB1 : Aside0 (Below W.heap.size W W1) := ⟨by rw [← hW1]; exact below_alloc (Below.refl _ _) _⟩
  have HW1 := Aside0.mk hW1
  clear hW1
  by_cases hlen : (40 : Int) < (N : Int)
  · go_enter Try.func8, Try.ntmps8
    go_upto_region 2 with (go_at_call 11; refine (hold_new 2 (by omega) (by omega) _).mono ?_; rintro e w1 ⟨⟨ga, maa, rfl, hh⟩, hb⟩; have e25 : ∀ w, (binOp .eql 25 (.pointer (some ⟨ga, 0, none⟩)) (.pointer none)).run Try.prog w = .ok (.bool false) w := (fun w => by kernel_rfl); have e25n : ∀ w, (binOp .neq 25 (.pointer (some ⟨ga, 0, none⟩)) (.pointer none)).run Try.prog w = .ok (.bool true) w := (fun w => by kernel_rfl); have HB2 := Aside0.mk hb; clear hb hh)
    go_upto_region 3 with (go_at_call 11; refine (hold_new 2 (by omega) (by omega) _).mono ?_; rintro e w2 ⟨⟨gb, mab, rfl, hh⟩, hb⟩; have e26 : ∀ w, (binOp .eql 25 (.pointer (some ⟨gb, 0, none⟩)) (.pointer none)).run Try.prog w = .ok (.bool false) w := (fun w => by kernel_rfl); have e26n : ∀ w, (binOp .neq 25 (.pointer (some ⟨gb, 0, none⟩)) (.pointer none)).run Try.prog w = .ok (.bool true) w := (fun w => by kernel_rfl); have HB3 := Aside0.mk hb; clear hb hh)
    rw [HW1.out] at HB2
    go_wp2_with (go_at_call 12; refine (awake_calls _).mono ?_; rintro e w3 ⟨rfl, hb3⟩; have HB4 := Aside0.mk hb3; clear hb3)
    go_ret
    exact ⟨rfl, below_step (below_step (below_step HB1.out HB2.out) HB3.out) HB4.out⟩
  · by_cases hlem : (40 : Int) < (M : Int)
    · go_enter Try.func8, Try.ntmps8
      go_upto_region 2 with (go_at_call 11; refine (hold_new 2 (by omega) (by omega) _).mono ?_; rintro e w1 ⟨⟨ga, maa, rfl, hh⟩, hb⟩; have e25 : ∀ w, (binOp .eql 25 (.pointer (some ⟨ga, 0, none⟩)) (.pointer none)).run Try.prog w = .ok (.bool false) w := (fun w => by kernel_rfl); have e25n : ∀ w, (binOp .neq 25 (.pointer (some ⟨ga, 0, none⟩)) (.pointer none)).run Try.prog w = .ok (.bool true) w := (fun w => by kernel_rfl); have HB2 := Aside0.mk hb; clear hb hh)
      go_upto_region 3 with (go_at_call 11; refine (hold_new 2 (by omega) (by omega) _).mono ?_; rintro e w2 ⟨⟨gb, mab, rfl, hh⟩, hb⟩; have e26 : ∀ w, (binOp .eql 25 (.pointer (some ⟨gb, 0, none⟩)) (.pointer none)).run Try.prog w = .ok (.bool false) w := (fun w => by kernel_rfl); have e26n : ∀ w, (binOp .neq 25 (.pointer (some ⟨gb, 0, none⟩)) (.pointer none)).run Try.prog w = .ok (.bool true) w := (fun w => by kernel_rfl); have HB3 := Aside0.mk hb; clear hb hh)
      rw [HW1.out] at HB2
      go_wp2_with (go_at_call 12; refine (awake_calls _).mono ?_; rintro e w3 ⟨rfl, hb3⟩; have HB4 := Aside0.mk hb3; clear hb3)
      go_ret
      exact ⟨rfl, below_step (below_step (below_step HB1.out HB2.out) HB3.out) HB4.out⟩
    · go_enter Try.func8, Try.ntmps8
      go_upto_region 2 with (go_at_call 11; refine (hold_new 2 (by omega) (by omega) _).mono ?_; rintro e w1 ⟨⟨ga, maa, rfl, hh⟩, hb⟩; have e25 : ∀ w, (binOp .eql 25 (.pointer (some ⟨ga, 0, none⟩)) (.pointer none)).run Try.prog w = .ok (.bool false) w := (fun w => by kernel_rfl); have HB2 := Aside0.mk hb; have HH1 := Aside0.mk hh; clear hb hh)
      go_upto_region 5 with (go_at_call 11; refine (hold_new 2 (by omega) (by omega) _).mono ?_; rintro e w2 ⟨⟨gb, mab, rfl, hh⟩, hb⟩; have e26 : ∀ w, (binOp .eql 25 (.pointer (some ⟨gb, 0, none⟩)) (.pointer none)).run Try.prog w = .ok (.bool false) w := (fun w => by kernel_rfl); have HB3 := Aside0.mk hb; have HH2 := Aside0.mk hh; clear hb hh)
      rw [HW1.out] at HB2 HH1
      have HT : Aside0 (Two w2 W1.heap.size ga maa gb mab 2 [] []) := ⟨two_new HH1.out HB2.out HH2.out HB3.out⟩
      have HBB : Aside0 (Below W1.heap.size W1 w2) := ⟨below_step HB2.out HB3.out⟩
      obtain ⟨b0, hb0⟩ : ∃ b0, W1.heap.size = b0 := ⟨_, rfl⟩
      have HB0 := Aside0.mk hb0
      rw [hb0] at HT HBB
      obtain ⟨mx, hmx⟩ : ∃ mx : Nat, max (N : Int) (M : Int) = (mx : Int) := ⟨max N M, by omega⟩
      have HMX : Aside0 (N ≤ mx ∧ M ≤ mx ∧ (mx = N ∨ mx = M)) := ⟨by omega⟩
      have hN40 : N ≤ 40 := by omega
      have hM40 : M ≤ 40 := by omega
      clear hb0 HH1 HH2 HB2 HB3
      go_wp2_with fail
      go_loopw [11] (fun z wr => ∃ i : Nat, z = .int .i64 i ∧ i ≤ mx ∧ Aside0 (Two wr b0 ga maa gb mab 2 (rowsL s (min i N)) (both s g (min i N) (min i M))) ∧ Aside0 (Below b0 W1 wr)) (fun z _ => mx - (intOf z).toNat)
      case atStart => exact ⟨0, rfl, Nat.zero_le _, by rw [Nat.zero_min, Nat.zero_min]; exact HT, HBB⟩
      case round =>
        obtain ⟨i, rfl, hi, HH, HB⟩ := hrel
        by_cases hlt : i < mx
        · have hlt' : (i : Int) < (mx : Int) := by omega
          have hi0 : (0 : Int) ≤ (i : Int) := by omega
          have hi40 : i < 40 := by have := HMX.out; omega
          go_upto_if 80 with (fail)
          go_cut [] (fun wc => Aside0 (Two wc b0 ga maa gb mab 2 (rowsL s (min (i + 1) N)) (both s g (min (i + 1) N) (min i M))) ∧ Aside0 (Below b0 W1 wc))
          case first =>
            by_cases hiN : i < N
            · have hiN' : (i : Int) < (N : Int) := by omega
              have HM1 : Aside0 (min i N = i ∧ min (i + 1) N = i + 1) := ⟨by omega⟩
              rw [HM1.out.1] at HH
              obtain ⟨ad, e0, r0', r1'⟩ := at_two HR.out i (by have := HN.out; omega)
              subst e0
              obtain ⟨x0, hx0⟩ : ∃ x0, (s[i]'(by have := HN.out; omega)).1 = x0 := ⟨_, rfl⟩
              obtain ⟨y0, hy0⟩ : ∃ y0, (s[i]'(by have := HN.out; omega)).2 = y0 := ⟨_, rfl⟩
              rw [hx0] at r0'
              rw [hy0] at r1'
              have hbd : RowKit.Below W.heap.size W wr.drew := below_b HB1.out HB.out.drew (by rw [← HB0.out]; exact HB1.out.size)
              have r0 : wr.drew.cell? (ad.add (i * 2)) = some (.int .i64 x0) := pw_cell_below hbd r0'
              have r1 : wr.drew.cell? ⟨(ad.add (i * 2)).block, (ad.add (i * 2)).off + 1, none⟩ = some (.int .i64 y0) := pw_cell_below hbd r1'
              have HGD : Aside0 (s.getD i (0, 0) = (x0, y0)) := ⟨by rw [List.getD_eq_getElem?_getD, List.getElem?_eq_getElem (by have := HN.out; omega)]; exact Prod.ext hx0 hy0⟩
              have q1 := Base.i64_and255 x0
              have q2 := Base.i64_and255 y0
              obtain ⟨x1, hx1⟩ : ∃ x1, x0 % 256 = x1 := ⟨_, rfl⟩
              obtain ⟨y1, hy1⟩ : ∃ y1, y0 % 256 = y1 := ⟨_, rfl⟩
              rw [hx1] at q1
              rw [hy1] at q2
              have HBD : Aside0 (Below b0 W1 wr.drew) := ⟨HB.out.drew⟩
              have HTD : Aside0 (Two wr.drew b0 ga maa gb mab 2 (rowsL s i) (both s g i (min i M))) := ⟨HH.out.below (below_drew1 (Below.refl _ _))⟩
              have HAT : Aside0 (at2 s i = [x1, y1]) := ⟨by unfold at2; rw [HGD.out, ← hx1, ← hy1]; rfl⟩
              clear hx0 hy0 hx1 hy1 r0' r1' hbd
              go_upto_region 9 with (fail)
              go_cut [12] (fun z wc => ∃ p q : Nat, z = .pointer (some ⟨p, 0, none⟩) ∧ Aside0 (wc.heap[p]? = some (.cells #[.int .i64 i, .slice (some ⟨q, 0, none⟩) 2 2] 37 (0, 0))) ∧ Aside0 (wc.heap[q]? = some (.cells #[.int .i64 x1, .int .i64 y1] 3 (0, 0))) ∧ Aside0 (Two wc b0 ga maa gb mab 2 (rowsL s i) (both s g i (min i M))) ∧ Aside0 (Below b0 W1 wc))
              case first =>
                refine start_ (n := 17) (S := fun w' => w'.cell? (ad.add (i * 2)) = some (.int .i64 x0) ∧ w'.cell? ⟨(ad.add (i * 2)).block, (ad.add (i * 2)).off + 1, none⟩ = some (.int .i64 y0)) (ds := [16]) #[false, false, false, false, false, false, false, false, false, false, false, false, false, false, false, false, false] (by kernel_rfl) rfl rfl ⟨r0, r1⟩ (fun hHeld => ?_)
                refine with_tabW dr9.tab dr9.bits (fun HT_ HW_ => ?_)
                generalize hwE : wr.drew = wE at *
                refine pure_ (i := 0) (N := some 81) (v := ?_) (a' := ?_) #[true, false, false, false, false, false, false, false, false, false, false, false, false, false, false, false, false] rfl rfl (any_of HT_.out (by kernel_rfl)) (fun _ _ _ h => h) (Or.inl ⟨by rfl, ?_⟩) ?_ ?_
                rotate_left
                · intro w'
                  go_simp
                  with_reducible rfl
                rotate_left
                · simp only [Act.put, List.setIfInBounds_toArray, List.set_cons_zero, List.set_cons_succ, i64_w, i32_w]
                  rfl
                refine pure_ (i := 1) (N := some 82) (v := ?_) (a' := ?_) #[true, true, false, false, false, false, false, false, false, false, false, false, false, false, false, false, false] rfl rfl (any_of HT_.out (by kernel_rfl)) (fun _ _ _ h => h) (Or.inl ⟨by rfl, ?_⟩) ?_ ?_
                rotate_left
                · intro w'
                  go_simp
                  with_reducible rfl
                rotate_left
                · simp only [Act.put, List.setIfInBounds_toArray, List.set_cons_zero, List.set_cons_succ, i64_w, i32_w]
                  rfl
                refine pure_ (i := 2) (N := some 83) (v := ?_) (a' := ?_) #[true, true, true, false, false, false, false, false, false, false, false, false, false, false, false, false, false] rfl rfl (any_of HT_.out (by kernel_rfl)) (fun _ _ _ h => h) (Or.inl ⟨by rfl, ?_⟩) ?_ ?_
                rotate_left
                · intro w'
                  go_simp
                  with_reducible rfl
                rotate_left
                · simp only [Act.put, List.setIfInBounds_toArray, List.set_cons_zero, List.set_cons_succ, i64_w, i32_w]
                  rfl
                refine pure_ (i := 3) (N := some 84) (v := ?_) (a' := ?_) #[true, true, true, true, false, false, false, false, false, false, false, false, false, false, false, false, false] rfl rfl (any_of HT_.out (by kernel_rfl)) (fun _ _ _ h => h) (Or.inl ⟨by rfl, ?_⟩) ?_ ?_
                rotate_left
                · intro w'
                  go_simp
                  with_reducible rfl
                rotate_left
                · simp only [Act.put, List.setIfInBounds_toArray, List.set_cons_zero, List.set_cons_succ, i64_w, i32_w]
                  rfl
                refine pure_ (i := 4) (N := some 85) (v := ?_) (a' := ?_) #[true, true, true, true, true, false, false, false, false, false, false, false, false, false, false, false, false] rfl rfl (any_of HT_.out (by kernel_rfl)) (fun _ _ _ h => h) (Or.inl ⟨by rfl, ?_⟩) ?_ ?_
                rotate_left
                · intro w'
                  go_simp
                  with_reducible rfl
                rotate_left
                · simp only [Act.put, List.setIfInBounds_toArray, List.set_cons_zero, List.set_cons_succ, i64_w, i32_w]
                  rfl
                refine pure_ (i := 7) (N := some 88) (v := ?_) (a' := ?_) #[true, true, true, true, true, false, false, true, false, false, false, false, false, false, false, false, false] rfl rfl (any_of HT_.out (by kernel_rfl)) (fun _ _ _ h => h) (Or.inl ⟨by rfl, ?_⟩) ?_ ?_
                rotate_left
                · intro w'
                  go_simp
                  with_reducible rfl
                rotate_left
                · simp only [Act.put, List.setIfInBounds_toArray, List.set_cons_zero, List.set_cons_succ, i64_w, i32_w]
                  rfl
                refine pure_ (i := 8) (N := some 89) (v := ?_) (a' := ?_) #[true, true, true, true, true, false, false, true, true, false, false, false, false, false, false, false, false] rfl rfl (any_of HT_.out (by kernel_rfl)) (fun _ _ _ h => h) (Or.inl ⟨by rfl, ?_⟩) ?_ ?_
                rotate_left
                · intro w'
                  go_simp
                  with_reducible rfl
                rotate_left
                · simp only [Act.put, List.setIfInBounds_toArray, List.set_cons_zero, List.set_cons_succ, i64_w, i32_w]
                  rfl
                refine pure_ (i := 9) (N := some 90) (v := ?_) (a' := ?_) #[true, true, true, true, true, false, false, true, true, true, false, false, false, false, false, false, false] rfl rfl (any_of HT_.out (by kernel_rfl)) (fun _ _ _ h => h) (Or.inl ⟨by rfl, ?_⟩) ?_ ?_
                rotate_left
                · intro w'
                  go_simp
                  with_reducible rfl
                rotate_left
                · simp only [Act.put, List.setIfInBounds_toArray, List.set_cons_zero, List.set_cons_succ, i64_w, i32_w]
                  rfl
                refine pure_ (i := 10) (N := some 91) (v := ?_) (a' := ?_) #[true, true, true, true, true, false, false, true, true, true, true, false, false, false, false, false, false] rfl rfl (any_of HT_.out (by kernel_rfl)) (fun _ _ _ h => h) (Or.inl ⟨by rfl, ?_⟩) ?_ ?_
                rotate_left
                · intro w'
                  go_simp
                  with_reducible rfl
                rotate_left
                · simp only [Act.put, List.setIfInBounds_toArray, List.set_cons_zero, List.set_cons_succ, i64_w, i32_w]
                  rfl
                refine take_ (i := 5) (N := some 86) (v := ?_) (a' := ?_) #[true, true, true, true, true, true, false, true, true, true, true, false, false, false, false, false, false] rfl rfl (take_ofW HT_.out HW_.out (by kernel_rfl)) (fun _ _ _ h => h) (Or.inl ⟨by rfl, ?_⟩) hHeld ?_ ?_
                rotate_left
                · rintro w' ⟨s0, s1⟩
                  go_simp
                  with_reducible rfl
                rotate_left
                · simp only [Act.put, List.setIfInBounds_toArray, List.set_cons_zero, List.set_cons_succ, i64_w, i32_w]
                  rfl
                refine pure_ (i := 6) (N := some 87) (v := ?_) (a' := ?_) #[true, true, true, true, true, true, true, true, true, true, true, false, false, false, false, false, false] rfl rfl (any_of HT_.out (by kernel_rfl)) (fun _ _ _ h => h) (Or.inl ⟨by rfl, ?_⟩) ?_ ?_
                rotate_left
                · intro w'
                  go_simp
                  with_reducible rfl
                rotate_left
                · simp only [Act.put, List.setIfInBounds_toArray, List.set_cons_zero, List.set_cons_succ, i64_w, i32_w]
                  rfl
                refine take_ (i := 11) (N := some 92) (v := ?_) (a' := ?_) #[true, true, true, true, true, true, true, true, true, true, true, true, false, false, false, false, false] rfl rfl (take_ofW HT_.out HW_.out (by kernel_rfl)) (fun _ _ _ h => h) (Or.inl ⟨by rfl, ?_⟩) hHeld ?_ ?_
                rotate_left
                · rintro w' ⟨s0, s1⟩
                  go_simp
                  with_reducible rfl
                rotate_left
                · simp only [Act.put, List.setIfInBounds_toArray, List.set_cons_zero, List.set_cons_succ, i64_w, i32_w]
                  rfl
                refine pure_ (i := 12) (N := some 93) (v := ?_) (a' := ?_) #[true, true, true, true, true, true, true, true, true, true, true, true, true, false, false, false, false] rfl rfl (any_of HT_.out (by kernel_rfl)) (fun _ _ _ h => h) (Or.inl ⟨by rfl, ?_⟩) ?_ ?_
                rotate_left
                · intro w'
                  go_simp
                  with_reducible rfl
                rotate_left
                · simp only [Act.put, List.setIfInBounds_toArray, List.set_cons_zero, List.set_cons_succ, i64_w, i32_w]
                  rfl
                refine two_ (i := 13) (j := 15) (Ni := some 94) (Nj := some 12) #[true, true, true, true, true, true, true, true, true, true, true, true, true, true, false, false, false] #[true, true, true, true, true, true, true, true, true, true, true, true, true, false, false, true, false] rfl rfl rfl rfl (two_of HT_.out (by kernel_rfl)) (by decide) (by decide) (fun K hK => ?_) (fun K hK => ?_)
                · refine value_ (v := .slice (some ⟨wE.heap.size, 0, none⟩) 2 2) (w1 := wE.alloc (.cells #[.int .i64 x1, .int .i64 y1] 3)) (by rfl) rfl ?_ ?_
                  · go_simp
                  refine hK.out _ _ ⟨pw_cell_below (below_alloc (Below.refl _ _) _) hHeld.1, pw_cell_below (below_alloc (Below.refl _ _) _) hHeld.2⟩ (fun hH1 => ?_)
                  clear hHeld hK K
                  refine norm_ (a' := ?_) ?_ ?_
                  rotate_left
                  · simp only [Act.put, List.setIfInBounds_toArray, List.set_cons_zero, List.set_cons_succ, i64_w, i32_w]
                    rfl
                  have HQ0 := Aside0.mk (blk_new wE (.cells #[.int .i64 x1, .int .i64 y1] 3))
                  have HBS := Aside0.mk (below_alloc (Below.refl wE.heap.size wE) (.cells #[.int .i64 x1, .int .i64 y1] 3))
                  generalize hsb : wE.heap.size = sb at *
                  generalize hw1 : wE.alloc (.cells #[.int .i64 x1, .int .i64 y1] 3) = wF at *
                  refine pure_ (i := 14) (N := some 95) (v := ?_) (a' := ?_) #[true, true, true, true, true, true, true, true, true, true, true, true, true, true, true, false, false] rfl rfl (any_of HT_.out (by kernel_rfl)) (fun _ _ _ h => h) (Or.inl ⟨by rfl, ?_⟩) ?_ ?_
                  rotate_left
                  · intro w'
                    go_simp
                    with_reducible rfl
                  rotate_left
                  · simp only [Act.put, List.setIfInBounds_toArray, List.set_cons_zero, List.set_cons_succ, i64_w, i32_w]
                    rfl
                  refine one_ (i := 15) (N := some 12) #[true, true, true, true, true, true, true, true, true, true, true, true, true, true, true, true, false] rfl rfl (one_of HT_.out (by kernel_rfl)) (by decide) (fun K hK => ?_)
                  refine value_ (v := .pointer (some ⟨wF.heap.size, 0, none⟩)) (w1 := wF.alloc (.cells #[.int .i64 0, .slice none 0 0] 37)) (by rfl) rfl ?_ ?_
                  · go_simp
                  refine hK.out _ _ ⟨pw_cell_below (below_alloc (Below.refl _ _) _) hH1.1, pw_cell_below (below_alloc (Below.refl _ _) _) hH1.2⟩ (fun hH2 => ?_)
                  clear hH1 hK K
                  refine norm_ (a' := ?_) ?_ ?_
                  rotate_left
                  · simp only [Act.put, List.setIfInBounds_toArray, List.set_cons_zero, List.set_cons_succ, i64_w, i32_w]
                    rfl
                  have HX0 := Aside0.mk (blk_new wF (.cells #[.int .i64 0, .slice none 0 0] 37))
                  have HBX := Aside0.mk (below_alloc (Below.refl wF.heap.size wF) (.cells #[.int .i64 0, .slice none 0 0] 37))
                  generalize hbx : wF.heap.size = bx at *
                  generalize hw2 : wF.alloc (.cells #[.int .i64 0, .slice none 0 0] 37) = wG at *
                  refine last_ (i := 16) (N := none) #[true, true, true, true, true, true, true, true, true, true, true, true, true, true, true, true, true] rfl rfl (one_of HT_.out (by kernel_rfl)) (by decide) (fun K hK => ?_)
                  have HXG : Aside0 (wG.heap[bx]? = some (.cells #[.int .i64 0, .slice none 0 0] 37 (0, 0))) := HX0
                  have HQG : Aside0 (wG.heap[sb]? = some (.cells #[.int .i64 x1, .int .i64 y1] 3 (0, 0))) := ⟨blk_below HQ0.out (hbx ▸ HBX.out)⟩
                  have z0 : wG.frozen? ⟨bx, 0, none⟩ = false := blk_frozen HXG.out 0
                  have z1 : wG.frozen? ⟨bx, 1, none⟩ = false := blk_frozen HXG.out 1
                  have p0 : wG.cell? ⟨bx, 0, none⟩ = some (.int .i64 0) := (blk_cell HXG.out 0).trans rfl
                  have p1 : wG.cell? ⟨bx, 1, none⟩ = some (.slice none 0 0) := (blk_cell HXG.out 1).trans rfl
                  refine skip_ (w1 := ?_) (by rfl) rfl ?_ ?_
                  rotate_left
                  · go_simp
                    rfl
                  refine hK.out _ _ ?_
                  clear hK K z0 z1 p0 p1
                  refine done_ (done_of HT_.out (by kernel_rfl)) ?_
                  have hlt2 : sb < bx := by rw [← hbx]; exact blk_lt HQ0.out
                  have hb0 : RowKit.Below wE.heap.size wE wG := by rw [hsb]; exact below_b HBS.out HBX.out (by omega)
                  have hb1 := RowKit.Below.setCell (p := ⟨bx, 1, none⟩) (RowKit.Below.setCell (p := ⟨bx, 0, none⟩) hb0 (by show wE.heap.size ≤ bx; omega) (.int .i64 i)) (by show wE.heap.size ≤ bx; omega) (.slice (some ⟨sb, 0, none⟩) 2 2)
                  go_wp2_with fail
                  go_meet
                  exact ⟨bx, sb, rfl, ⟨box_set HXG.out⟩, ⟨blk_far (blk_far HQG.out (p := ⟨bx, 0, none⟩) (by show sb ≠ bx; omega) _) (p := ⟨bx, 1, none⟩) (by show sb ≠ bx; omega) _⟩, ⟨HTD.out.below hb1⟩, ⟨below_b HBD.out hb1 HTD.out.lt⟩⟩
                · refine value_ (v := .pointer (some ⟨wE.heap.size, 0, none⟩)) (w1 := wE.alloc (.cells #[.int .i64 0, .slice none 0 0] 37)) (by rfl) rfl ?_ ?_
                  · go_simp
                  refine hK.out _ _ ⟨pw_cell_below (below_alloc (Below.refl _ _) _) hHeld.1, pw_cell_below (below_alloc (Below.refl _ _) _) hHeld.2⟩ (fun hH1 => ?_)
                  clear hHeld hK K
                  refine norm_ (a' := ?_) ?_ ?_
                  rotate_left
                  · simp only [Act.put, List.setIfInBounds_toArray, List.set_cons_zero, List.set_cons_succ, i64_w, i32_w]
                    rfl
                  have HX0 := Aside0.mk (blk_new wE (.cells #[.int .i64 0, .slice none 0 0] 37))
                  have HBX := Aside0.mk (below_alloc (Below.refl wE.heap.size wE) (.cells #[.int .i64 0, .slice none 0 0] 37))
                  generalize hbx : wE.heap.size = bx at *
                  generalize hw2 : wE.alloc (.cells #[.int .i64 0, .slice none 0 0] 37) = wF at *
                  refine one_ (i := 13) (N := some 94) #[true, true, true, true, true, true, true, true, true, true, true, true, true, true, false, true, false] rfl rfl (one_of HT_.out (by kernel_rfl)) (by decide) (fun K hK => ?_)
                  refine value_ (v := .slice (some ⟨wF.heap.size, 0, none⟩) 2 2) (w1 := wF.alloc (.cells #[.int .i64 x1, .int .i64 y1] 3)) (by rfl) rfl ?_ ?_
                  · go_simp
                  refine hK.out _ _ ⟨pw_cell_below (below_alloc (Below.refl _ _) _) hH1.1, pw_cell_below (below_alloc (Below.refl _ _) _) hH1.2⟩ (fun hH2 => ?_)
                  clear hH1 hK K
                  refine norm_ (a' := ?_) ?_ ?_
                  rotate_left
                  · simp only [Act.put, List.setIfInBounds_toArray, List.set_cons_zero, List.set_cons_succ, i64_w, i32_w]
                    rfl
                  have HQ0 := Aside0.mk (blk_new wF (.cells #[.int .i64 x1, .int .i64 y1] 3))
                  have HBS := Aside0.mk (below_alloc (Below.refl wF.heap.size wF) (.cells #[.int .i64 x1, .int .i64 y1] 3))
                  generalize hsb : wF.heap.size = sb at *
                  generalize hw1 : wF.alloc (.cells #[.int .i64 x1, .int .i64 y1] 3) = wG at *
                  refine pure_ (i := 14) (N := some 95) (v := ?_) (a' := ?_) #[true, true, true, true, true, true, true, true, true, true, true, true, true, true, true, true, false] rfl rfl (any_of HT_.out (by kernel_rfl)) (fun _ _ _ h => h) (Or.inl ⟨by rfl, ?_⟩) ?_ ?_
                  rotate_left
                  · intro w'
                    go_simp
                    with_reducible rfl
                  rotate_left
                  · simp only [Act.put, List.setIfInBounds_toArray, List.set_cons_zero, List.set_cons_succ, i64_w, i32_w]
                    rfl
                  refine last_ (i := 16) (N := none) #[true, true, true, true, true, true, true, true, true, true, true, true, true, true, true, true, true] rfl rfl (one_of HT_.out (by kernel_rfl)) (by decide) (fun K hK => ?_)
                  have HXG : Aside0 (wG.heap[bx]? = some (.cells #[.int .i64 0, .slice none 0 0] 37 (0, 0))) := ⟨blk_below HX0.out (hsb ▸ HBS.out)⟩
                  have HQG : Aside0 (wG.heap[sb]? = some (.cells #[.int .i64 x1, .int .i64 y1] 3 (0, 0))) := HQ0
                  have z0 : wG.frozen? ⟨bx, 0, none⟩ = false := blk_frozen HXG.out 0
                  have z1 : wG.frozen? ⟨bx, 1, none⟩ = false := blk_frozen HXG.out 1
                  have p0 : wG.cell? ⟨bx, 0, none⟩ = some (.int .i64 0) := (blk_cell HXG.out 0).trans rfl
                  have p1 : wG.cell? ⟨bx, 1, none⟩ = some (.slice none 0 0) := (blk_cell HXG.out 1).trans rfl
                  refine skip_ (w1 := ?_) (by rfl) rfl ?_ ?_
                  rotate_left
                  · go_simp
                    rfl
                  refine hK.out _ _ ?_
                  clear hK K z0 z1 p0 p1
                  refine done_ (done_of HT_.out (by kernel_rfl)) ?_
                  have hlt2 : bx < sb := by rw [← hsb]; exact blk_lt HX0.out
                  have hb0 : RowKit.Below wE.heap.size wE wG := by rw [hbx]; exact below_b HBX.out HBS.out (by omega)
                  have hb1 := RowKit.Below.setCell (p := ⟨bx, 1, none⟩) (RowKit.Below.setCell (p := ⟨bx, 0, none⟩) hb0 (by show wE.heap.size ≤ bx; omega) (.int .i64 i)) (by show wE.heap.size ≤ bx; omega) (.slice (some ⟨sb, 0, none⟩) 2 2)
                  go_wp2_with fail
                  go_meet
                  exact ⟨bx, sb, rfl, ⟨box_set HXG.out⟩, ⟨blk_far (blk_far HQG.out (p := ⟨bx, 0, none⟩) (by show sb ≠ bx; omega) _) (p := ⟨bx, 1, none⟩) (by show sb ≠ bx; omega) _⟩, ⟨HTD.out.below hb1⟩, ⟨below_b HBD.out hb1 HTD.out.lt⟩⟩
              case rest =>
                obtain ⟨p, q, rfl, HXP, HXQ, HTC, HBC⟩ := hcut
                clear r0 r1 q1 q2 HBD HTD HH HB
                have HP1 : Aside0 (Calls Try.prog 15 #[.pointer (some ⟨ga, 0, none⟩), .agg #[.int .i64 i, .slice (some ⟨q, 0, none⟩) 2 2]] wc (TwoD wc b0 ga maa gb mab 2 (rowsL s (i + 1)) (both s g i (min i M)) (.tuple #[.bool false, .int .i64 0]))) := ⟨by
                  have h1 := two_put HTC.out i (by show decide _ = true; simp [IntKind.wrap]; omega) (some ⟨q, 0, none⟩) 2 [x1, y1] (C_two2 HXQ.out) (by rw [← HAT.out]; exact (at2_ok s i).1) rfl false (by rw [rows_look]; rfl) (.inr (by rw [rows_len]; omega))
                  rw [← HAT.out, rows_put] at h1
                  exact h1⟩
                have p0 : wc.cell? ⟨p, 0, none⟩ = some (.int .i64 i) := (blk_cell HXP.out 0).trans rfl
                have p1 : wc.cell? ⟨p, 1, none⟩ = some (.slice (some ⟨q, 0, none⟩) 2 2) := (blk_cell HXP.out 1).trans rfl
                go_upto_region 11 with (go_at_call 15; refine HP1.out.mono ?_; rintro e w3 ⟨rfl, ht3, hb3, hk3⟩; have HT3 := Aside0.mk ht3; have HB3 := Aside0.mk hb3; have HX3 : Aside0 (w3.heap[p]? = some (.cells #[.int .i64 i, .slice (some ⟨q, 0, none⟩) 2 2] 37 (0, 0))) := ⟨hk3 _ _ _ HXP.out (by decide)⟩; have HY3 : Aside0 (w3.heap[q]? = some (.cells #[.int .i64 x1, .int .i64 y1] 3 (0, 0))) := ⟨hk3 _ _ _ HXQ.out (by decide)⟩; clear ht3 hb3 hk3)
                clear p0 p1
                have HP2 : Aside0 (Calls Try.prog 15 #[.pointer (some ⟨gb, 0, none⟩), .agg #[.int .i64 i, .slice (some ⟨q, 0, none⟩) 2 2]] w3 (TwoD w3 b0 gb mab ga maa 2 (both s g (i + 1) (min i M)) (rowsL s (i + 1)) (.tuple #[.bool false, .int .i64 0]))) := ⟨by
                  have h1 := two_put HT3.out.swap i (by show decide _ = true; simp [IntKind.wrap]; omega) (some ⟨q, 0, none⟩) 2 [x1, y1] (C_two2 HY3.out) (by rw [← HAT.out]; exact (at2_ok s i).1) rfl false (by rw [both_look _ _ _ _ (by omega)]; rfl) (.inr (by rw [both_len]; omega))
                  rw [← HAT.out, both_put _ _ _ _ (by omega)] at h1
                  exact h1⟩
                have p0 : w3.cell? ⟨p, 0, none⟩ = some (.int .i64 i) := (blk_cell HX3.out 0).trans rfl
                have p1 : w3.cell? ⟨p, 1, none⟩ = some (.slice (some ⟨q, 0, none⟩) 2 2) := (blk_cell HX3.out 1).trans rfl
                go_wp2_with (go_at_call 15; refine HP2.out.mono ?_; rintro e w4 ⟨rfl, ht4, hb4, _⟩; have HT4 := Aside0.mk ht4; have HB4 := Aside0.mk hb4; clear ht4 hb4)
                go_meet
                rw [HM1.out.2]
                exact ⟨⟨HT4.out.swap⟩, ⟨below_cat (below_cat HBC.out HB3.out) HB4.out⟩⟩
            · have hiN' : ¬ (i : Int) < (N : Int) := by omega
              have HM1 : Aside0 (min (i + 1) N = min i N) := ⟨by omega⟩
              go_wp2_with fail
              go_meet
              rw [HM1.out]
              exact ⟨HH, HB⟩
          case rest =>
            obtain ⟨HTC, HBC⟩ := hcut
            clear HH HB
            by_cases hiM : i < M
            · have hiM' : (i : Int) < (M : Int) := by omega
              have HM1 : Aside0 (min i M = i ∧ min (i + 1) M = i + 1) := ⟨by omega⟩
              rw [HM1.out.1] at HTC
              obtain ⟨ad, e0, r0', r1'⟩ := at_two HRB.out i (by have := HM.out; omega)
              subst e0
              obtain ⟨x0, hx0⟩ : ∃ x0, (g[i]'(by have := HM.out; omega)).1 = x0 := ⟨_, rfl⟩
              obtain ⟨y0, hy0⟩ : ∃ y0, (g[i]'(by have := HM.out; omega)).2 = y0 := ⟨_, rfl⟩
              rw [hx0] at r0'
              rw [hy0] at r1'
              have hbd : RowKit.Below W.heap.size W wc.drew := below_b HB1.out HBC.out.drew (by rw [← HB0.out]; exact HB1.out.size)
              have r0 : wc.drew.cell? (ad.add (i * 2)) = some (.int .i64 x0) := pw_cell_below hbd r0'
              have r1 : wc.drew.cell? ⟨(ad.add (i * 2)).block, (ad.add (i * 2)).off + 1, none⟩ = some (.int .i64 y0) := pw_cell_below hbd r1'
              have HGD : Aside0 (g.getD i (0, 0) = (x0, y0)) := ⟨by rw [List.getD_eq_getElem?_getD, List.getElem?_eq_getElem (by have := HM.out; omega)]; exact Prod.ext hx0 hy0⟩
              have q1 := Base.i64_and255 x0
              have q2 := Base.i64_and255 y0
              obtain ⟨x1, hx1⟩ : ∃ x1, x0 % 256 = x1 := ⟨_, rfl⟩
              obtain ⟨y1, hy1⟩ : ∃ y1, y0 % 256 = y1 := ⟨_, rfl⟩
              rw [hx1] at q1
              rw [hy1] at q2
              have HBD : Aside0 (Below b0 W1 wc.drew) := ⟨HBC.out.drew⟩
              have HAT : Aside0 (at2 g i = [x1, y1]) := ⟨by unfold at2; rw [HGD.out, ← hx1, ← hy1]; rfl⟩
              obtain ⟨k, hk⟩ : ∃ k, min (i + 1) N = k := ⟨_, rfl⟩
              have HK := Aside0.mk hk
              have hk40 : k ≤ 40 := by omega
              rw [hk] at HTC
              have HPUT : Aside0 (Calls Try.prog 15 #[.pointer (some ⟨gb, 0, none⟩), .agg #[.int .i64 (1000 + (i : Int)), .slice (some ⟨wc.drew.heap.size, 0, none⟩) 2 2]] (wc.drew.alloc (.cells #[.int .i64 x1, .int .i64 y1] 3)) (TwoD (wc.drew.alloc (.cells #[.int .i64 x1, .int .i64 y1] 3)) b0 gb mab ga maa 2 (both s g k (i + 1)) (rowsL s k) (.tuple #[.bool false, .int .i64 0]))) := ⟨by
                have h1 := two_put ((HTC.out.below (below_drew1 (Below.refl _ _))).below (below_alloc (Below.refl _ _) (.cells #[.int .i64 x1, .int .i64 y1] 3))).swap (1000 + (i : Int)) (by show decide _ = true; simp [IntKind.wrap]; omega) (some ⟨wc.drew.heap.size, 0, none⟩) 2 [x1, y1] (C_two2 (blk_new _ _)) (by rw [← HAT.out]; exact (at2_ok g i).1) rfl false (by rw [both_look2 _ _ _ _ (by omega)]; rfl) (.inr (by rw [both_len]; omega))
                rw [← HAT.out, both_more _ _ _ _ (by omega)] at h1
                exact h1⟩
              have HLT : Aside0 (b0 ≤ wc.drew.heap.size) := ⟨(HTC.out.below (below_drew1 (Below.refl _ _))).lt⟩
              have hws : IntKind.i64.wrap (1000 + (i : Int)) = 1000 + (i : Int) := IntWalk.i64_in _ (by omega)
              clear hx0 hy0 hx1 hy1 r0' r1' hbd hk
              go_upto_region 13 with (fail)
              refine start_ (n := 18) (S := fun w' => w'.cell? (ad.add (i * 2)) = some (.int .i64 x0) ∧ w'.cell? ⟨(ad.add (i * 2)).block, (ad.add (i * 2)).off + 1, none⟩ = some (.int .i64 y0)) (ds := [17]) #[false, false, false, false, false, false, false, false, false, false, false, false, false, false, false, false, false, false] (by kernel_rfl) rfl rfl ⟨r0, r1⟩ (fun hHeld => ?_)
              refine with_tabW dr13.tab dr13.bits (fun HT_ HW_ => ?_)
              generalize hwE : wc.drew = wE at *
              refine pure_ (i := 0) (N := some 106) (v := ?_) (a' := ?_) #[true, false, false, false, false, false, false, false, false, false, false, false, false, false, false, false, false, false] rfl rfl (any_of HT_.out (by kernel_rfl)) (fun _ _ _ h => h) (Or.inl ⟨by rfl, ?_⟩) ?_ ?_
              rotate_left
              · intro w'
                go_simp
                with_reducible rfl
              rotate_left
              · simp only [Act.put, List.setIfInBounds_toArray, List.set_cons_zero, List.set_cons_succ, i64_w, i32_w]
                rfl
              refine pure_ (i := 1) (N := some 107) (v := ?_) (a' := ?_) #[true, true, false, false, false, false, false, false, false, false, false, false, false, false, false, false, false, false] rfl rfl (any_of HT_.out (by kernel_rfl)) (fun _ _ _ h => h) (Or.inl ⟨by rfl, ?_⟩) ?_ ?_
              rotate_left
              · intro w'
                go_simp
                with_reducible rfl
              rotate_left
              · simp only [Act.put, List.setIfInBounds_toArray, List.set_cons_zero, List.set_cons_succ, i64_w, i32_w]
                rfl
              refine pure_ (i := 2) (N := some 108) (v := ?_) (a' := ?_) #[true, true, true, false, false, false, false, false, false, false, false, false, false, false, false, false, false, false] rfl rfl (any_of HT_.out (by kernel_rfl)) (fun _ _ _ h => h) (Or.inl ⟨by rfl, ?_⟩) ?_ ?_
              rotate_left
              · intro w'
                go_simp
                with_reducible rfl
              rotate_left
              · simp only [Act.put, List.setIfInBounds_toArray, List.set_cons_zero, List.set_cons_succ, i64_w, i32_w]
                rfl
              refine pure_ (i := 3) (N := some 109) (v := ?_) (a' := ?_) #[true, true, true, true, false, false, false, false, false, false, false, false, false, false, false, false, false, false] rfl rfl (any_of HT_.out (by kernel_rfl)) (fun _ _ _ h => h) (Or.inl ⟨by rfl, ?_⟩) ?_ ?_
              rotate_left
              · intro w'
                go_simp
                with_reducible rfl
              rotate_left
              · simp only [Act.put, List.setIfInBounds_toArray, List.set_cons_zero, List.set_cons_succ, i64_w, i32_w]
                rfl
              refine pure_ (i := 4) (N := some 110) (v := ?_) (a' := ?_) #[true, true, true, true, true, false, false, false, false, false, false, false, false, false, false, false, false, false] rfl rfl (any_of HT_.out (by kernel_rfl)) (fun _ _ _ h => h) (Or.inl ⟨by rfl, ?_⟩) ?_ ?_
              rotate_left
              · intro w'
                go_simp
                with_reducible rfl
              rotate_left
              · simp only [Act.put, List.setIfInBounds_toArray, List.set_cons_zero, List.set_cons_succ, i64_w, i32_w]
                rfl
              refine pure_ (i := 5) (N := some 111) (v := ?_) (a' := ?_) #[true, true, true, true, true, true, false, false, false, false, false, false, false, false, false, false, false, false] rfl rfl (any_of HT_.out (by kernel_rfl)) (fun _ _ _ h => h) (Or.inl ⟨by rfl, ?_⟩) ?_ ?_
              rotate_left
              · intro w'
                go_simp
                with_reducible rfl
              rotate_left
              · simp only [Act.put, List.setIfInBounds_toArray, List.set_cons_zero, List.set_cons_succ, i64_w, i32_w]
                rfl
              refine pure_ (i := 6) (N := some 112) (v := ?_) (a' := ?_) #[true, true, true, true, true, true, true, false, false, false, false, false, false, false, false, false, false, false] rfl rfl (any_of HT_.out (by kernel_rfl)) (fun _ _ _ h => h) (Or.inl ⟨by rfl, ?_⟩) ?_ ?_
              rotate_left
              · intro w'
                go_simp
                with_reducible rfl
              rotate_left
              · simp only [Act.put, List.setIfInBounds_toArray, List.set_cons_zero, List.set_cons_succ, i64_w, i32_w]
                rfl
              refine pure_ (i := 9) (N := some 115) (v := ?_) (a' := ?_) #[true, true, true, true, true, true, true, false, false, true, false, false, false, false, false, false, false, false] rfl rfl (any_of HT_.out (by kernel_rfl)) (fun _ _ _ h => h) (Or.inl ⟨by rfl, ?_⟩) ?_ ?_
              rotate_left
              · intro w'
                go_simp
                with_reducible rfl
              rotate_left
              · simp only [Act.put, List.setIfInBounds_toArray, List.set_cons_zero, List.set_cons_succ, i64_w, i32_w]
                rfl
              refine pure_ (i := 10) (N := some 116) (v := ?_) (a' := ?_) #[true, true, true, true, true, true, true, false, false, true, true, false, false, false, false, false, false, false] rfl rfl (any_of HT_.out (by kernel_rfl)) (fun _ _ _ h => h) (Or.inl ⟨by rfl, ?_⟩) ?_ ?_
              rotate_left
              · intro w'
                go_simp
                with_reducible rfl
              rotate_left
              · simp only [Act.put, List.setIfInBounds_toArray, List.set_cons_zero, List.set_cons_succ, i64_w, i32_w]
                rfl
              refine pure_ (i := 11) (N := some 117) (v := ?_) (a' := ?_) #[true, true, true, true, true, true, true, false, false, true, true, true, false, false, false, false, false, false] rfl rfl (any_of HT_.out (by kernel_rfl)) (fun _ _ _ h => h) (Or.inl ⟨by rfl, ?_⟩) ?_ ?_
              rotate_left
              · intro w'
                go_simp
                with_reducible rfl
              rotate_left
              · simp only [Act.put, List.setIfInBounds_toArray, List.set_cons_zero, List.set_cons_succ, i64_w, i32_w]
                rfl
              refine pure_ (i := 12) (N := some 118) (v := ?_) (a' := ?_) #[true, true, true, true, true, true, true, false, false, true, true, true, true, false, false, false, false, false] rfl rfl (any_of HT_.out (by kernel_rfl)) (fun _ _ _ h => h) (Or.inl ⟨by rfl, ?_⟩) ?_ ?_
              rotate_left
              · intro w'
                go_simp
                with_reducible rfl
              rotate_left
              · simp only [Act.put, List.setIfInBounds_toArray, List.set_cons_zero, List.set_cons_succ, i64_w, i32_w]
                rfl
              refine take_ (i := 7) (N := some 113) (v := ?_) (a' := ?_) #[true, true, true, true, true, true, true, true, false, true, true, true, true, false, false, false, false, false] rfl rfl (take_ofW HT_.out HW_.out (by kernel_rfl)) (fun _ _ _ h => h) (Or.inl ⟨by rfl, ?_⟩) hHeld ?_ ?_
              rotate_left
              · rintro w' ⟨s0, s1⟩
                go_simp
                with_reducible rfl
              rotate_left
              · simp only [Act.put, List.setIfInBounds_toArray, List.set_cons_zero, List.set_cons_succ, i64_w, i32_w]
                rfl
              refine pure_ (i := 8) (N := some 114) (v := ?_) (a' := ?_) #[true, true, true, true, true, true, true, true, true, true, true, true, true, false, false, false, false, false] rfl rfl (any_of HT_.out (by kernel_rfl)) (fun _ _ _ h => h) (Or.inl ⟨by rfl, ?_⟩) ?_ ?_
              rotate_left
              · intro w'
                go_simp
                with_reducible rfl
              rotate_left
              · simp only [Act.put, List.setIfInBounds_toArray, List.set_cons_zero, List.set_cons_succ, i64_w, i32_w]
                rfl
              refine take_ (i := 13) (N := some 119) (v := ?_) (a' := ?_) #[true, true, true, true, true, true, true, true, true, true, true, true, true, true, false, false, false, false] rfl rfl (take_ofW HT_.out HW_.out (by kernel_rfl)) (fun _ _ _ h => h) (Or.inl ⟨by rfl, ?_⟩) hHeld ?_ ?_
              rotate_left
              · rintro w' ⟨s0, s1⟩
                go_simp
                with_reducible rfl
              rotate_left
              · simp only [Act.put, List.setIfInBounds_toArray, List.set_cons_zero, List.set_cons_succ, i64_w, i32_w]
                rfl
              refine pure_ (i := 14) (N := some 120) (v := ?_) (a' := ?_) #[true, true, true, true, true, true, true, true, true, true, true, true, true, true, true, false, false, false] rfl rfl (any_of HT_.out (by kernel_rfl)) (fun _ _ _ h => h) (Or.inl ⟨by rfl, ?_⟩) ?_ ?_
              rotate_left
              · intro w'
                go_simp
                with_reducible rfl
              rotate_left
              · simp only [Act.put, List.setIfInBounds_toArray, List.set_cons_zero, List.set_cons_succ, i64_w, i32_w]
                rfl
              refine one_ (i := 15) (N := some 121) #[true, true, true, true, true, true, true, true, true, true, true, true, true, true, true, true, false, false] rfl rfl (one_of HT_.out (by kernel_rfl)) (by decide) (fun K hK => ?_)
              refine value_ (v := .slice (some ⟨wE.heap.size, 0, none⟩) 2 2) (w1 := wE.alloc (.cells #[.int .i64 x1, .int .i64 y1] 3)) (by rfl) rfl ?_ ?_
              · go_simp
              refine hK.out _ _ ⟨pw_cell_below (below_alloc (Below.refl _ _) _) hHeld.1, pw_cell_below (below_alloc (Below.refl _ _) _) hHeld.2⟩ (fun hH2 => ?_)
              clear hHeld hK K
              refine norm_ (a' := ?_) ?_ ?_
              rotate_left
              · simp only [Act.put, List.setIfInBounds_toArray, List.set_cons_zero, List.set_cons_succ, i64_w, i32_w]
                rfl
              refine pure_ (i := 16) (N := some 122) (v := ?_) (a' := ?_) #[true, true, true, true, true, true, true, true, true, true, true, true, true, true, true, true, true, false] rfl rfl (any_of HT_.out (by kernel_rfl)) (fun _ _ _ h => h) (Or.inl ⟨by rfl, ?_⟩) ?_ ?_
              rotate_left
              · intro w'
                go_simp
                with_reducible rfl
              rotate_left
              · simp only [Act.put, List.setIfInBounds_toArray, List.set_cons_zero, List.set_cons_succ, i64_w, i32_w]
                rfl
              refine last_ (i := 17) (N := some 123) #[true, true, true, true, true, true, true, true, true, true, true, true, true, true, true, true, true, true] rfl rfl (one_of HT_.out (by kernel_rfl)) (by decide) (fun K hK => ?_)
              refine goes_ Try.func15 (by kernel_rfl) rfl #[.pointer (some ⟨gb, 0, none⟩), .agg #[.int .i64 (1000 + i), .slice (some ⟨wE.heap.size, 0, none⟩) 2 2]] (by rfl) rfl rfl (by (try simp only [List.map_toArray, List.map_cons, List.map_nil]); first | done | rfl) ?_
              refine HPUT.out.mono ?_
              rintro e w9 ⟨rfl, ht9, hb9, _⟩
              refine ⟨_, rfl, ?_⟩
              have HT9 := Aside0.mk ht9
              have HB9 := Aside0.mk hb9
              refine hK.out _ _ ?_
              clear hK K hH2 ht9 hb9
              simp only [Act.put, List.setIfInBounds_toArray, List.set_cons_zero, List.set_cons_succ, i64_w, i32_w]
              refine done_ (done_of HT_.out (by kernel_rfl)) ?_
              clear hws
              go_wp2_with fail
              go_roundw
              case rel => exact ⟨i + 1, by go_num, by omega, by rw [HM1.out.2, HK.out]; exact ⟨HT9.out.swap⟩, ⟨below_cat (below_cat HBD.out (below_alloc0 HLT.out _)) HB9.out⟩⟩
              case measure => simp [intOf]; omega
            · have hiM' : ¬ (i : Int) < (M : Int) := by omega
              have HM1 : Aside0 (min (i + 1) M = min i M) := ⟨by omega⟩
              go_wp2_with fail
              go_roundw
              case rel => exact ⟨i + 1, by go_num, by omega, by rw [HM1.out]; exact HTC, HBC⟩
              case measure => simp [intOf]; omega
        · have ei : i = mx := by omega
          subst ei
          have HNM : Aside0 (min i N = N ∧ min i M = M) := ⟨by have := HMX.out; omega⟩
          rw [HNM.out.1, HNM.out.2, ← less_zero] at HH
          go_wp2_with fail
          go_loopw [13] (fun z wr => ∃ j : Nat, z = .int .i64 j ∧ j ≤ M ∧ Aside0 (Two wr b0 ga maa gb mab 2 (rowsL s N) (less s g N M j)) ∧ Aside0 (Below b0 W1 wr)) (fun z _ => M - (intOf z).toNat)
          case atStart => exact ⟨0, rfl, Nat.zero_le _, HH, HB⟩
          case round =>
            obtain ⟨j, rfl, hj, HH, HB⟩ := hrel
            by_cases hlt : j < M
            · have hlt' : (j : Int) < (M : Int) := by omega
              have hj0 : (0 : Int) ≤ (j : Int) := by omega
              have HDP : Aside0 (Calls Try.prog 23 #[.pointer (some ⟨gb, 0, none⟩), .int .i64 (1000 + (j : Int))] wr (TwoD wr b0 gb mab ga maa 2 (less s g N M (j + 1)) (rowsL s N) (.bool true))) := ⟨by
                have h1 := two_drop HH.out.swap (1000 + (j : Int)) (by show decide _ = true; simp [IntKind.wrap]; omega) true (less_look s g N M j hlt HH.out.snd.rise)
                rw [less_drop _ _ _ _ _ hlt (by omega)] at h1
                exact h1⟩
              go_wp2_with (go_at_call 23; refine HDP.out.mono ?_; rintro e w4 ⟨rfl, ht4, hb4, _⟩; have HT4 := Aside0.mk ht4; have HB4 := Aside0.mk hb4; clear ht4 hb4)
              go_roundw
              case rel => exact ⟨j + 1, by go_num, hlt, ⟨HT4.out.swap⟩, ⟨below_cat HB.out HB4.out⟩⟩
              case measure => simp [intOf]; omega
            · have ej : j = M := by omega
              subst ej
              rw [less_all] at HH
              obtain ⟨L, hL⟩ : ∃ L, rowsL s N = L := ⟨_, rfl⟩
              have HLN : Aside0 (L.length ≤ 512) := ⟨by rw [← hL]; exact HH.out.fst.few⟩
              rw [hL] at HH
              clear hL
              have HVR : Aside0 (wr.heap[W.heap.size]? = some (.cells #[.int .i64 x, .int .i64 y] 24 (0, 0))) := ⟨(HB.out.block _ (by rw [← HB0.out]; exact blk_lt HVB.out)).trans HVB.out⟩
              have v0 : wr.cell? ⟨W.heap.size, 0, none⟩ = some (.int .i64 x) := (blk_cell HVR.out 0).trans rfl
              have v1 : wr.cell? ⟨W.heap.size, 1, none⟩ = some (.int .i64 y) := (blk_cell HVR.out 1).trans rfl
              have q1 := Base.i64_and255 x
              have q2 := Base.i64_and255 y
              obtain ⟨x1, hx1⟩ : ∃ x1, x % 256 = x1 := ⟨_, rfl⟩
              obtain ⟨y1, hy1⟩ : ∃ y1, y % 256 = y1 := ⟨_, rfl⟩
              have HV : Aside0 (isV [x1, y1] = true) := ⟨two_ok (by omega) (by omega) (by omega) (by omega)⟩
              rw [hx1] at q1
              rw [hy1] at q2
              clear hx1 hy1
              obtain ⟨wv, hwv⟩ : ∃ wv, wr.alloc (.cells #[.int .i64 x1, .int .i64 y1] 3) = wv := ⟨_, rfl⟩
              have HHV : Aside0 (wv.heap[wr.heap.size]? = some (.cells #[.int .i64 x1, .int .i64 y1] 3 (0, 0))) := ⟨by rw [← hwv]; exact blk_new _ _⟩
              have HBV : Aside0 (Below wr.heap.size wr wv) := ⟨by rw [← hwv]; exact below_alloc (Below.refl _ _) _⟩
              have HWV := Aside0.mk hwv
              clear hwv
              obtain ⟨vb, hvb⟩ : ∃ vb, wr.heap.size = vb := ⟨_, rfl⟩
              have HVBE := Aside0.mk hvb
              rw [hvb] at HHV
              clear hvb
              have HTV : Aside0 (Two wv b0 ga maa gb mab 2 L L) := ⟨HH.out.below HBV.out⟩
              have HTO := Aside0.mk (hold_top HTV.out.fst (some ⟨vb, 0, none⟩) 2 [x1, y1] (C_two2 HHV.out) (fun ad e => by cases e; exact blk_lt HHV.out) HV.out rfl 10 (by omega) (by omega) 1099511627776)
              obtain ⟨bl, hbl⟩ : ∃ bl, best 10 1099511627776 (hits L [x1, y1]) = bl := ⟨_, rfl⟩
              have HBL : Aside0 (bl.length ≤ 10) := ⟨by rw [← hbl]; unfold best; rw [List.length_take]; omega⟩
              rw [hbl] at HTO
              go_upto_region 20 with (fail)
              rw [HWV.out, HVBE.out]
              go_upto_region 21 with (go_at_call 17; refine HTO.out.mono ?_; rintro e w5 ⟨⟨A5, c5, rfl, ho5⟩, _, hb5⟩; have HO5 := Aside0.mk ho5; have HB5 := Aside0.mk hb5; clear ho5 hb5)
              have HT5 : Aside0 (Two w5 b0 ga maa gb mab 2 L L) := ⟨HTV.out.below HB5.out⟩
              have HHV5 : Aside0 (w5.heap[vb]? = some (.cells #[.int .i64 x1, .int .i64 y1] 3 (0, 0))) := ⟨blk_below HHV.out HB5.out⟩
              have HTO2 := Aside0.mk (hold_top HT5.out.snd (some ⟨vb, 0, none⟩) 2 [x1, y1] (C_two2 HHV5.out) (fun ad e => by cases e; exact blk_lt HHV5.out) HV.out rfl 10 (by omega) (by omega) 1099511627776)
              rw [hbl] at HTO2
              clear hbl q1 q2 v0 v1
              go_upto_region 22 with (go_at_call 17; refine HTO2.out.mono ?_; rintro e w6 ⟨⟨A6, c6, rfl, ho6⟩, _, hb6⟩; have HO6 := Aside0.mk ho6; have HB6 := Aside0.mk hb6; clear ho6 hb6)
              have HT6 : Aside0 (Two w6 b0 ga maa gb mab 2 L L) := ⟨HT5.out.below HB6.out⟩
              have HS1 : Aside0 (Calls Try.prog 19 #[.slice A5 bl.length c5, .slice A6 bl.length c6] w6 fun e w' => e = .returned (.bool true) ∧ ∃ q, w' = w6.drewN q) := ⟨by
                have g1 := row_reads (own_below HO5.out HB6.out) (by have := HBL.out; omega)
                have g2 := row_reads HO6.out (by have := HBL.out; omega)
                have h1 := same_calls A5 A6 c5 c6 bl bl w6 g1.1 g2.1 g1.2 g2.2 (by have := HBL.out; omega)
                rw [decide_eq_true rfl] at h1
                exact h1⟩
              obtain ⟨n, hn⟩ : ∃ n, bl.length = n := ⟨_, rfl⟩
              rw [hn] at HS1
              rw [hn]
              have HP1 : Aside0 (∀ q, Calls Try.prog 22 #[.pointer (some ⟨ga, 0, none⟩)] (w6.drewN q) (PointsD (w6.drewN q) b0 ga maa 2 L)) := ⟨fun q => hold_points (HT6.out.below (pw_below_drewN (Below.refl _ _) q)).fst⟩
              clear hn
              go_wp2_with fail
              with_reducible refine HS1.out.mono ?_
              rintro e w8 ⟨rfl, q8, rfl⟩
              have HT8 : Aside0 (Two (w6.drewN q8) b0 ga maa gb mab 2 L L) := ⟨HT6.out.below (pw_below_drewN (Below.refl _ _) q8)⟩
              go_wp2_with fail
              with_reducible refine (HP1.out q8).mono ?_
              rintro e w9 ⟨hd9, _⟩
              have HD9 := Aside0.mk hd9
              obtain ⟨A9, c9, e9, hC9, hc9⟩ := points_read HD9.out HLN.out
              subst e9
              have HC9 := Aside0.mk hC9
              have HC9c := Aside0.mk hc9
              obtain ⟨p, hp⟩ : ∃ p, L.length = p := ⟨_, rfl⟩
              have HPL := Aside0.mk hp
              rw [hp]
              have HT9 : Aside0 (Two w9 b0 ga maa gb mab 2 L L) := ⟨HT8.out.below HD9.out.below⟩
              have HP2 := Aside0.mk (hold_points HT9.out.snd)
              clear hd9 hC9 hc9 hp
              go_wp2_with fail
              with_reducible refine HP2.out.mono ?_
              rintro e w10 ⟨hd10, _⟩
              have HD10 := Aside0.mk hd10
              obtain ⟨A10, c10, e10, hC10, hc10⟩ := points_read HD10.out HLN.out
              subst e10
              have HS2 : Aside0 (Calls Try.prog 21 #[.slice A9 p c9, .slice A10 p c10] w10 fun e w' => e = .returned (.bool true) ∧ ∃ q, w' = w10.drewN q) := ⟨by
                have h1 := same37_calls A9 A10 c9 c10 L w10 (Kd.C_below HC9.out HD10.out.below) hC10 HC9c.out hc10 (by have := HLN.out; omega) (fun z hz => by
                  have h2 := HT9.out.fst.vecs z hz
                  have := isV_len h2.1
                  omega)
                rw [HPL.out] at h1
                exact h1⟩
              rw [HPL.out]
              clear hd10 hC10 hc10
              go_wp2_with fail
              with_reducible refine HS2.out.mono ?_
              rintro e w11 ⟨rfl, q11, rfl⟩
              go_wp2_with (go_at_call 12; refine (awake_calls _).mono ?_; rintro e w12 ⟨rfl, hb12⟩; have HB12 := Aside0.mk hb12; clear hb12)
              go_ret
              have k1 := below_b HB.out HBV.out HH.out.lt
              have k2 := below_b k1 HB5.out HTV.out.lt
              have k3 := below_b k2 HB6.out HT5.out.lt
              have k4 := pw_below_drewN k3 q8
              have k5 := below_b k4 HD9.out.below HT8.out.lt
              have k6 := below_b k5 HD10.out.below HT9.out.lt
              have k7 := pw_below_drewN k6 q11
              exact ⟨rfl, below_step (below_b HB1.out k7 (by rw [← HB0.out]; exact HB1.out.size)) HB12.out⟩
theorem drops_row (W : World) (A : Option Addr) (c : Nat) (s : List (Int × Int)) (B : Option Addr) (cb : Nat) (g : List (Int × Int)) (x y : Int) (hr : ReadsRow Op.I2 2 W A s.length s) (hc : s.length ≤ c) (hrb : ReadsRow Op.I2 2 W B g.length g) (hcb : g.length ≤ cb) : Calls Try.prog 8 #[.slice A s.length c, .slice B g.length cb, .agg #[.int .i64 x, .int .i64 y]] W (Yes W) := drops_calls W A c s B cb g x y (row_two hr) hc (row_two hrb) hcb
end Go.Proofs.Ytealiaafdkhonaa.Vp
