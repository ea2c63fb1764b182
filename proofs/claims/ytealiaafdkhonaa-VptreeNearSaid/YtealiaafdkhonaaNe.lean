/- VptreeNear, walked. -/
import Derived.Test.YtealiaafdkhonaaNn
import Derived.Test.YtealiaafdkhonaaHo1
namespace Go.Proofs.Ytealiaafdkhonaa.Vp
open Go.RowKit Go.Sort Mb Base Go.Proofs.YtealiaafdkhonaaW.PrintWords Go.Proofs.YtealiaafdkhonaaW.PrintLast Go.Proofs.YtealiaafdkhonaaW.PrintMore
set_option linter.unusedVariables false
set_option linter.unusedSimpArgs false
noncomputable def ne8.T : Bool × List (List Nat × List Nat) := rtab .any (opsOf Try.f3 8)
def ne8.B : List Nat := [0, 0, 0, 6, 14, 31, 63, 127, 127, 127, 0, 1279, 3583, 8191]
theorem ne8.tab : rtab .any (opsOf Try.f3 8) = ne8.T := rfl
theorem ne8.bits : waitsOk ne8.T.2 ne8.B = true := by kernel_rfl
theorem below_b {b b' : Nat} {W w1 w2 : World} (h : Below b W w1) (k : Below b' w1 w2) (hb : b ≤ b') : Below b W w2 := below_cat h (k.mono hb)
theorem box_set {w : World} {b : Nat} {t : TypeId} {u0 u1 v0 v1 : Value} (h : w.heap[b]? = some (.cells #[u0, u1] t (0, 0))) : ((w.setCell ⟨b, 0, none⟩ v0).setCell ⟨b, 1, none⟩ v1).heap[b]? = some (.cells #[v0, v1] t (0, 0)) := (blk_set (blk_set h 0 v0) 1 v1).trans rfl
/-- The tree, the reference's list and its box, as they stand. -/
structure Both (W0 W1 wr : World) (b0 g ma b9 : Nat) (A : Option Addr) (m c : Nat) (L : List (Int × List Int)) : Prop where
  tree : HoldsD wr b0 g ma 2 L
  ref : RefAt W0 wr (.slice A m c) L
  box : wr.heap[b9]? = some (.cells #[.int .i64 2, .slice A m c] 31 (0, 0))
  below : Below b0 W1 wr
  old : b0 ≤ b9
theorem RefAt.slice {W0 W : World} {val : Value} {L : List (Int × List Int)} (h : RefAt W0 W val L) : ∃ A m c, val = .slice A m c := by
  obtain ⟨Q, h1, _⟩ := h
  obtain ⟨A, c, e⟩ := own_slice h1
  exact ⟨A, _, c, e⟩
set_option maxRecDepth 100000 in
set_option maxHeartbeats 8000000 in
theorem near_calls (W : World) (A : Option Addr) (c : Nat) (s : List (Int × List Int)) (V : Option Addr) (vc : Nat) (v : List Int) (x y : Int) (hr : ReadsRow (RP W) 2 W A s.length s) (hc : s.length ≤ c) (hV : Kd.C (Kd.int .i64) W V v.length v) (hvc : v.length ≤ vc) :
    Calls Try.prog 3 #[.slice A s.length c, .slice V v.length vc, .agg #[.int .i64 x, .int .i64 y]] W (Yes W) := by
  have HR := Aside0.mk hr
  have HCV := Aside0.mk hV
  have HVC := Aside0.mk hvc
  obtain ⟨N, hN⟩ : ∃ N, s.length = N := ⟨_, rfl⟩
  have HN := Aside0.mk hN
  obtain ⟨vn, hvn⟩ : ∃ vn, v.length = vn := ⟨_, rfl⟩
  have HVN := Aside0.mk hvn
  rw [hN] at hc
  rw [hN, hvn]
  obtain ⟨W1, hW1⟩ : ∃ W1, W.alloc (.cells #[.int .i64 x, .int .i64 y] 24) = W1 := ⟨_, rfl⟩
  have HVB : Aside0 (W1.heap[W.heap.size]? = some (.cells #[.int .i64 x, .int .i64 y] 24 (0, 0))) := ⟨by rw [← hW1]; exact blk_new _ _⟩
  have HB1 : Aside0 (Below W.heap.size W W1) := ⟨by rw [← hW1]; exact below_alloc (Below.refl _ _) _⟩
  have HW1 := Aside0.mk hW1
  clear hr hN hV hvc hvn hW1
  by_cases hlen : (200 : Int) < (N : Int)
  · go_enter Try.func3, Try.ntmps3
    go_upto_region 2 with (go_at_call 11; refine (hold_new 2 (by omega) (by omega) _).mono ?_; rintro e w1 ⟨⟨g, ma, rfl, hh⟩, hb⟩; have e25 : ∀ w, (binOp .eql 25 (.pointer (some ⟨g, 0, none⟩)) (.pointer none)).run Try.prog w = .ok (.bool false) w := (fun w => by kernel_rfl); have e25n : ∀ w, (binOp .neq 25 (.pointer (some ⟨g, 0, none⟩)) (.pointer none)).run Try.prog w = .ok (.bool true) w := (fun w => by kernel_rfl); have HB2 := Aside0.mk hb; clear hb hh)
    rw [HW1.out] at HB2
    go_wp2_with (go_at_call 12; refine (awake_calls _).mono ?_; rintro e w3 ⟨rfl, hb3⟩; have HB4 := Aside0.mk hb3; clear hb3)
    go_ret
    exact ⟨rfl, below_step (below_step HB1.out HB2.out) HB4.out⟩
  · go_enter Try.func3, Try.ntmps3
    go_upto_region 5 with (first
      | (go_at_call 11; refine (hold_new 2 (by omega) (by omega) _).mono ?_; rintro e w1 ⟨⟨g, ma, rfl, hh⟩, hb⟩; have e25 : ∀ w, (binOp .eql 25 (.pointer (some ⟨g, 0, none⟩)) (.pointer none)).run Try.prog w = .ok (.bool false) w := (fun w => by kernel_rfl); have HB2 := Aside0.mk hb; have HH1 := Aside0.mk hh; clear hb hh)
      | (go_at_call 13; refine (ref_new 2 (by omega) (by omega) _).mono ?_; rintro e w2 ⟨rfl, hb⟩; have HB3 := Aside0.mk hb; clear hb))
    rw [HW1.out] at HB2 HH1
    obtain ⟨b0, hb0⟩ : ∃ b0, W1.heap.size = b0 := ⟨_, rfl⟩
    have HB0 := Aside0.mk hb0
    rw [hb0] at HB2 HH1
    obtain ⟨b9, hb9⟩ : ∃ b9, w2.heap.size = b9 := ⟨_, rfl⟩
    obtain ⟨w3, hw3⟩ : ∃ w3, w2.alloc (.cells #[.int .i64 2, .slice none 0 0] 31) = w3 := ⟨_, rfl⟩
    have HBO : Aside0 (Both W W1 w3 b0 g ma b9 none 0 0 []) := ⟨by
      have hb3 : RowKit.Below w1.heap.size w1 w3 := by rw [← hw3]; exact below_alloc HB3.out _
      refine ⟨HH1.out.below hb3, ⟨⟨[], own_nil _ _ _ _, (fun q hq => by cases hq), rfl⟩⟩, by rw [← hw3, ← hb9]; exact blk_new _ _, below_b HB2.out hb3 HH1.out.lt, by rw [← hb9]; exact Nat.le_trans HH1.out.lt HB3.out.size⟩⟩
    rw [hb9, hw3]
    clear hb0 hb9 hw3
    go_wp2_with fail
    go_loopw [11] (fun z wr => ∃ (i : Nat) (A1 : Option Addr) (m1 c1 : Nat), z = .int .i64 i ∧ i ≤ N ∧ Aside0 (Both W W1 wr b0 g ma b9 A1 m1 c1 (putsL 2 (s.take i)))) (fun z _ => N - (intOf z).toNat)
    case atStart => exact ⟨0, none, 0, 0, rfl, Nat.zero_le _, HBO⟩
    case round =>
      obtain ⟨i, A1, m1, c1, rfl, hi, HO⟩ := hrel
      by_cases hlt : i < N
      · have hlt' : (i : Int) < (N : Int) := by omega
        have hi0 : (0 : Int) ≤ (i : Int) := by omega
        have hil : i < s.length := by have := HN.out; omega
        obtain ⟨ad, A2, c2, e0, r0', r1', hc2, hC2, hw2⟩ := at_pt HR.out i hil
        subst e0
        have hbw : RowKit.Below W.heap.size W wr := below_b HB1.out HO.out.below (by rw [← HB0.out]; exact HB1.out.size)
        have HSN := Aside0.mk (puts_snoc 2 s i hil)
        obtain ⟨L, hL⟩ : ∃ L, putsL 2 (s.take i) = L := ⟨_, rfl⟩
        rw [hL] at HO HSN
        obtain ⟨r, hrr⟩ : ∃ r, putR 2 L s[i].1 s[i].2 = r := ⟨_, rfl⟩
        rw [hrr] at HSN
        obtain ⟨u, hu⟩ : ∃ u, s[i].2 = u := ⟨_, rfl⟩
        obtain ⟨id, hid⟩ : ∃ id, s[i].1 = id := ⟨_, rfl⟩
        rw [hid] at hrr r0' hw2
        rw [hu] at hrr r1' hc2 hC2
        have HBE : Aside0 (RowKit.Below wr.heap.size wr wr.drew) := ⟨below_drew1 (Below.refl _ _)⟩
        have HPUT : Aside0 (∀ W', RowKit.Below wr.drew.heap.size wr.drew W' → Calls Try.prog 14 #[.agg #[.int .i64 2, .slice A1 m1 c1], .agg #[.int .i64 id, .slice A2 u.length c2]] W' (RefGot W W' 2 r)) := ⟨fun W' hW' => by
          have hb := below_step HBE.out hW'
          rw [← hrr]
          exact ref_put W W' (below_step hbw hb) 2 L (.slice A1 m1 c1) (HO.out.ref.below hb) HO.out.tree.rise HO.out.tree.few id A2 c2 u hC2 hc2⟩
        have HTP : Aside0 (∀ W', RowKit.Below wr.heap.size wr W' → Calls Try.prog 15 #[.pointer (some ⟨g, 0, none⟩), .agg #[.int .i64 id, .slice A2 u.length c2]] W' (DoneK W' b0 g ma 2 r.2.2 (.tuple #[.bool r.1, .int .i64 r.2.1]))) := ⟨fun W' hW' => by
          rw [← hrr]
          exact hold_put_k (HO.out.tree.below hW') id hw2 A2 c2 u (Kd.C_below hC2 (below_step hbw hW'))⟩
        obtain ⟨n2, hn2⟩ : ∃ n2, u.length = n2 := ⟨_, rfl⟩
        rw [hn2] at HPUT HTP r1'
        have HR0 := Aside0.mk (pw_cell_below hbw r0')
        have HR1 := Aside0.mk (pw_cell_below hbw r1')
        have q0 : wr.drew.cell? ⟨b9, 0, none⟩ = some (.int .i64 2) := (blk_cell HO.out.box 0).trans rfl
        have q1 : wr.drew.cell? ⟨b9, 1, none⟩ = some (.slice A1 m1 c1) := (blk_cell HO.out.box 1).trans rfl
        have r0 : wr.drew.cell? (ad.add (i * 2)) = some (.int .i64 id) := HR0.out
        have r1 : wr.drew.cell? ⟨(ad.add (i * 2)).block, (ad.add (i * 2)).off + 1, none⟩ = some (.slice A2 n2 c2) := HR1.out
        clear r0' r1' hw2 hc2 hC2 hbw hL hrr hu hid hn2
        go_upto_region 8 with (fail)
        go_cut [12, 13, 14] (fun z12 z13 z14 wc => ∃ (bx : Nat) (A9 : Option Addr) (m9 c9 : Nat), z12 = .pointer (some ⟨bx, 0, none⟩) ∧ z13 = .bool r.1 ∧ z14 = .int .i64 r.2.1 ∧ Aside0 (wc.heap[bx]? = some (.cells #[.int .i64 2, .slice A9 m9 c9] 31 (0, 0))) ∧ Aside0 (RefAt W wc (.slice A9 m9 c9) r.2.2) ∧ Aside0 (RowKit.Below wr.heap.size wr wc))
        case first =>
          refine start_ (n := 14) (S := fun w' => w'.cell? ⟨b9, 0, none⟩ = some (.int .i64 2) ∧ w'.cell? ⟨b9, 1, none⟩ = some (.slice A1 m1 c1) ∧ w'.cell? (ad.add (i * 2)) = some (.int .i64 id) ∧ w'.cell? ⟨(ad.add (i * 2)).block, (ad.add (i * 2)).off + 1, none⟩ = some (.slice A2 n2 c2)) (ds := [11]) #[false, false, false, false, false, false, false, false, false, false, false, false, false, false] (by kernel_rfl) rfl rfl ⟨q0, q1, r0, r1⟩ (fun hHeld => ?_)
          refine with_tabW ne8.tab ne8.bits (fun HT_ HW_ => ?_)
          generalize hwE : wr.drew = wE at *
          refine pure_ (i := 1) (N := some 59) (v := ?_) (a' := ?_) #[false, true, false, false, false, false, false, false, false, false, false, false, false, false] rfl rfl (any_of HT_.out (by kernel_rfl)) (fun _ _ _ h => h) (Or.inl ⟨by rfl, ?_⟩) ?_ ?_
          rotate_left
          · intro w'
            go_simp
            with_reducible rfl
          rotate_left
          · simp only [Act.put, List.setIfInBounds_toArray, List.set_cons_zero, List.set_cons_succ, i64_w, i32_w]
            rfl
          refine pure_ (i := 2) (N := some 60) (v := ?_) (a' := ?_) #[false, true, true, false, false, false, false, false, false, false, false, false, false, false] rfl rfl (any_of HT_.out (by kernel_rfl)) (fun _ _ _ h => h) (Or.inl ⟨by rfl, ?_⟩) ?_ ?_
          rotate_left
          · intro w'
            go_simp
            with_reducible rfl
          rotate_left
          · simp only [Act.put, List.setIfInBounds_toArray, List.set_cons_zero, List.set_cons_succ, i64_w, i32_w]
            rfl
          refine pure_ (i := 3) (N := some 61) (v := ?_) (a' := ?_) #[false, true, true, true, false, false, false, false, false, false, false, false, false, false] rfl rfl (any_of HT_.out (by kernel_rfl)) (fun _ _ _ h => h) (Or.inl ⟨by rfl, ?_⟩) ?_ ?_
          rotate_left
          · intro w'
            go_simp
            with_reducible rfl
          rotate_left
          · simp only [Act.put, List.setIfInBounds_toArray, List.set_cons_zero, List.set_cons_succ, i64_w, i32_w]
            rfl
          refine take_ (i := 0) (N := some 58) (v := ?_) (a' := ?_) #[true, true, true, true, false, false, false, false, false, false, false, false, false, false] rfl rfl (take_ofW HT_.out HW_.out (by kernel_rfl)) (fun _ _ _ h => h) (Or.inl ⟨by rfl, ?_⟩) hHeld ?_ ?_
          rotate_left
          · rintro w' ⟨s0, s1, s2, s3⟩
            go_simp
            with_reducible rfl
          rotate_left
          · simp only [Act.put, List.setIfInBounds_toArray, List.set_cons_zero, List.set_cons_succ, i64_w, i32_w]
            rfl
          refine take_ (i := 4) (N := some 62) (v := ?_) (a' := ?_) #[true, true, true, true, true, false, false, false, false, false, false, false, false, false] rfl rfl (take_ofW HT_.out HW_.out (by kernel_rfl)) (fun _ _ _ h => h) (Or.inl ⟨by rfl, ?_⟩) hHeld ?_ ?_
          rotate_left
          · rintro w' ⟨s0, s1, s2, s3⟩
            go_simp
            with_reducible rfl
          rotate_left
          · simp only [Act.put, List.setIfInBounds_toArray, List.set_cons_zero, List.set_cons_succ, i64_w, i32_w]
            rfl
          refine two_ (i := 5) (j := 10) (Ni := some 63) (Nj := some 12) #[true, true, true, true, true, true, false, false, false, false, false, false, false, false] #[true, true, true, true, true, false, false, false, false, false, true, false, false, false] rfl rfl rfl rfl (two_of HT_.out (by kernel_rfl)) (by decide) (by decide) (fun K hK => ?_) (fun K hK => ?_)
          · refine goes_ Try.func14 (by kernel_rfl) rfl #[.agg #[.int .i64 2, .slice A1 m1 c1], .agg #[.int .i64 id, .slice A2 n2 c2]] (by rfl) rfl rfl (by (try simp only [List.map_toArray, List.map_cons, List.map_nil]); first | done | rfl) ?_
            refine (HPUT.out wE (Below.refl _ _)).mono ?_
            rintro e wF ⟨⟨v9, rfl, hr9⟩, hb9⟩
            refine ⟨_, rfl, ?_⟩
            obtain ⟨A9, m9, c9, ev9⟩ := RefAt.slice hr9
            subst ev9
            have HR9 := Aside0.mk hr9
            have HB9 := Aside0.mk hb9
            refine hK.out _ _ ⟨pw_cell_below (hb9) hHeld.1, pw_cell_below (hb9) hHeld.2.1, pw_cell_below (hb9) hHeld.2.2.1, pw_cell_below (hb9) hHeld.2.2.2⟩ (fun hH1 => ?_)
            clear hHeld hK K hr9 hb9
            refine norm_ (a' := ?_) ?_ ?_
            rotate_left
            · simp only [Act.put, List.setIfInBounds_toArray, List.set_cons_zero, List.set_cons_succ, i64_w, i32_w]
              rfl
            refine pure_ (i := 6) (N := some 57) (v := ?_) (a' := ?_) #[true, true, true, true, true, true, true, false, false, false, false, false, false, false] rfl rfl (any_of HT_.out (by kernel_rfl)) (fun _ _ _ h => h) (Or.inl ⟨by rfl, ?_⟩) ?_ ?_
            rotate_left
            · intro w'
              go_simp
              with_reducible rfl
            rotate_left
            · simp only [Act.put, List.setIfInBounds_toArray, List.set_cons_zero, List.set_cons_succ, i64_w, i32_w]
              rfl
            refine pure_ (i := 7) (N := some 64) (v := ?_) (a' := ?_) #[true, true, true, true, true, true, true, true, false, false, false, false, false, false] rfl rfl (any_of HT_.out (by kernel_rfl)) (fun _ _ _ h => h) (Or.inl ⟨by rfl, ?_⟩) ?_ ?_
            rotate_left
            · intro w'
              go_simp
              with_reducible rfl
            rotate_left
            · simp only [Act.put, List.setIfInBounds_toArray, List.set_cons_zero, List.set_cons_succ, i64_w, i32_w]
              rfl
            refine pure_ (i := 8) (N := some 65) (v := ?_) (a' := ?_) #[true, true, true, true, true, true, true, true, true, false, false, false, false, false] rfl rfl (any_of HT_.out (by kernel_rfl)) (fun _ _ _ h => h) (Or.inl ⟨by rfl, ?_⟩) ?_ ?_
            rotate_left
            · intro w'
              go_simp
              with_reducible rfl
            rotate_left
            · simp only [Act.put, List.setIfInBounds_toArray, List.set_cons_zero, List.set_cons_succ, i64_w, i32_w]
              rfl
            refine pure_ (i := 9) (N := some 66) (v := ?_) (a' := ?_) #[true, true, true, true, true, true, true, true, true, true, false, false, false, false] rfl rfl (any_of HT_.out (by kernel_rfl)) (fun _ _ _ h => h) (Or.inl ⟨by rfl, ?_⟩) ?_ ?_
            rotate_left
            · intro w'
              go_simp
              with_reducible rfl
            rotate_left
            · simp only [Act.put, List.setIfInBounds_toArray, List.set_cons_zero, List.set_cons_succ, i64_w, i32_w]
              rfl
            refine one_ (i := 10) (N := some 12) #[true, true, true, true, true, true, true, true, true, true, true, false, false, false] rfl rfl (one_of HT_.out (by kernel_rfl)) (by decide) (fun K hK => ?_)
            refine value_ (v := .pointer (some ⟨wF.heap.size, 0, none⟩)) (w1 := wF.alloc (.cells #[.int .i64 0, .slice none 0 0] 31)) (by rfl) rfl ?_ ?_
            · go_simp
            refine hK.out _ _ ⟨pw_cell_below (below_alloc (Below.refl _ _) _) hH1.1, pw_cell_below (below_alloc (Below.refl _ _) _) hH1.2.1, pw_cell_below (below_alloc (Below.refl _ _) _) hH1.2.2.1, pw_cell_below (below_alloc (Below.refl _ _) _) hH1.2.2.2⟩ (fun hH2 => ?_)
            clear hH1 hK K
            refine norm_ (a' := ?_) ?_ ?_
            rotate_left
            · simp only [Act.put, List.setIfInBounds_toArray, List.set_cons_zero, List.set_cons_succ, i64_w, i32_w]
              rfl
            have HX0 := Aside0.mk (blk_new wF (.cells #[.int .i64 0, .slice none 0 0] 31))
            have HBX := Aside0.mk (below_alloc (Below.refl wF.heap.size wF) (.cells #[.int .i64 0, .slice none 0 0] 31))
            generalize hbx : wF.heap.size = bx at *
            generalize hw2 : wF.alloc (.cells #[.int .i64 0, .slice none 0 0] 31) = wG at *
            refine last_ (i := 11) (N := none) #[true, true, true, true, true, true, true, true, true, true, true, true, false, false] rfl rfl (one_of HT_.out (by kernel_rfl)) (by decide) (fun K hK => ?_)
            have HXG : Aside0 (wG.heap[bx]? = some (.cells #[.int .i64 0, .slice none 0 0] 31 (0, 0))) := HX0
            have z0 : wG.frozen? ⟨bx, 0, none⟩ = false := blk_frozen HXG.out 0
            have z1 : wG.frozen? ⟨bx, 1, none⟩ = false := blk_frozen HXG.out 1
            have p0 : wG.cell? ⟨bx, 0, none⟩ = some (.int .i64 0) := (blk_cell HXG.out 0).trans rfl
            have p1 : wG.cell? ⟨bx, 1, none⟩ = some (.slice none 0 0) := (blk_cell HXG.out 1).trans rfl
            refine skip_ (w1 := ?_) (by rfl) rfl ?_ ?_
            rotate_left
            · go_simp
              rfl
            refine hK.out _ _ ?_
            clear hK K z0 z1 p0 p1
            refine pure_ (i := 12) (N := some 13) (v := ?_) (a' := ?_) #[true, true, true, true, true, true, true, true, true, true, true, true, true, false] rfl rfl (any_of HT_.out (by kernel_rfl)) (fun _ _ _ h => h) (Or.inl ⟨by rfl, ?_⟩) ?_ ?_
            rotate_left
            · intro w'
              go_simp
              with_reducible rfl
            rotate_left
            · simp only [Act.put, List.setIfInBounds_toArray, List.set_cons_zero, List.set_cons_succ, i64_w, i32_w]
              rfl
            refine pure_ (i := 13) (N := some 14) (v := ?_) (a' := ?_) #[true, true, true, true, true, true, true, true, true, true, true, true, true, true] rfl rfl (any_of HT_.out (by kernel_rfl)) (fun _ _ _ h => h) (Or.inl ⟨by rfl, ?_⟩) ?_ ?_
            rotate_left
            · intro w'
              go_simp
              with_reducible rfl
            rotate_left
            · simp only [Act.put, List.setIfInBounds_toArray, List.set_cons_zero, List.set_cons_succ, i64_w, i32_w]
              rfl
            refine done_ (done_of HT_.out (by kernel_rfl)) ?_
            have hb0' : RowKit.Below wE.heap.size wE wG := below_b HB9.out HBX.out (by rw [← hbx]; exact HB9.out.size)
            have hbs : wE.heap.size ≤ bx := by rw [← hbx]; exact HB9.out.size
            have hrg : RefAt W wG (.slice A9 m9 c9) r.2.2 := HR9.out.below (hbx ▸ HBX.out)
            have hb1 := RowKit.Below.setCell (p := ⟨bx, 1, none⟩) (RowKit.Below.setCell (p := ⟨bx, 0, none⟩) hb0' hbs (.int .i64 2)) hbs (.slice A9 m9 c9)
            have hx2 := blk_set HXG.out 0 (.int .i64 2)
            go_wp2_with fail
            go_meet
            exact ⟨bx, A9, m9, c9, rfl, rfl, rfl, ⟨box_set HXG.out⟩, ⟨(hrg.set HXG.out (by decide) 0 (.int .i64 2)).set hx2 (by decide) 1 (.slice A9 m9 c9)⟩, ⟨below_step HBE.out hb1⟩⟩
          · refine value_ (v := .pointer (some ⟨wE.heap.size, 0, none⟩)) (w1 := wE.alloc (.cells #[.int .i64 0, .slice none 0 0] 31)) (by rfl) rfl ?_ ?_
            · go_simp
            refine hK.out _ _ ⟨pw_cell_below (below_alloc (Below.refl _ _) _) hHeld.1, pw_cell_below (below_alloc (Below.refl _ _) _) hHeld.2.1, pw_cell_below (below_alloc (Below.refl _ _) _) hHeld.2.2.1, pw_cell_below (below_alloc (Below.refl _ _) _) hHeld.2.2.2⟩ (fun hH1 => ?_)
            clear hHeld hK K
            refine norm_ (a' := ?_) ?_ ?_
            rotate_left
            · simp only [Act.put, List.setIfInBounds_toArray, List.set_cons_zero, List.set_cons_succ, i64_w, i32_w]
              rfl
            have HX0 := Aside0.mk (blk_new wE (.cells #[.int .i64 0, .slice none 0 0] 31))
            have HBX := Aside0.mk (below_alloc (Below.refl wE.heap.size wE) (.cells #[.int .i64 0, .slice none 0 0] 31))
            generalize hbx : wE.heap.size = bx at *
            generalize hw2 : wE.alloc (.cells #[.int .i64 0, .slice none 0 0] 31) = wF at *
            refine one_ (i := 5) (N := some 63) #[true, true, true, true, true, true, false, false, false, false, true, false, false, false] rfl rfl (one_of HT_.out (by kernel_rfl)) (by decide) (fun K hK => ?_)
            refine goes_ Try.func14 (by kernel_rfl) rfl #[.agg #[.int .i64 2, .slice A1 m1 c1], .agg #[.int .i64 id, .slice A2 n2 c2]] (by rfl) rfl rfl (by (try simp only [List.map_toArray, List.map_cons, List.map_nil]); first | done | rfl) ?_
            refine (HPUT.out wF (hbx ▸ HBX.out)).mono ?_
            rintro e wG ⟨⟨v9, rfl, hr9⟩, hb9⟩
            refine ⟨_, rfl, ?_⟩
            obtain ⟨A9, m9, c9, ev9⟩ := RefAt.slice hr9
            subst ev9
            have HR9 := Aside0.mk hr9
            have HB9 := Aside0.mk hb9
            refine hK.out _ _ ⟨pw_cell_below (hb9) hH1.1, pw_cell_below (hb9) hH1.2.1, pw_cell_below (hb9) hH1.2.2.1, pw_cell_below (hb9) hH1.2.2.2⟩ (fun hH2 => ?_)
            clear hH1 hK K hr9 hb9
            refine norm_ (a' := ?_) ?_ ?_
            rotate_left
            · simp only [Act.put, List.setIfInBounds_toArray, List.set_cons_zero, List.set_cons_succ, i64_w, i32_w]
              rfl
            refine pure_ (i := 6) (N := some 57) (v := ?_) (a' := ?_) #[true, true, true, true, true, true, true, false, false, false, true, false, false, false] rfl rfl (any_of HT_.out (by kernel_rfl)) (fun _ _ _ h => h) (Or.inl ⟨by rfl, ?_⟩) ?_ ?_
            rotate_left
            · intro w'
              go_simp
              with_reducible rfl
            rotate_left
            · simp only [Act.put, List.setIfInBounds_toArray, List.set_cons_zero, List.set_cons_succ, i64_w, i32_w]
              rfl
            refine pure_ (i := 7) (N := some 64) (v := ?_) (a' := ?_) #[true, true, true, true, true, true, true, true, false, false, true, false, false, false] rfl rfl (any_of HT_.out (by kernel_rfl)) (fun _ _ _ h => h) (Or.inl ⟨by rfl, ?_⟩) ?_ ?_
            rotate_left
            · intro w'
              go_simp
              with_reducible rfl
            rotate_left
            · simp only [Act.put, List.setIfInBounds_toArray, List.set_cons_zero, List.set_cons_succ, i64_w, i32_w]
              rfl
            refine pure_ (i := 8) (N := some 65) (v := ?_) (a' := ?_) #[true, true, true, true, true, true, true, true, true, false, true, false, false, false] rfl rfl (any_of HT_.out (by kernel_rfl)) (fun _ _ _ h => h) (Or.inl ⟨by rfl, ?_⟩) ?_ ?_
            rotate_left
            · intro w'
              go_simp
              with_reducible rfl
            rotate_left
            · simp only [Act.put, List.setIfInBounds_toArray, List.set_cons_zero, List.set_cons_succ, i64_w, i32_w]
              rfl
            refine pure_ (i := 9) (N := some 66) (v := ?_) (a' := ?_) #[true, true, true, true, true, true, true, true, true, true, true, false, false, false] rfl rfl (any_of HT_.out (by kernel_rfl)) (fun _ _ _ h => h) (Or.inl ⟨by rfl, ?_⟩) ?_ ?_
            rotate_left
            · intro w'
              go_simp
              with_reducible rfl
            rotate_left
            · simp only [Act.put, List.setIfInBounds_toArray, List.set_cons_zero, List.set_cons_succ, i64_w, i32_w]
              rfl
            refine last_ (i := 11) (N := none) #[true, true, true, true, true, true, true, true, true, true, true, true, false, false] rfl rfl (one_of HT_.out (by kernel_rfl)) (by decide) (fun K hK => ?_)
            have HXG : Aside0 (wG.heap[bx]? = some (.cells #[.int .i64 0, .slice none 0 0] 31 (0, 0))) := ⟨blk_below HX0.out HB9.out⟩
            have z0 : wG.frozen? ⟨bx, 0, none⟩ = false := blk_frozen HXG.out 0
            have z1 : wG.frozen? ⟨bx, 1, none⟩ = false := blk_frozen HXG.out 1
            have p0 : wG.cell? ⟨bx, 0, none⟩ = some (.int .i64 0) := (blk_cell HXG.out 0).trans rfl
            have p1 : wG.cell? ⟨bx, 1, none⟩ = some (.slice none 0 0) := (blk_cell HXG.out 1).trans rfl
            refine skip_ (w1 := ?_) (by rfl) rfl ?_ ?_
            rotate_left
            · go_simp
              rfl
            refine hK.out _ _ ?_
            clear hK K z0 z1 p0 p1
            refine pure_ (i := 12) (N := some 13) (v := ?_) (a' := ?_) #[true, true, true, true, true, true, true, true, true, true, true, true, true, false] rfl rfl (any_of HT_.out (by kernel_rfl)) (fun _ _ _ h => h) (Or.inl ⟨by rfl, ?_⟩) ?_ ?_
            rotate_left
            · intro w'
              go_simp
              with_reducible rfl
            rotate_left
            · simp only [Act.put, List.setIfInBounds_toArray, List.set_cons_zero, List.set_cons_succ, i64_w, i32_w]
              rfl
            refine pure_ (i := 13) (N := some 14) (v := ?_) (a' := ?_) #[true, true, true, true, true, true, true, true, true, true, true, true, true, true] rfl rfl (any_of HT_.out (by kernel_rfl)) (fun _ _ _ h => h) (Or.inl ⟨by rfl, ?_⟩) ?_ ?_
            rotate_left
            · intro w'
              go_simp
              with_reducible rfl
            rotate_left
            · simp only [Act.put, List.setIfInBounds_toArray, List.set_cons_zero, List.set_cons_succ, i64_w, i32_w]
              rfl
            refine done_ (done_of HT_.out (by kernel_rfl)) ?_
            have hb0' : RowKit.Below wE.heap.size wE wG := below_b (hbx ▸ HBX.out) HB9.out (by have := HBX.out.size; omega)
            have hbs : wE.heap.size ≤ bx := by omega
            have hrg : RefAt W wG (.slice A9 m9 c9) r.2.2 := HR9.out
            have hb1 := RowKit.Below.setCell (p := ⟨bx, 1, none⟩) (RowKit.Below.setCell (p := ⟨bx, 0, none⟩) hb0' hbs (.int .i64 2)) hbs (.slice A9 m9 c9)
            have hx2 := blk_set HXG.out 0 (.int .i64 2)
            go_wp2_with fail
            go_meet
            exact ⟨bx, A9, m9, c9, rfl, rfl, rfl, ⟨box_set HXG.out⟩, ⟨(hrg.set HXG.out (by decide) 0 (.int .i64 2)).set hx2 (by decide) 1 (.slice A9 m9 c9)⟩, ⟨below_step HBE.out hb1⟩⟩
        case rest =>
          obtain ⟨bx, A9, m9, c9, rfl, rfl, rfl, HXP, HRC, HBC⟩ := hcut
          clear q0 q1 r0 r1 HPUT
          have r0 : wc.cell? (ad.add (i * 2)) = some (.int .i64 id) := pw_cell_below HBC.out HR0.out
          have r1 : wc.cell? ⟨(ad.add (i * 2)).block, (ad.add (i * 2)).off + 1, none⟩ = some (.slice A2 n2 c2) := pw_cell_below HBC.out HR1.out
          have HX9 := Aside0.mk (blk_below HO.out.box HBC.out)
          have HTW := Aside0.mk (HTP.out wc HBC.out)
          have HBW := Aside0.mk (below_b HO.out.below HBC.out HO.out.tree.lt)
          obtain ⟨rb, hrb⟩ : ∃ rb, r.1 = rb := ⟨_, rfl⟩
          obtain ⟨re, hre⟩ : ∃ re, r.2.1 = re := ⟨_, rfl⟩
          rw [hrb, hre] at HTW
          rw [hrb, hre]
          clear hrb hre
          go_upto_region 10 with (go_at_call 15; refine HTW.out.mono ?_; rintro e w4 ⟨rfl, hh4, hb4, hk4⟩; have HH4 := Aside0.mk hh4; have HB4 := Aside0.mk hb4; have HK4 := Aside0.mk hk4; clear hh4 hb4 hk4)
          have HXP4 : Aside0 (w4.heap[bx]? = some (.cells #[.int .i64 2, .slice A9 m9 c9] 31 (0, 0))) := ⟨HK4.out _ _ _ HXP.out (by decide)⟩
          have HX94 : Aside0 (w4.heap[b9]? = some (.cells #[.int .i64 2, .slice A1 m1 c1] 31 (0, 0))) := ⟨HK4.out _ _ _ HX9.out (by decide)⟩
          have HR4 := Aside0.mk (HRC.out.keep HK4.out)
          clear r0 r1
          have p0 : w4.cell? ⟨bx, 0, none⟩ = some (.int .i64 2) := (blk_cell HXP4.out 0).trans rfl
          have p1 : w4.cell? ⟨bx, 1, none⟩ = some (.slice A9 m9 c9) := (blk_cell HXP4.out 1).trans rfl
          have p2 : w4.cell? ⟨b9, 0, none⟩ = some (.int .i64 2) := (blk_cell HX94.out 0).trans rfl
          have p3 : w4.cell? ⟨b9, 1, none⟩ = some (.slice A1 m1 c1) := (blk_cell HX94.out 1).trans rfl
          have z0 := blk_frozen HX94.out 0
          have z1 := blk_frozen HX94.out 1
          go_wp2_with fail
          go_roundw
          case rel =>
            refine ⟨i + 1, A9, m9, c9, by go_num, hlt, ⟨?_⟩⟩
            rw [HSN.out]
            have hx2 := blk_set HX94.out 0 (.int .i64 2)
            exact ⟨(HH4.out.set HX94.out (by decide) (by decide) (by decide) 0 (.int .i64 2)).set hx2 (by decide) (by decide) (by decide) 1 (.slice A9 m9 c9), (HR4.out.set HX94.out (by decide) 0 (.int .i64 2)).set hx2 (by decide) 1 (.slice A9 m9 c9), box_set HX94.out, (below_cat HBW.out HB4.out).setCell (p := ⟨b9, 0, none⟩) HO.out.old _ |>.setCell (p := ⟨b9, 1, none⟩) HO.out.old _, HO.out.old⟩
          case measure => simp [intOf]; omega
      · have ei : i = N := by omega
        subst ei
        obtain ⟨L, hL⟩ : ∃ L, putsL 2 (s.take i) = L := ⟨_, rfl⟩
        rw [hL] at HO
        clear hL
        have HBW : Aside0 (RowKit.Below W.heap.size W wr) := ⟨below_b HB1.out HO.out.below (by rw [← HB0.out]; exact HB1.out.size)⟩
        have HVR : Aside0 (wr.heap[W.heap.size]? = some (.cells #[.int .i64 x, .int .i64 y] 24 (0, 0))) := ⟨(HO.out.below.block _ (by rw [← HB0.out]; exact blk_lt HVB.out)).trans HVB.out⟩
        obtain ⟨X, hX⟩ : ∃ X, (topR 2 L v x y).1 = X := ⟨_, rfl⟩
        obtain ⟨er, her⟩ : ∃ er, (topR 2 L v x y).2 = er := ⟨_, rfl⟩
        have HXL : Aside0 (X.length ≤ 64) := ⟨by rw [← hX]; exact topR_len _ _ _ _ _⟩
        have HRT : Aside0 (Calls Try.prog 16 #[.agg #[.int .i64 2, .slice A1 m1 c1], .slice V vn vc, .int .i64 x, .int .i64 y] wr (RefNear wr X er)) := ⟨by
          have h1 := ref_top_any W wr HBW.out 2 L (.slice A1 m1 c1) HO.out.ref HO.out.tree.rise HO.out.tree.few HO.out.tree.vecs V vc v (Kd.C_below HCV.out HBW.out) HVC.out x y
          rw [HVN.out, hX, her] at h1
          exact h1⟩
        have HTT : Aside0 (∀ w', HoldsD w' b0 g ma 2 L → RowKit.Below W.heap.size W w' → Calls Try.prog 17 #[.pointer (some ⟨g, 0, none⟩), .slice V vn vc, .int .i64 x, .int .i64 y] w' (RefNear w' X er)) := ⟨fun w' h hw => by
          have h1 := hold_top_any h V vc v (Kd.C_below HCV.out hw) x y
          rw [HVN.out, hX, her] at h1
          exact h1⟩
        have q0 : wr.cell? ⟨b9, 0, none⟩ = some (.int .i64 2) := (blk_cell HO.out.box 0).trans rfl
        have q1 : wr.cell? ⟨b9, 1, none⟩ = some (.slice A1 m1 c1) := (blk_cell HO.out.box 1).trans rfl
        have v0 : wr.cell? ⟨W.heap.size, 0, none⟩ = some (.int .i64 x) := (blk_cell HVR.out 0).trans rfl
        have v1 : wr.cell? ⟨W.heap.size, 1, none⟩ = some (.int .i64 y) := (blk_cell HVR.out 1).trans rfl
        clear hX her
        go_upto_region 14 with (go_at_call 16; refine HRT.out.mono ?_; rintro e w5 ⟨⟨v5, A5, n5, c5, rfl, rfl, h51, h52, h53, h54⟩, hb5⟩; have HS5 : Aside0 (HitsAt w5 A5 n5 c5 X) := ⟨⟨h53, h51, h52, h54⟩⟩; have HB5 := Aside0.mk hb5; clear h51 h52 h53 h54 hb5)
        clear q0 q1 v0 v1
        have HT5 : Aside0 (HoldsD w5 b0 g ma 2 L) := ⟨HO.out.tree.below HB5.out⟩
        have HBW5 : Aside0 (RowKit.Below W.heap.size W w5) := ⟨below_step HBW.out HB5.out⟩
        have HV5 := Aside0.mk (blk_below HVR.out HB5.out)
        have v0 : w5.cell? ⟨W.heap.size, 0, none⟩ = some (.int .i64 x) := (blk_cell HV5.out 0).trans rfl
        have v1 : w5.cell? ⟨W.heap.size, 1, none⟩ = some (.int .i64 y) := (blk_cell HV5.out 1).trans rfl
        have HT17 := Aside0.mk (HTT.out w5 HT5.out HBW5.out)
        go_upto_region 15 with (go_at_call 17; refine HT17.out.mono ?_; rintro e w6 ⟨⟨v6, A6, n6, c6, rfl, rfl, h61, h62, h63, h64⟩, hb6⟩; have HS6 : Aside0 (HitsAt w6 A6 n6 c6 X) := ⟨⟨h63, h61, h62, h64⟩⟩; have HB6 := Aside0.mk hb6; clear h61 h62 h63 h64 hb6)
        clear v0 v1
        have HT6 : Aside0 (HoldsD w6 b0 g ma 2 L) := ⟨HT5.out.below HB6.out⟩
        have HBW6 : Aside0 (RowKit.Below W.heap.size W w6) := ⟨below_step HBW5.out HB6.out⟩
        have HS56 := Aside0.mk (HS5.out.keep (.of_below HB6.out))
        have HMK := Aside0.mk (hold_make_k HT6.out)
        have HV6 := Aside0.mk (blk_below HV5.out HB6.out)
        go_upto_region 16 with (go_at_call 18; refine HMK.out.mono ?_; rintro e w7 ⟨rfl, hh7, hb7, hk7⟩; have HT7 := Aside0.mk hh7; have HB7 := Aside0.mk hb7; have HK7 := Aside0.mk hk7; clear hh7 hb7 hk7)
        have HBW7 : Aside0 (RowKit.Below W.heap.size W w7) := ⟨below_b HBW6.out HB7.out (by rw [← HB0.out]; exact HB1.out.size)⟩
        have HS57 := Aside0.mk (HS56.out.keep HK7.out)
        have HS67 := Aside0.mk (HS6.out.keep HK7.out)
        have HV7 : Aside0 (w7.heap[W.heap.size]? = some (.cells #[.int .i64 x, .int .i64 y] 24 (0, 0))) := ⟨HK7.out _ _ _ HV6.out (by decide)⟩
        have v0 : w7.cell? ⟨W.heap.size, 0, none⟩ = some (.int .i64 x) := (blk_cell HV7.out 0).trans rfl
        have v1 : w7.cell? ⟨W.heap.size, 1, none⟩ = some (.int .i64 y) := (blk_cell HV7.out 1).trans rfl
        have HT27 := Aside0.mk (HTT.out w7 HT7.out HBW7.out)
        go_upto_region 17 with (go_at_call 17; refine HT27.out.mono ?_; rintro e w8 ⟨⟨v8, A8, n8, c8, rfl, rfl, h81, h82, h83, h84⟩, hb8⟩; have HS8 : Aside0 (HitsAt w8 A8 n8 c8 X) := ⟨⟨h83, h81, h82, h84⟩⟩; have HB8 := Aside0.mk hb8; clear h81 h82 h83 h84 hb8)
        clear v0 v1
        have HBW8 : Aside0 (RowKit.Below W.heap.size W w8) := ⟨below_step HBW7.out HB8.out⟩
        have HS58 := Aside0.mk (HS57.out.keep (.of_below HB8.out))
        have HS68 := Aside0.mk (HS67.out.keep (.of_below HB8.out))
        have HQ1 : Aside0 (Calls Try.prog 19 #[.slice A6 n6 c6, .slice A5 n5 c5] w8 fun e w' => e = .returned (.bool true) ∧ ∃ m, w' = w8.drewN m) := ⟨by
          have e1 := HS68.out.len
          have e2 := HS58.out.len
          have h1 := HS58.out
          rw [e2, ← e1] at h1
          have h2 := same49_calls HS68.out h1 (by have := HXL.out; omega)
          rw [e1, ← e2] at h2
          rw [e1, ← e2]
          exact h2⟩
        have HQ2 : Aside0 (∀ q, Calls Try.prog 19 #[.slice A8 n8 c8, .slice A5 n5 c5] (w8.drewN q) fun e w' => e = .returned (.bool true) ∧ ∃ m, w' = (w8.drewN q).drewN m) := ⟨fun q => by
          have hb : Keeps w8 (w8.drewN q) := .of_below (pw_below_drewN (Below.refl _ _) q)
          have e1 := HS8.out.len
          have e2 := HS58.out.len
          have h1 := HS58.out
          rw [e2, ← e1] at h1
          have h2 := same49_calls (HS8.out.keep hb) (h1.keep hb) (by have := HXL.out; omega)
          rw [e1, ← e2] at h2
          rw [e1, ← e2]
          exact h2⟩
        go_wp2_with fail
        with_reducible refine HQ1.out.mono ?_
        rintro e w9 ⟨rfl, q8, rfl⟩
        go_wp2_with fail
        with_reducible refine (HQ2.out q8).mono ?_
        rintro e w9 ⟨rfl, q9, rfl⟩
        go_wp2_with (go_at_call 12; refine (awake_calls _).mono ?_; rintro e w10 ⟨rfl, hb10⟩; have HB10 := Aside0.mk hb10; clear hb10)
        go_ret
        exact ⟨rfl, below_step (pw_below_drewN HBW8.out (q8 + q9)) HB10.out⟩
end Go.Proofs.Ytealiaafdkhonaa.Vp
