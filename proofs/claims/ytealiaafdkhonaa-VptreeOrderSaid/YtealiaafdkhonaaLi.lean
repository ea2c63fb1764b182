/- VptreeLimit, walked. -/
import Derived.Test.YtealiaafdkhonaaHo1
namespace Go.Proofs.Ytealiaafdkhonaa.Vp
open Go.RowKit Go.Sort Mb Base Go.Proofs.YtealiaafdkhonaaW.PrintWords Go.Proofs.YtealiaafdkhonaaW.PrintLast Go.Proofs.YtealiaafdkhonaaW.PrintMore
set_option linter.unusedVariables false
set_option linter.unusedSimpArgs false
theorem i64_and31 (n : Int) : bits .and .i64 n 31 = n % 32 := by
  have hm : (BitVec.ofInt 64 31).toNat = 2 ^ 5 - 1 := by decide
  have key : (BitVec.ofInt 64 n &&& BitVec.ofInt 64 31).toNat = (n % ((2 ^ 64 : Nat) : Int)).toNat % 2 ^ 5 := by
    rw [BitVec.toNat_and, BitVec.toNat_ofInt, hm, Nat.and_two_pow_sub_one_eq_mod]
  show IntKind.i64.wrap ((BitVec.ofInt 64 n &&& BitVec.ofInt 64 31).toNat : Nat) = n % 32
  rw [key, IntKind.wrap_i64]
  omega
theorem C_two2 {W : World} {j : Nat} {x y : Int} (h : W.heap[j]? = some (.cells #[.int .i64 x, .int .i64 y] 3 (0, 0))) : Kd.C (Kd.int .i64) W (some ⟨j, 0, none⟩) 2 [x, y] := by
  have hva : VecAt W W.heap.size (.slice (some ⟨j, 0, none⟩) 2 2) [x, y] := ⟨j, 2, _, rfl, blk_lt h, h, rfl, Nat.le_refl _⟩
  exact (row_vec hva (by show 2 ≤ 9223372036854775807; decide)).2.1
theorem reads_take {W : World} {A : Option Addr} {l : List (Int × Int)} (h : ReadsRow P2 2 W A l.length l) {s : Nat} (hs : s ≤ l.length) : ReadsRow P2 2 W A (l.take s).length (l.take s) := by
  refine ⟨rfl, by rw [List.length_take]; have := h.2.1; omega, fun hn => ?_⟩
  rw [List.length_take] at hn
  obtain ⟨ad, e, hc⟩ := h.2.2 (by omega)
  refine ⟨ad, e, fun j p hj => hc j p ?_⟩
  have h1 := (List.getElem?_eq_some_iff.1 hj).1
  rw [List.length_take] at h1
  rw [List.getElem?_take_of_lt (by omega)] at hj
  exact hj
theorem two_ok {x y : Int} (h1 : 0 ≤ x) (h2 : x ≤ 65535) (h3 : 0 ≤ y) (h4 : y ≤ 65535) : isV [x, y] = true := by
  unfold isV oddB
  simp
  omega
theorem hits_far {L : List (Int × List Int)} {d : Int} (hv : ∀ p ∈ L, isV p.2 = true ∧ (p.2.length : Int) = d ∧ (Lit.int .i64 p.1).wf = true) {v : List Int} (h1 : isV v = true) (h2 : (v.length : Int) = d) : ∀ x ∈ hits L v, 0 ≤ x.2 ∧ x.2 ≤ 68719476720 := by
  intro x hx
  obtain ⟨p, hp, rfl⟩ := List.mem_map.1 hx
  obtain ⟨a1, a2, _⟩ := hv p hp
  exact dist_far h1 a1 (by omega) (isV_len h1).2
theorem own_below {W w1 : World} {base n : Nat} {e : TypeId} {size : Nat} {v : Value} {xs : List Value} (h : W.ownsRow base e size v n xs) (hb : Below W.heap.size W w1) : w1.ownsRow base e size v n xs := by
  refine ⟨h.1, ?_⟩
  rcases h.2 with h2 | ⟨g, cap, cur, e1, hB, hg, h3⟩
  · exact .inl h2
  · exact .inr ⟨g, cap, cur, e1, hB, (hb.block g (blk_lt hg)).trans hg, h3⟩
structure LimW (W2 wr : World) (b0 g ma : Nat) (L : List (Int × List Int)) : Prop where
  holds : HoldsD wr b0 g ma 2 L
  below : Below b0 W2 wr
set_option maxRecDepth 100000 in
set_option maxHeartbeats 8000000 in
theorem limit_calls (W : World) (A : Option Addr) (c : Nat) (l : List (Int × List Int)) (x y many : Int) (hr : ReadsRow (RP W) 2 W A l.length l) (hc : l.length ≤ c) : Calls Try.prog 4 #[.slice A l.length c, .agg #[.int .i64 x, .int .i64 y], .int .i64 many] W (Yes W) := by
  have HR := Aside0.mk hr
  obtain ⟨N, hN⟩ : ∃ N, l.length = N := ⟨_, rfl⟩
  have HN := Aside0.mk hN
  rw [hN] at hc
  rw [hN]
  have q1 := Base.i64_and255 x
  have q2 := Base.i64_and255 y
  have q3 := i64_and31 many
  obtain ⟨x1, hx1⟩ : ∃ x1, x % 256 = x1 := ⟨_, rfl⟩
  obtain ⟨y1, hy1⟩ : ∃ y1, y % 256 = y1 := ⟨_, rfl⟩
  obtain ⟨m1, hm1⟩ : ∃ m1, many % 32 = m1 := ⟨_, rfl⟩
  have bx : 0 ≤ x1 ∧ x1 ≤ 255 := by omega
  have by_ : 0 ≤ y1 ∧ y1 ≤ 255 := by omega
  obtain ⟨kk, hkk⟩ : ∃ kk : Nat, 1 + m1 = (kk : Int) := ⟨(1 + m1).toNat, by omega⟩
  have hk1 : 1 ≤ kk := by omega
  have hk2 : kk ≤ 32 := by omega
  have bm : 0 ≤ m1 ∧ m1 ≤ 31 := by omega
  rw [hx1] at q1
  rw [hy1] at q2
  rw [hm1] at q3
  have HV : Aside0 (isV [x1, y1] = true) := ⟨two_ok bx.1 (by omega) by_.1 (by omega)⟩
  have HKK := Aside0.mk hkk
  obtain ⟨bm1, bm2⟩ := bm
  clear hr hN hx1 hy1 hm1 hkk bx by_
  obtain ⟨W2, hW2⟩ : ∃ W2, (W.alloc (.cells #[.int .i64 x, .int .i64 y] 24)).alloc (.cells #[.int .i64 x1, .int .i64 y1] 3) = W2 := ⟨_, rfl⟩
  have HW2 := Aside0.mk hW2
  obtain ⟨vb, hvb⟩ : ∃ vb, (W.alloc (.cells #[.int .i64 x, .int .i64 y] 24)).heap.size = vb := ⟨_, rfl⟩
  have HVB : Aside0 (W2.heap[vb]? = some (.cells #[.int .i64 x1, .int .i64 y1] 3 (0, 0))) := ⟨by rw [← hW2, ← hvb]; exact blk_new _ _⟩
  have HB2 : Aside0 (Below W.heap.size W W2) := ⟨by rw [← hW2]; exact below_alloc (below_alloc (Below.refl _ _) _) _⟩
  have HVBE : Aside0 (W.heap.size + 1 = vb) := ⟨by rw [← hvb]; simp⟩
  clear hW2 hvb
  by_cases hlen : (100 : Int) < (N : Int)
  · go_enter Try.func4, Try.ntmps4
    go_wp2_with (first
      | (go_at_call 11; refine (hold_new 2 (by omega) (by omega) _).mono ?_; rintro e w1 ⟨⟨g, ma, rfl, hh⟩, hb⟩; have e25 : ∀ w, (binOp .eql 25 (.pointer (some ⟨g, 0, none⟩)) (.pointer none)).run Try.prog w = .ok (.bool false) w := (fun w => by kernel_rfl); have e25n : ∀ w, (binOp .neq 25 (.pointer (some ⟨g, 0, none⟩)) (.pointer none)).run Try.prog w = .ok (.bool true) w := (fun w => by kernel_rfl); have HB1 := Aside0.mk hb; clear hb hh)
      | (go_at_call 12; refine (awake_calls _).mono ?_; rintro e w2 ⟨rfl, hb2⟩; have HB3 := Aside0.mk hb2; clear hb2))
    go_ret
    exact ⟨rfl, below_step (below_step HB2.out (by rw [← HW2.out]; exact HB1.out)) HB3.out⟩
  · go_enter Try.func4, Try.ntmps4
    go_upto_region 5 with (first
      | (go_at_call 11; refine (hold_new 2 (by omega) (by omega) _).mono ?_; rintro e w1 ⟨⟨g, ma, rfl, hh⟩, hb⟩; have e25 : ∀ w, (binOp .eql 25 (.pointer (some ⟨g, 0, none⟩)) (.pointer none)).run Try.prog w = .ok (.bool false) w := (fun w => by kernel_rfl); have HB1 := Aside0.mk hb; have HH1 := Aside0.mk hh; clear hb hh))
    rw [HVBE.out, HKK.out]
    rw [HW2.out] at HB1 HH1
    obtain ⟨b0, hb0⟩ : ∃ b0, W2.heap.size = b0 := ⟨_, rfl⟩
    have HB0 := Aside0.mk hb0
    rw [hb0] at HH1
    have HBB1 : Aside0 (Below b0 W2 w1) := ⟨by rw [← hb0]; exact HB1.out⟩
    clear hb0 q1 q2 q3
    have hN60 : N ≤ 100 := by omega
    go_wp2_with fail
    go_loopw [11] (fun z wr => ∃ i : Nat, z = .int .i64 i ∧ i ≤ N ∧ Aside0 (HoldsD wr b0 g ma 2 (putsL 2 (l.take i))) ∧ Aside0 (Below b0 W2 wr)) (fun z _ => N - (intOf z).toNat)
    case atStart => exact ⟨0, rfl, Nat.zero_le _, HH1, HBB1⟩
    case round =>
      obtain ⟨i, rfl, hi, HH, HB⟩ := hrel
      by_cases hlt : i < N
      · have hlt' : (i : Int) < (N : Int) := by omega
        have hi0 : (0 : Int) ≤ (i : Int) := by omega
        have hil : i < l.length := by have := HN.out; omega
        obtain ⟨ad, A1, c1, e0, r0', r1', _, hC1, hw1⟩ := at_pt HR.out i hil
        subst e0
        have hbd : RowKit.Below W.heap.size W wr := below_cat HB2.out (HB.out.mono (by rw [← HB0.out]; exact HB2.out.size))
        have HP : Aside0 (Calls Try.prog 15 #[.pointer (some ⟨g, 0, none⟩), .agg #[.int .i64 l[i].1, .slice A1 l[i].2.length c1]] wr (DoneH wr b0 g ma 2 (putsL 2 (l.take (i + 1))) (.tuple #[.bool (putR 2 (putsL 2 (l.take i)) l[i].1 l[i].2).1, .int .i64 (putR 2 (putsL 2 (l.take i)) l[i].1 l[i].2).2.1]))) := ⟨by
          rw [puts_snoc 2 l i hil]
          exact hold_put HH.out l[i].1 hw1 A1 c1 l[i].2 (Kd.C_below hC1 hbd)⟩
        obtain ⟨id, hid⟩ : ∃ id, l[i].1 = id := ⟨_, rfl⟩
        obtain ⟨n1, hn1⟩ : ∃ n1, l[i].2.length = n1 := ⟨_, rfl⟩
        obtain ⟨rv, hrv⟩ : ∃ rv, (Value.tuple #[.bool (putR 2 (putsL 2 (l.take i)) l[i].1 l[i].2).1, .int .i64 (putR 2 (putsL 2 (l.take i)) l[i].1 l[i].2).2.1]) = rv := ⟨_, rfl⟩
        rw [hrv, hid, hn1] at HP
        rw [hid] at r0'
        rw [hn1] at r1'
        have r0 := pw_cell_below hbd r0'
        have r1 := pw_cell_below hbd r1'
        clear r0' r1' hC1 hw1 hid hn1 hrv hbd
        go_wp2_with (go_at_call 15; refine HP.out.mono ?_; rintro e w2 ⟨rfl, hh2, hb2⟩; have HH2 := Aside0.mk hh2; have HB3 := Aside0.mk hb2; clear hh2 hb2)
        go_roundw
        case rel => exact ⟨i + 1, by go_num, hlt, HH2, ⟨below_cat HB.out HB3.out⟩⟩
        case measure => simp [intOf]; omega
      · have ei : i = N := by omega
        subst ei
        obtain ⟨L, hL⟩ : ∃ L, putsL 2 (l.take i) = L := ⟨_, rfl⟩
        rw [hL] at HH
        clear hL
        have HHV : Aside0 (wr.heap[vb]? = some (.cells #[.int .i64 x1, .int .i64 y1] 3 (0, 0))) := ⟨(HB.out.block vb (by rw [← HB0.out]; exact blk_lt HVB.out)).trans HVB.out⟩
        have HFAR := Aside0.mk (hits_far HH.out.vecs HV.out rfl)
        have HTO := Aside0.mk (hold_top HH.out (some ⟨vb, 0, none⟩) 2 [x1, y1] (C_two2 HHV.out) (fun ad e => by cases e; exact blk_lt HHV.out) HV.out rfl kk hk1 (by omega) 1099511627776)
        have HLEN : Aside0 ((best kk 1099511627776 (hits L [x1, y1])).length = min kk L.length) := ⟨by rw [best_length (fun z hz => by have := HFAR.out z hz; omega)]; unfold hits; rw [List.length_map]⟩
        go_upto_region 10 with (go_at_call 17; refine HTO.out.mono ?_; rintro e w5 ⟨⟨A5, c5, rfl, ho5⟩, hh5, hb5⟩; have HO5 := Aside0.mk ho5; have HB5 := Aside0.mk hb5; have HH5 := Aside0.mk hh5; clear ho5 hb5 hh5)
        have HLN := Aside0.mk (hold_len HH5.out)
        obtain ⟨n, hn⟩ : ∃ n, (best kk 1099511627776 (hits L [x1, y1])).length = n := ⟨_, rfl⟩
        have HNL := Aside0.mk hn
        obtain ⟨M, hM⟩ : ∃ M, L.length = M := ⟨_, rfl⟩
        rw [hM] at HLN
        rw [hn] at HO5
        rw [hn]
        have hmin : min (kk : Int) (M : Int) = (n : Int) := by have := HLEN.out; omega
        have HBa : Aside0 (Below b0 W2 w5) := ⟨below_cat HB.out (HB5.out.mono HH.out.lt)⟩
        clear hn hM
        by_cases h0 : n = 0
        · have h0' : (n : Int) = 0 := by omega
          go_wp2_with (first | (go_at_call 20; refine HLN.out.mono ?_; rintro e w7 ⟨rfl, rfl⟩) | (go_at_call 12; refine (awake_calls _).mono ?_; rintro e w9 ⟨rfl, hb9⟩; have HB9 := Aside0.mk hb9; clear hb9))
          go_ret
          exact ⟨rfl, below_step (below_cat HB2.out (HBa.out.mono (by rw [← HB0.out]; exact HB2.out.size))) HB9.out⟩
        · obtain ⟨m, rfl⟩ : ∃ m, n = m + 1 := ⟨n - 1, by omega⟩
          obtain ⟨bl, hbl⟩ : ∃ bl, best kk 1099511627776 (hits L [x1, y1]) = bl := ⟨_, rfl⟩
          have HBL := Aside0.mk hbl
          rw [hbl] at HO5 HNL
          have hmb : m < bl.length := by have := HNL.out; omega
          have hrd := row_reads (l := bl) (c := c5) (A := A5) (B := wr.heap.size) (by rw [HNL.out]; exact HO5.out) (by have := HNL.out; omega)
          obtain ⟨ad5, e5, _, s1'⟩ := at_two hrd.1 m hmb
          subst e5
          obtain ⟨far, hfar⟩ : ∃ far, bl[m].2 = far := ⟨_, rfl⟩
          rw [hfar] at s1'
          have HRD := Aside0.mk hrd.1
          have HRC : Aside0 (m + 1 ≤ c5) := ⟨by have := hrd.2; have := HNL.out; omega⟩
          have HFA := Aside0.mk hfar
          have hfb : 0 ≤ far ∧ far ≤ 68719476720 := by
            rw [← hfar]
            have hmem : bl[m] ∈ best kk 1099511627776 (hits L [x1, y1]) := by rw [hbl]; exact List.getElem_mem hmb
            refine HFAR.out _ ?_
            unfold best at hmem
            exact (List.mem_filter.1 ((isort_perm _).mem_iff.1 (List.mem_of_mem_take hmem))).1
          obtain ⟨hf0, hf1⟩ := hfb
          have s1 := s1'
          clear s1' hrd hfar hbl h0
          go_upto_region 15 with (go_at_call 20; refine HLN.out.mono ?_; rintro e w7 ⟨rfl, rfl⟩)
          have HALL : Aside0 (∀ z ∈ hits L [x1, y1], z.2 ≤ 1099511627776) := ⟨fun z hz => by have := HFAR.out z hz; omega⟩
          have HBF : Aside0 (best kk far (hits L [x1, y1]) = bl) := ⟨by
            have h1 := best_far HALL.out (m := m) (k := kk) (by rw [HBL.out]; exact HNL.out)
            simp only [HBL.out, HFA.out] at h1
            exact h1⟩
          have HBLS : Aside0 (best kk (far - 1) (hits L [x1, y1]) = bl.filter (fun x => decide (x.2 ≤ far - 1))) := ⟨by
            have h1 := best_less HALL.out (m := m) (k := kk) (by rw [HBL.out]; exact HNL.out)
            simp only [HBL.out, HFA.out] at h1
            exact h1⟩
          have HHV5 : Aside0 (w5.heap[vb]? = some (.cells #[.int .i64 x1, .int .i64 y1] 3 (0, 0))) := ⟨(HB5.out.block vb (blk_lt HHV.out)).trans HHV.out⟩
          have HTO2 := Aside0.mk (hold_top HH5.out (some ⟨vb, 0, none⟩) 2 [x1, y1] (C_two2 HHV5.out) (fun ad e => by cases e; exact blk_lt HHV5.out) HV.out rfl kk hk1 (by omega) far)
          rw [HBF.out] at HTO2
          go_upto_region 16 with (go_at_call 17; refine HTO2.out.mono ?_; rintro e w6 ⟨⟨A6, c6, rfl, ho6⟩, hh6, hb6⟩; have HO6 := Aside0.mk ho6; have HB6 := Aside0.mk hb6; have HH6 := Aside0.mk hh6; clear ho6 hb6 hh6)
          rw [HNL.out] at HO6
          rw [HNL.out]
          have HHV6 : Aside0 (w6.heap[vb]? = some (.cells #[.int .i64 x1, .int .i64 y1] 3 (0, 0))) := ⟨(HB6.out.block vb (blk_lt HHV5.out)).trans HHV5.out⟩
          have HTO3 := Aside0.mk (hold_top HH6.out (some ⟨vb, 0, none⟩) 2 [x1, y1] (C_two2 HHV6.out) (fun ad e => by cases e; exact blk_lt HHV6.out) HV.out rfl kk hk1 (by omega) (far - 1))
          rw [HBLS.out] at HTO3
          obtain ⟨cl, hcl⟩ : ∃ cl, bl.filter (fun x => decide (x.2 ≤ far - 1)) = cl := ⟨_, rfl⟩
          obtain ⟨p, hp⟩ : ∃ p, cl.length = p := ⟨_, rfl⟩
          have HCL := Aside0.mk hcl
          have HP := Aside0.mk hp
          rw [hcl] at HTO3
          clear hcl hp
          go_upto_region 17 with (go_at_call 17; refine HTO3.out.mono ?_; rintro e w7 ⟨⟨A7, c7, rfl, ho7⟩, hh7, hb7⟩; have HO7 := Aside0.mk ho7; have HB7 := Aside0.mk hb7; have HH7 := Aside0.mk hh7; clear ho7 hb7 hh7)
          rw [HP.out] at HO7
          rw [HP.out]
          have HRD7 : Aside0 (ReadsRow P2 2 w7 (some ad5) bl.length bl) := ⟨by
            have h1 := own_below HO5.out HB6.out
            have h2 := own_below h1 HB7.out
            exact (row_reads (l := bl) (c := c5) (B := wr.heap.size) (by rw [HNL.out]; exact h2) (by have := HNL.out; omega)).1⟩
          have HRD6 : Aside0 (ReadsRow P2 2 w7 A6 bl.length bl ∧ bl.length ≤ c6) := ⟨by
            have h1 := own_below HO6.out HB7.out
            exact row_reads (l := bl) (c := c6) (B := w5.heap.size) (by rw [HNL.out]; exact h1) (by have := HNL.out; omega)⟩
          clear s1
          go_wp2_with fail
          go_loop [19] (fun z => ∃ s : Nat, z = .int .i64 s ∧ s ≤ m + 1 ∧ Aside0 (∀ i (hi : i < bl.length), i < s → bl[i].2 < far)) (fun z => m + 1 - (intOf z).toNat)
          case atStart => exact ⟨0, rfl, Nat.zero_le _, ⟨fun i _ h => by omega⟩⟩
          case round =>
            obtain ⟨s, rfl, hs, HLT⟩ := hrel
            by_cases hsm : s < m + 1
            · have hsm' : (s : Int) < (m : Int) + 1 := by omega
              have hs0 : (0 : Int) ≤ (s : Int) := by omega
              have hsb : s < bl.length := by have := HNL.out; omega
              obtain ⟨ad', e5, _, s1⟩ := at_two HRD7.out s hsb
              cases e5
              obtain ⟨ds, hds⟩ : ∃ ds, bl[s].2 = ds := ⟨_, rfl⟩
              rw [hds] at s1
              have HDS := Aside0.mk hds
              clear hds
              by_cases hdf : ds < far
              · go_wp2_with fail
                go_round
                case rel => exact ⟨s + 1, by go_num, by omega, ⟨fun i hi h => by
                  by_cases e : i = s
                  · subst e; rw [HDS.out]; exact hdf
                  · exact HLT.out i hi (by omega)⟩⟩
                case measure => simp [intOf]; omega
              · have hge : far ≤ ds := by omega
                have HCT : Aside0 (cl = bl.take s) := ⟨by rw [← HCL.out]; exact filter_take (by rw [← HBL.out]; exact best_sorted _ _ _) (by have := HNL.out; omega) HLT.out (fun hi => by rw [HDS.out]; exact hge)⟩
                have HPS : Aside0 (p = s) := ⟨by rw [← HP.out, HCT.out, List.length_take]; have := HNL.out; omega⟩
                obtain rfl : p = s := HPS.out
                have HS1 : Aside0 (Calls Try.prog 19 #[.slice (some ad5) (m + 1) c5, .slice A6 (m + 1) c6] w7 fun e w' => e = .returned (.bool true) ∧ ∃ q, w' = w7.drewN q) := ⟨by
                  have h1 := same_calls (some ad5) A6 c5 c6 bl bl w7 HRD7.out HRD6.out.1 (by have := HNL.out; have := HRC.out; omega) HRD6.out.2 (by have := HNL.out; omega)
                  rw [decide_eq_true rfl, HNL.out] at h1
                  exact h1⟩
                have HS2 : Aside0 (∀ q, Calls Try.prog 19 #[.slice A7 p c7, .slice (some ad5) p c5] (w7.drewN q) fun e w' => e = .returned (.bool true) ∧ ∃ r, w' = (w7.drewN q).drewN r) := ⟨fun q => by
                  have hdq : RowKit.Below w7.heap.size w7 (w7.drewN q) := pw_below_drewN (Below.refl _ _) q
                  have g1 := row_reads (l := cl) (c := c7) (A := A7) (B := w6.heap.size) (by rw [HP.out]; exact own_below HO7.out hdq) (by rw [HP.out]; omega)
                  have g2 : ReadsRow P2 2 (w7.drewN q) (some ad5) cl.length cl := by rw [HCT.out]; exact reads_take HRD7.out (by have := HNL.out; omega)
                  have h1 := same_calls A7 (some ad5) c7 c5 cl cl (w7.drewN q) g1.1 g2 g1.2 (by rw [HP.out]; have := HRC.out; omega) (by rw [HP.out]; omega)
                  rw [decide_eq_true rfl, HP.out] at h1
                  exact h1⟩
                have hpc : p ≤ c5 := by have := HRC.out; omega
                go_wp2_with fail
                with_reducible refine HS1.out.mono ?_
                rintro e w8 ⟨rfl, q8, rfl⟩
                go_wp2_with fail
                with_reducible refine (HS2.out q8).mono ?_
                rintro e w8 ⟨rfl, q9, rfl⟩
                go_wp2_with (go_at_call 12; refine (awake_calls _).mono ?_; rintro e w9 ⟨rfl, hb9⟩; have HB9 := Aside0.mk hb9; clear hb9)
                go_ret
                have k1 := below_cat HBa.out (HB6.out.mono HH5.out.lt)
                have k2 := below_cat k1 (HB7.out.mono HH6.out.lt)
                have k3 := pw_below_drewN k2 (q8 + q9)
                exact ⟨rfl, below_step (below_cat HB2.out (k3.mono (by rw [← HB0.out]; exact HB2.out.size))) HB9.out⟩
            · obtain rfl : s = m + 1 := by omega
              have HCT : Aside0 (cl = bl.take (m + 1)) := ⟨by rw [← HCL.out]; exact filter_take (by rw [← HBL.out]; exact best_sorted _ _ _) (by have := HNL.out; omega) HLT.out (fun hi => by exfalso; have := HNL.out; omega)⟩
              have HPS : Aside0 (p = m + 1) := ⟨by rw [← HP.out, HCT.out, List.length_take]; have := HNL.out; omega⟩
              obtain rfl : p = m + 1 := HPS.out
              have HS1 : Aside0 (Calls Try.prog 19 #[.slice (some ad5) (m + 1) c5, .slice A6 (m + 1) c6] w7 fun e w' => e = .returned (.bool true) ∧ ∃ q, w' = w7.drewN q) := ⟨by
                have h1 := same_calls (some ad5) A6 c5 c6 bl bl w7 HRD7.out HRD6.out.1 (by have := HNL.out; have := HRC.out; omega) HRD6.out.2 (by have := HNL.out; omega)
                rw [decide_eq_true rfl, HNL.out] at h1
                exact h1⟩
              have HS2 : Aside0 (∀ q, Calls Try.prog 19 #[.slice A7 (m + 1) c7, .slice (some ad5) (m + 1) c5] (w7.drewN q) fun e w' => e = .returned (.bool true) ∧ ∃ r, w' = (w7.drewN q).drewN r) := ⟨fun q => by
                have hdq : RowKit.Below w7.heap.size w7 (w7.drewN q) := pw_below_drewN (Below.refl _ _) q
                have g1 := row_reads (l := cl) (c := c7) (A := A7) (B := w6.heap.size) (by rw [HP.out]; exact own_below HO7.out hdq) (by rw [HP.out]; omega)
                have g2 : ReadsRow P2 2 (w7.drewN q) (some ad5) cl.length cl := by rw [HCT.out]; exact reads_take HRD7.out (by have := HNL.out; omega)
                have h1 := same_calls A7 (some ad5) c7 c5 cl cl (w7.drewN q) g1.1 g2 g1.2 (by rw [HP.out]; have := HRC.out; omega) (by rw [HP.out]; omega)
                rw [decide_eq_true rfl, HP.out] at h1
                exact h1⟩
              have hpc : m + 1 ≤ c5 := by have := HRC.out; omega
              go_wp2_with fail
              with_reducible refine HS1.out.mono ?_
              rintro e w8 ⟨rfl, q8, rfl⟩
              go_wp2_with fail
              with_reducible refine (HS2.out q8).mono ?_
              rintro e w8 ⟨rfl, q9, rfl⟩
              go_wp2_with (go_at_call 12; refine (awake_calls _).mono ?_; rintro e w9 ⟨rfl, hb9⟩; have HB9 := Aside0.mk hb9; clear hb9)
              go_ret
              have k1 := below_cat HBa.out (HB6.out.mono HH5.out.lt)
              have k2 := below_cat k1 (HB7.out.mono HH6.out.lt)
              have k3 := pw_below_drewN k2 (q8 + q9)
              exact ⟨rfl, below_step (below_cat HB2.out (k3.mono (by rw [← HB0.out]; exact HB2.out.size))) HB9.out⟩
end Go.Proofs.Ytealiaafdkhonaa.Vp
