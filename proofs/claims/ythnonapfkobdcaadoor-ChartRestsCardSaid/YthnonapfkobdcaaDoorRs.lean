/- ChartRests: its walk. -/
import Derived.Test.YthnonapfkobdcaaDoorHs
namespace Go.Proofs.YthnonapfkobdcaaDoor.Ch
open Base Go.RowKit Rg Go.Proofs.YthnonapfkobdcaaDoorW.PrintWords Go.Proofs.YthnonapfkobdcaaDoorW.PrintLast Go.Proofs.YthnonapfkobdcaaDoorW.PrintMore
set_option linter.unusedVariables false
set_option linter.unusedSimpArgs false
open PChartPlans (S52 k52)
open Ri (Pur Mem2 nums_app)

theorem i64_and15r (n : Int) : bits .and .i64 n 15 = n % 16 := i64_and15 n
theorem ck_of {ep : Int} {xs : List Int} (h1 : 1 ≤ ep) (h2 : ep ≤ 1099511627776) (h3 : 1 ≤ xs.length) (h4 : xs.length ≤ 16) (h5 : ∀ x ∈ xs, 0 ≤ x ∧ x < 8) : ckI ep xs = 0 := by
  refine (ck_yes ⟨h1, h2, h3, h4⟩ ?_).symm
  rw [List.any_eq_false]
  intro x hx
  have := h5 x hx
  rw [odd_no (by omega) (by omega)]
  simp
/-- What stands behind the first two plans: the homes by few, by all; where they differ it is the one that came. -/
structure Rest (k m : Nat) (pl : Nat) (few all xs ys : List Int) : Prop where
  hx : HomesAre few pl m xs
  hy : HomesAre all pl m ys
  lx : xs.length = m
  ly : ys.length = m
  rx : ∀ x ∈ xs, 0 ≤ x ∧ x < 8
  ry : ∀ x ∈ ys, 0 ≤ x ∧ x < 8
  go : ∀ q, q < m → xs.getD q 0 ≠ ys.getD q 0 → ys.getD q 0 = (k : Int)
theorem shards_range {ns : List Int} {pl m : Nat} {out : List Int} (hn : Ri.Nodes ns) (h : Ri.IsShards (ring Ri.spN ns pl) m out) : ∀ x ∈ out, 0 ≤ x ∧ x < 8 := by
  intro x hx
  obtain ⟨i, hi, rfl⟩ := List.getElem_of_mem hx
  exact hn.range _ (h.home i hi).node
theorem Rest.of {k m pl : Nat} {few all xs ys : List Int} (hp : Pur k 8 few all) (h1 : hEr few pl m = 0) (h2 : hEr all pl m = 0) (hx : HomesAre few pl m xs) (hy : HomesAre all pl m ys) : Rest k m pl few all xs ys := by
  have sx := hx.yes h1
  have sy := hy.yes h2
  rw [Int.toNat_natCast, Int.toNat_natCast] at sx sy
  refine ⟨hx, hy, sx.len, sy.len, shards_range hp.nf sx, shards_range hp.na sy, fun q hq hne => ?_⟩
  have q1 : q < xs.length := by rw [sx.len]; exact hq
  have q2 : q < ys.length := by rw [sy.len]; exact hq
  have e1 := sx.home q q1
  have e2 := sy.home q q2
  rw [List.getD_eq_getElem?_getD, List.getElem?_eq_getElem q1, List.getD_eq_getElem?_getD, List.getElem?_eq_getElem q2] at hne
  rw [List.getD_eq_getElem?_getD, List.getElem?_eq_getElem q2]
  simp only [Option.getD_some] at hne ⊢
  rcases comes (sp := Ri.spN) (x := xs[q]) hp.sub hp.back e2 with h | h
  · exact h
  · exact absurd (h.2 e1) hne

set_option maxRecDepth 100000 in
set_option maxHeartbeats 2000000 in
theorem rests_calls (which shards one : Int) (W0 : World) : Calls Tryd.prog 8 #[.int .i64 which, .int .i64 shards, .int .i64 one] W0 (Ri.Yes W0) := by
  obtain ⟨kk, hk, hk8⟩ : ∃ k : Nat, bits .and .i64 one 7 = (k : Int) ∧ k < 8 := ⟨(one % 8).toNat, by rw [i64_and7]; omega, by omega⟩
  obtain ⟨pl, hpl, hp1, hp2⟩ : ∃ pl : Nat, wrap64 (1 + bits .and .i64 (which / 256) 63) = (pl : Int) ∧ 1 ≤ pl ∧ pl ≤ 64 := ⟨(1 + which / 256 % 64).toNat, by rw [i64_and63]; unfold wrap64; omega, by omega, by omega⟩
  obtain ⟨mm, hmm, hm1, hm2⟩ : ∃ mm : Nat, wrap64 (1 + bits .and .i64 shards 15) = (mm : Int) ∧ 1 ≤ mm ∧ mm ≤ 16 := ⟨(1 + shards % 16).toNat, by rw [i64_and15]; unfold wrap64; omega, by omega, by omega⟩
  obtain ⟨i0, hi, hz0, hz1, hz2⟩ := info_parts Ri.info3
  have HI := Aside0.mk hi
  have HZ0 := Aside0.mk hz0
  have HZ1 := Aside0.mk hz1
  have HZ2 := Aside0.mk hz2
  clear hi hz0 hz1 hz2
  go_enter Tryd.func8, Tryd.ntmps8
  go_wp2
  go_loopw [7, 8, 10] (fun f a n wr => ∃ (m : Nat) (A : Option Addr) (c : Nat) (few : List Int) (A2 : Option Addr) (c2 : Nat) (all : List Int), f = .slice A few.length c ∧ a = .slice A2 all.length c2 ∧ n = .int .i64 m ∧ m ≤ 8 ∧ Aside0 (Pur kk m few all) ∧ Aside0 (Mem2 W0 wr A c few A2 c2 all)) (fun _ _ n _ => 8 - (intOf n).toNat)
  case atStart => exact ⟨0, none, 0, [], none, 0, [], rfl, rfl, rfl, by omega, ⟨Pur.start kk⟩, ⟨⟨Below.refl _ _, own_nil _ _ _ _, own_nil _ _ _ _, fun x hx => by cases hx⟩⟩⟩
  case round =>
    obtain ⟨m, A, c, few, A2, c2, all, rfl, rfl, rfl, hm, HP, HM⟩ := hrel
    have hlf := HP.out.nf.len
    have hla := HP.out.na.len
    have HSZ := Aside0.mk HM.out.below.size
    by_cases hlt : m < 8
    · have hlt' : (m : Int) < 8 := by omega
      by_cases hmk : m = kk
      · have HP2 := Aside0.mk (HP.out.one hlt hmk)
        subst hmk
        go_wp2_with (at_builtin; refine Ri.wpList_append_mine rfl _ _ 22 rfl W0.heap.size 3 i0 (.int .i64 0) 1 8 Tryd.underlying22 HI.out HZ0.out HZ1.out HZ2.out rfl (by decide) (.slice A2 all.length c2) all.length (nums .i64 all) rfl (own_alloc HM.out.o2 _) ⟨wr.heap.size, 0, none⟩ 1 1 [.int .i64 (m : Int)] rfl rfl (cell_one_new _ _ _) (by intro u hu; simp at hu; rw [hu]; rfl) (all ++ [(m : Int)]).length (by simp) (by simp [maxLen]; omega) (by simp; omega) (by have := HSZ.out; simp; omega) ?_; intro A3 c3 w4 r1 r2 r3)
        rw [nums_app] at r1
        have HM2 := Aside0.mk (HM.out.add2 _ _ r1 r2 r3)
        go_roundw
        case rel => exact ⟨m + 1, A, c, few, A3, c3, all ++ [(m : Int)], rfl, by simp, by go_num, by omega, HP2, HM2⟩
        case measure => simp [intOf]; omega
      · have hmk1 : ¬ (m : Int) = (kk : Int) := by omega
        have hmk2 : ((m : Int) == (kk : Int)) = false := by simpa using hmk1
        by_cases hbit : bits .and .i64 (which / 2 ^ m) 1 = 1
        · have hbit2 : (bits .and .i64 (which / 2 ^ m) 1 == 1) = true := by simpa using hbit
          have HP2 := Aside0.mk (HP.out.two hlt hmk)
          clear hmk hbit
          go_upto_region 10 with (at_builtin; refine Ri.wpList_append_mine rfl _ _ 22 rfl W0.heap.size 3 i0 (.int .i64 0) 1 8 Tryd.underlying22 HI.out HZ0.out HZ1.out HZ2.out rfl (by decide) (.slice A few.length c) few.length (nums .i64 few) rfl (own_alloc HM.out.o1 _) ⟨wr.heap.size, 0, none⟩ 1 1 [.int .i64 (m : Int)] rfl rfl (cell_one_new _ _ _) (by intro u hu; simp at hu; rw [hu]; rfl) (few ++ [(m : Int)]).length (by simp) (by simp [maxLen]; omega) (by simp; omega) (by have := HSZ.out; simp; omega) ?_; intro A3 c3 w4 r1 r2 r3)
          rw [nums_app] at r1
          have HM2 := Aside0.mk (HM.out.add1 _ _ r1 r2 r3)
          have HSZ2 := Aside0.mk HM2.out.below.size
          clear r1 r2 r3 HSZ
          have HSZ := HSZ2
          go_wp2_with (at_builtin; refine Ri.wpList_append_mine rfl _ _ 22 rfl W0.heap.size 3 i0 (.int .i64 0) 1 8 Tryd.underlying22 HI.out HZ0.out HZ1.out HZ2.out rfl (by decide) (.slice A2 all.length c2) all.length (nums .i64 all) rfl (own_alloc HM2.out.o2 _) ⟨w4.heap.size, 0, none⟩ 1 1 [.int .i64 (m : Int)] rfl rfl (cell_one_new _ _ _) (by intro u hu; simp at hu; rw [hu]; rfl) (all ++ [(m : Int)]).length (by simp) (by simp [maxLen]; omega) (by simp; omega) (by have := HSZ.out; simp; omega) ?_; intro A5 c5 w6 r1 r2 r3)
          rw [nums_app] at r1
          have HM3 := Aside0.mk (HM2.out.add2 _ _ r1 r2 r3)
          go_roundw
          case rel => exact ⟨m + 1, A3, c3, few ++ [(m : Int)], A5, c5, all ++ [(m : Int)], by simp, by simp, by go_num, by omega, HP2, HM3⟩
          case measure => simp [intOf]; omega
        · have hbit2 : (bits .and .i64 (which / 2 ^ m) 1 == 1) = false := by simpa using hbit
          have HP2 := Aside0.mk (HP.out.same hmk)
          clear hmk
          go_wp2_with fail
          go_roundw
          case rel => exact ⟨m + 1, A, c, few, A2, c2, all, rfl, rfl, by go_num, by omega, HP2, HM⟩
          case measure => simp [intOf]; omega
    · have em : m = 8 := by omega
      subst em
      have hlt' : ¬ ((8 : Nat) : Int) < 8 := by omega
      by_cases hf : few = []
      · subst hf
        have HBM := Aside0.mk HM.out.below
        go_wp2_with (go_at_call 22; refine (awake_calls _).mono ?_; rintro e w6 ⟨rfl, hb6⟩)
        go_ret
        exact ⟨rfl, below_step HBM.out hb6⟩
      have hfl : 0 < few.length := List.length_pos_iff.2 hf
      have hfl1 : ¬ few.length = 0 := by omega
      have hfl2 : ((few.length : Int) == 0) = false := by rw [beq_eq_false_iff_ne]; omega
      have hal : 0 < all.length := List.length_pos_of_mem (HP.out.kin hk8)
      have he1 := hEr_ok (ns := few) (pl := (pl : Int)) (m := (mm : Int)) ⟨⟨by omega, by omega⟩, HP.out.nf, by omega, by omega⟩ hf
      have he2 := hEr_ok (ns := all) (pl := (pl : Int)) (m := (mm : Int)) ⟨⟨by omega, by omega⟩, HP.out.na, by omega, by omega⟩ (List.length_pos_iff.1 hal)
      have HE1 := Aside0.mk he1
      have HE2 := Aside0.mk he2
      have HF := Aside0.mk (first_calls A c few (pl : Int) (mm : Int) wr (Ri.C_own HM.out.o1))
      have HO2 := Aside0.mk (Ri.C_own HM.out.o2)
      have HBM := Aside0.mk HM.out.below
      clear hf he1 he2 HM
      go_wp2_with fail
      refine HF.out.mono ?_
      rintro e w1 ⟨⟨AX, cX, xs, rfl, hhx, hcx, hCx, hAx⟩, hb1⟩
      rw [HE1.out]
      have HHX := Aside0.mk hhx
      have HCX := Aside0.mk hCx
      have HKX := Aside0.mk hcx
      have HB1 := Aside0.mk (below_step HBM.out hb1)
      have HO21 := Aside0.mk (Kd.C_below HO2.out hb1)
      have hxl : xs.length = mm := by have := (hhx.yes HE1.out).len; simpa using this
      have hxr : ∀ x ∈ xs, 0 ≤ x ∧ x < 8 := shards_range HP.out.nf (hhx.yes HE1.out)
      have HXR := Aside0.mk hxr
      have hck : ckI 1 xs = 0 := ck_of (by decide) (by decide) (by omega) (by omega) hxr
      have HCK0 := Aside0.mk hck
      have HPE : Aside0 (pEr 1 xs all pl = 0) := ⟨by unfold pEr; rw [if_pos hck, hxl]; exact HE2.out⟩
      have HXL := Aside0.mk hxl
      have hx1 : 1 ≤ xs.length := by omega
      have hx16 : xs.length ≤ 16 := by omega
      clear hhx hCx hcx hb1 hxr hck hAx HF hxl
      go_wp2_with fail
      have hbW := below_alloc (Below.refl w1.heap.size w1) (Obj.cells #[Value.int IntKind.i64 1, Value.slice AX xs.length cX] 24)
      have HG1 := Aside0.mk (blk_new w1 (Obj.cells #[Value.int IntKind.i64 1, Value.slice AX xs.length cX] 24))
      have HCX1 := Aside0.mk (Kd.C_below HCX.out hbW)
      have HO22 := Aside0.mk (Kd.C_below HO21.out hbW)
      have HB2 := Aside0.mk (below_step HB1.out hbW)
      have HAX : Aside0 (∀ a, AX = some a → a.block < w1.heap.size) := ⟨C_lt HCX.out (by omega)⟩
      have HAO : Aside0 (∀ a, A2 = some a → a.block < w1.heap.size) := ⟨C_lt HO21.out hal⟩
      clear hbW
      refine (plan_calls 1 AX cX xs A2 c2 all pl _ HCX1.out HKX.out HO22.out).mono ?_
      rintro e w2 ⟨⟨AL, cL, L, rfl, hpi, hcL, hCL, hAL⟩, hb2⟩
      rw [HPE.out]
      obtain ⟨ys, hhy, hyl, hLe⟩ := hpi.yes HPE.out
      rw [HXL.out] at hhy
      have HRS := Aside0.mk (Rest.of HP.out HE1.out HE2.out HHX.out hhy)
      have HL0 : Aside0 (xs.length = ys.length) := ⟨hyl.symm⟩
      have HL := Aside0.mk hLe
      have hLl : L.length ≤ 16 := by rw [hLe]; have := Pl.mvF_len xs ys xs.length 0; omega
      have HGL := Aside0.mk (blk_below HG1.out hb2)
      have HCX2 := Aside0.mk (Kd.C_below HCX1.out hb2)
      have HO23 := Aside0.mk (Kd.C_below HO22.out hb2)
      have HB3 := Aside0.mk (below_step HB2.out hb2)
      have HCL1 := Aside0.mk hCL
      have hzz : w1.heap.size + 1 ≤ w2.heap.size := by have := hb2.size; simp at this; omega
      have hge : W0.heap.size ≤ w1.heap.size := HB1.out.size
      clear hpi hhy hLe hCL hb2 HG1 HCX1 HO22 HCX HO21 hyl HO2
      have HALB : Aside0 (∀ a, AL = some a → 0 < L.length → a.block ≠ w1.heap.size) := ⟨fun a ha _ => by have := hAL a ha; simp at this; omega⟩
      have HBDL : Aside0 (1 ≤ xs.length ∧ xs.length ≤ 16) := ⟨by omega⟩
      clear hcL hAL
      go_wp2_with fail
      generalize w1.heap.size = g at *
      go_loopw [16] (fun i wr => ∃ (k p : Nat) (A2 : Option Addr) (c2 : Nat), k ≤ L.length ∧ p ≤ xs.length ∧ xs.length ≤ c2 ∧ i = .int .i64 k ∧ Aside0 (L.drop k = Pl.mvF xs ys (xs.length - p) p) ∧ Aside0 (ckI (1 + k) (mix xs ys p) = 0) ∧
        Aside0 (wr.heap[g]? = some (.cells #[.int .i64 (1 + k), .slice A2 xs.length c2] 24 (0, 0))) ∧ Aside0 (Kd.C (Kd.int .i64) wr A2 xs.length (mix xs ys p)) ∧ Aside0 (∀ a, A2 = some a → a.block ≠ g) ∧ Aside0 (KeepBut w2 wr g none) ∧ Aside0 (Below W0.heap.size W0 wr)) (fun i _ => L.length - (intOf i).toNat)
      case atStart => exact ⟨0, 0, AX, cX, Nat.zero_le _, Nat.zero_le _, HKX.out, rfl, ⟨by rw [List.drop_zero]; exact HL.out⟩, ⟨by rw [mix_zero]; simpa using HCK0.out⟩, ⟨by simpa using HGL.out⟩, ⟨by rw [mix_zero]; exact HCX2.out⟩, ⟨fun a ha => by have := HAX.out a ha; omega⟩, ⟨KeepBut.refl _ _ _⟩, HB3⟩
      case round =>
        obtain ⟨k, p, A2', c2', hk', hp, hc2, rfl, HDR, HCK, HGR, HCM, HA2, HKB, HBR⟩ := hrel
        have HNX := Aside0.mk (next_move xs ys HL0.out (xs.length - p) p (by omega))
        by_cases hlt : k < L.length
        · rcases HNX.out with ⟨h1, _⟩ | ⟨q, d', hq1, hq2, hmv, hmix, hne⟩
          · have := HDR.out
            rw [h1] at this
            have := congrArg List.length this
            rw [List.length_drop] at this
            simp at this
            omega
          obtain ⟨_, hrd, hdn⟩ := drop_next (HDR.out.trans hmv)
          obtain ⟨ad, e1, m0, m1, m2⟩ := PChartPlans.at_T52 HCL1.out (k : Int) (by omega) (by omega)
          rw [hrd] at m0 m1 m2
          rw [Int.toNat_natCast] at m0 m1 m2
          dsimp only at m0 m1 m2
          have hgo : ys.getD q 0 = (kk : Int) := HRS.out.go q (by have := HXL.out; omega) hne
          have hlen : (mix xs ys p).length = xs.length := mix_length xs ys p HL0.out hp
          have r0 := mix_at xs ys q HL0.out (by omega)
          have hdone : doneN (mix xs ys p) q (ys.getD q 0) = mix xs ys (q + 1) := by
            rw [hmix, doneN_set _ _ _ (by rw [mix_length xs ys q HL0.out (by omega)]; omega), mix_succ xs ys q HL0.out (by omega)]
          rw [← hmix] at r0
          rw [hgo] at m2 hdone hne hmv
          generalize xs.getD q 0 = fv at *
          have hdr : L.drop (k + 1) = Pl.mvF xs ys (xs.length - (q + 1)) (q + 1) := by rw [hdn]; congr 1; omega
          have HNXT := Aside0.mk hdr
          have HRD := Aside0.mk r0
          have HDN := Aside0.mk hdone
          have HLN := Aside0.mk hlen
          have HNE := Aside0.mk hne
          clear hrd hdn hdr r0 hdone hlen hne hmv hmix HDR HNX hgo
          have hadg : ad.block ≠ g := HALB.out ad e1 (by omega)
          cases e1
          have n0 := keep_cell HKB.out m0 (by rw [add_block]; exact hadg)
          have n1 := keep_cell HKB.out m1 (by show (ad.add (k * 3)).block ≠ g; rw [add_block]; exact hadg)
          have n2 := keep_cell HKB.out m2 (by show (ad.add (k * 3)).block ≠ g; rw [add_block]; exact hadg)
          have c0 : wr.cell? ⟨g, 0, none⟩ = some (.int .i64 (1 + k)) := (blk_cell HGR.out 0).trans rfl
          have c1 : wr.cell? ⟨g, 1, none⟩ = some (.slice A2' xs.length c2') := (blk_cell HGR.out 1).trans rfl
          have hgwr : g < wr.heap.size := blk_lt HGR.out
          have hadlt : (ad.add (k * 3)).block < wr.heap.size := World.block_lt_of_cell? wr _ n0
          have k0 : (0 : Int) ≤ (k : Int) := by omega
          have k1 : (k : Int) < (L.length : Int) := by omega
          clear m0 m1 m2
          have hd : ∀ W', Kd.C (Kd.int .i64) W' A2' xs.length (mix xs ys p) → Calls Tryd.prog 28 #[.agg #[.int .i64 (1 + k), .slice A2' xs.length c2'], .agg #[.int .i64 (q : Int), .int .i64 fv, .int .i64 (kk : Int)]] W' (Gives W' (1 + k + 1) (mix xs ys (q + 1)) 0) := by
            intro W' hC
            have := done_ok (1 + k) A2' c2' (mix xs ys p) q fv (kk : Int) W' (by rw [HLN.out]; exact hC) (by rw [HLN.out]; have := HBDL.out; omega) (by rw [HLN.out]; exact hc2) HCK.out (by rw [HLN.out]; omega) (by omega) (by omega) (by rw [beq_eq_false_iff_ne]; exact fun h => HNE.out h.symm) (by rw [HRD.out]; simp) (by rw [beq_eq_false_iff_ne]; omega)
            have e : (mix xs ys p).take q ++ [(kk : Int)] ++ (mix xs ys p).drop (q + 1) = mix xs ys (q + 1) := HDN.out
            rw [HLN.out, e] at this
            exact this
          have HDO := Aside0.mk hd
          have HCK1 := Aside0.mk (show ckI (1 + k + 1) (mix xs ys (q + 1)) = 0 by
            rw [← HDN.out]
            exact ck_done HCK.out (by omega) q (kk : Int) (by rw [HLN.out]; omega) (by omega) (by omega))
          have hlm : (mix xs ys (q + 1)).length = xs.length := mix_length xs ys (q + 1) HL0.out (by omega)
          have HLM := Aside0.mk hlm
          clear hd hlm
          go_wp2_with fail
          go_upto_region 21 with (fail)
          go_cut [17, 18] (fun v9 v10 wc => ∃ g2, v9 = .pointer (some ⟨g2, 0, none⟩) ∧ v10 = .int .i64 0 ∧ Aside0 (Boxed wr wc (1 + k + 1) (mix xs ys (q + 1)) g2))
          case first =>
            go_region_held3 (fun w' => w'.cell? ⟨g, 0, none⟩ = some (.int .i64 (1 + k)) ∧ w'.cell? ⟨g, 1, none⟩ = some (.slice A2' xs.length c2') ∧ w'.cell? (ad.add (k * 3)) = some (.int .i64 (q : Int)) ∧ w'.cell? ⟨(ad.add (k * 3)).block, (ad.add (k * 3)).off + 1, none⟩ = some (.int .i64 fv) ∧ w'.cell? ⟨(ad.add (k * 3)).block, (ad.add (k * 3)).off + 2, none⟩ = some (.int .i64 (kk : Int)))
              (first | (go_split_ands; refine ⟨?_, ?_, ?_, ?_, ?_⟩ <;> assumption) | (go_split_ands; refine ⟨?_, ?_, ?_, ?_, ?_⟩ <;> (refine pw_cell_below hb9 ?_; assumption)) | (go_split_ands; refine ⟨?_, ?_, ?_, ?_, ?_⟩ <;> (rw [World.cell?_setCell_far _ _ _ _ (by dsimp only; omega), World.cell?_setCell_far _ _ _ _ (by dsimp only; omega)]; assumption)) | (go_split_ands; refine ⟨?_, ?_, ?_, ?_, ?_⟩ <;> (refine pw_cell_below (below_alloc hb9 _) ?_; assumption)) | (go_split_ands; refine ⟨?_, ?_, ?_, ?_, ?_⟩ <;> (refine pw_cell_below (below_alloc (Below.refl _ _) _) ?_; assumption)) | (go_keep; done))
              ((go_at_call 28; refine (HDO.out _ (Kd.C_below HCM.out (by repeat (first | exact Below.refl _ _ | apply below_alloc | apply below_drew1)))).mono ?_; rintro e w9 ⟨⟨A9, c9, rfl, hc9, hC9, hA9⟩, hb9⟩; have HX := Aside0.mk hC9; have HA9 := Aside0.mk hA9; have HY := Aside0.mk hc9; clear hC9 hA9 hc9; obtain ⟨hc9, hf9⟩ := bcell hb9))
            · go_wp2_with fail
              go_meet
              exact ⟨_, rfl, rfl, ⟨boxed_after hb9 HY.out HX.out HA9.out⟩⟩
            · go_wp2_with fail
              go_meet
              exact ⟨_, rfl, rfl, ⟨boxed_ahead ⟨_, _, rfl⟩ hb9 HY.out HX.out HA9.out⟩⟩
          case rest =>
            obtain ⟨g2, rfl, rfl, HBX⟩ := hcut
            obtain ⟨A9, c9, hB9, hc9, hC9, hA9⟩ := HBX.out.ex
            rw [HLM.out] at hB9 hc9 hC9
            have hle := HBX.out.le
            have x0 : wc.cell? ⟨g2, 0, none⟩ = some (.int .i64 (1 + k + 1)) := (blk_cell hB9 0).trans rfl
            have x1 : wc.cell? ⟨g2, 1, none⟩ = some (.slice A9 xs.length c9) := (blk_cell hB9 1).trans rfl
            have y0 := pw_cell_below HBX.out.below c0
            have y1 := pw_cell_below HBX.out.below c1
            have y2 := pw_cell_below HBX.out.below n2
            have hgb := blk_below HGR.out HBX.out.below
            have z0 := blk_frozen hgb 0
            have z1 := blk_frozen hgb 1
            have HGB := Aside0.mk hgb
            have HC9 := Aside0.mk hC9
            have HA9 := Aside0.mk hA9
            clear hB9 hC9 hA9 hgb
            go_wp2_with fail
            go_roundw
            case rel =>
              have ek : 1 + ((k + 1 : Nat) : Int) = 1 + (k : Int) + 1 := by omega
              have hgr : g < wr.heap.size := hgwr
              refine ⟨k + 1, q + 1, A9, c9, by omega, by omega, hc9, by go_num, HNXT, ⟨by rw [ek]; exact HCK1.out⟩, ⟨by rw [ek]; simpa using blk_set (blk_set HGB.out 0 (.int .i64 (1 + k + 1))) 1 (.slice A9 xs.length c9)⟩, ⟨?_⟩, ⟨fun a ha => by have := HA9.out a ha; omega⟩, ⟨?_⟩, ⟨?_⟩⟩
              · exact C_keep (w := wc) (g := g) (fun _ _ h => h) HC9.out (KeepBut.set_ (KeepBut.set_ (KeepBut.refl _ _ _) _ _) _ _) (fun a ha => by have := HA9.out a ha; omega)
              · exact KeepBut.set_ (KeepBut.set_ (HKB.out.trans (KeepBut.of_below HBX.out.below g none) (.inl rfl)) _ _) _ _
              · exact below_set (below_set (below_step HBR.out HBX.out.below) (by omega)) (by omega)
            case measure => simp [intOf]; omega
        · obtain rfl : k = L.length := by omega
          have hme : mix xs ys p = ys := by
            rcases HNX.out with ⟨_, h2⟩ | ⟨q, d', _, _, hmv, _, _⟩
            · exact h2
            · exfalso
              have := (drop_next (HDR.out.trans hmv)).1
              omega
          rw [hme] at HCK HCM
          have c0 : wr.cell? ⟨g, 0, none⟩ = some (.int .i64 (1 + L.length)) := (blk_cell HGR.out 0).trans rfl
          have c1 : wr.cell? ⟨g, 1, none⟩ = some (.slice A2' xs.length c2') := (blk_cell HGR.out 1).trans rfl
          have HOB := Aside0.mk (C_keep (d := Kd.int .i64) (w := w2) (wr := wr) (fun _ _ h => h) HO23.out HKB.out (fun a ha => by have := HAO.out a ha; omega))
          have HPE2 : Aside0 (pEr (1 + L.length) ys all pl = 0) := ⟨by unfold pEr; rw [if_pos HCK.out, HRS.out.ly]; exact HE2.out⟩
          have hd : Calls Tryd.prog 25 #[.agg #[.int .i64 (1 + L.length), .slice A2' xs.length c2'], .slice A2 all.length c2, .int .i64 (pl : Int)] wr fun e w' => (∃ A cap, e = .returned (.tuple #[.slice A 0 cap, .int .i64 0])) ∧ Below wr.heap.size wr w' := by
            have h1 := plan_calls (1 + L.length) A2' c2' ys A2 c2 all pl wr (by rw [← HL0.out]; exact HCM.out) (by rw [← HL0.out]; exact hc2) HOB.out
            rw [← HL0.out] at h1
            refine h1.mono ?_
            rintro e w' ⟨⟨A5, c5, L5, rfl, hpi, _, _, _⟩, hb⟩
            obtain ⟨out, ho, hol, hL5⟩ := hpi.yes HPE2.out
            rw [HRS.out.ly] at ho
            have eo := ho.eq HRS.out.hy
            rw [eo, mv_self] at hL5
            subst hL5
            exact ⟨⟨A5, c5, by rw [HPE2.out]; rfl⟩, hb⟩
          have HDO := Aside0.mk hd
          clear hd hme HNX HDR
          go_wp2_with fail
          refine HDO.out.mono ?_
          rintro e w7 ⟨⟨A7, c7, rfl⟩, hb7⟩
          go_wp2_with (go_at_call 22; refine (awake_calls _).mono ?_; rintro e w6 ⟨rfl, hb6⟩)
          go_ret
          exact ⟨rfl, below_step (below_step HBR.out hb7) hb6⟩
end Go.Proofs.YthnonapfkobdcaaDoor.Ch
