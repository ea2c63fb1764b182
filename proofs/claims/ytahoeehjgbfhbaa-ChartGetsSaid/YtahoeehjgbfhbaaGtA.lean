/- ChartGets: the law's walk. -/
import Derived.Test.YtahoeehjgbfhbaaGtP
namespace Go.Proofs.Ytahoeehjgbfhbaa.Ch
open Base Go.RowKit Go.Proofs.YtahoeehjgbfhbaaW.PrintWords Go.Proofs.YtahoeehjgbfhbaaW.PrintLast Go.Proofs.YtahoeehjgbfhbaaW.PrintMore
set_option linter.unusedVariables false
set_option linter.unusedSimpArgs false
open PChartMoves (S31 k31)

/-- What is readable stays so where one block alone is written that it does not lie in. -/
theorem C_keep {α : Type} {d : Kd α} {w wr : World} {g n : Nat} {A : Option Addr} {xs : List α} (hK : ∀ x cs, d.K w x cs → d.K wr x cs) (h : d.C w A n xs) (hk : KeepBut w wr g none) (hA : ∀ a, A = some a → a.block ≠ g) : d.C wr A n xs :=
  ⟨h.1, h.2.1, fun hn => by
    obtain ⟨ad, e, hc⟩ := h.2.2 hn
    refine ⟨ad, e, fun j p hj => ?_⟩
    obtain ⟨c, hs, hr, hcell⟩ := hc j p hj
    refine ⟨c, hs, hK _ _ hr, fun i u hu => keep_cell hk (hcell i u hu) ?_⟩
    rw [show (ad.add (j * d.sz + i)).block = ad.block by unfold Addr.add; split <;> rfl]
    exact hA ad e⟩
theorem C_lt {w : World} {A : Option Addr} {n : Nat} {xs : List Int} (h : Kd.C (Kd.int .i64) w A n xs) (hn : 0 < n) : ∀ a, A = some a → a.block < w.heap.size := by
  intro a ha
  obtain ⟨ad, e, hc⟩ := at_nat h 0 hn
  rw [ha] at e
  cases e
  have := World.block_lt_of_cell? w _ hc
  rw [show (a.add 0).block = a.block by unfold Addr.add; split <;> rfl] at this
  exact this
theorem add_block (ad : Addr) (k : Nat) : (ad.add k).block = ad.block := by unfold Addr.add; split <;> rfl

/-- What Done gave, boxed behind the call or ahead of it. -/
structure Boxed (wr wc : World) (ep : Int) (xs : List Int) (g2 : Nat) : Prop where
  ex : ∃ A c, wc.heap[g2]? = some (.cells #[.int .i64 ep, .slice A xs.length c] 24 (0, 0)) ∧ xs.length ≤ c ∧ Kd.C (Kd.int .i64) wc A xs.length xs ∧ ∀ a, A = some a → wr.heap.size ≤ a.block
  le : wr.heap.size ≤ g2
  below : Below wr.heap.size wr wc

theorem boxed_after {wr w9 : World} {ep : Int} {xs : List Int} {A : Option Addr} {c : Nat} (hb : Below wr.drew.heap.size wr.drew w9) (hc : xs.length ≤ c) (hC : Kd.C (Kd.int .i64) w9 A xs.length xs) (hA : ∀ a, A = some a → wr.drew.heap.size ≤ a.block) :
    Boxed wr (w9.alloc (.cells #[.int .i64 ep, .slice A xs.length c] 24)) ep xs w9.heap.size :=
  ⟨⟨A, c, blk_new _ _, hc, Kd.C_alloc hC _, hA⟩, hb.size, below_alloc (show Below wr.heap.size wr w9 from ⟨hb.os, hb.tape, hb.output, hb.size, hb.block⟩) _⟩

theorem boxed_ahead {wr w9 : World} {z : Obj} {ep : Int} {xs : List Int} {A : Option Addr} {c : Nat} (hz : ∃ u v, z = .cells #[u, v] 24 (0, 0)) (hb : Below (wr.alloc z).drew.heap.size (wr.alloc z).drew w9) (hc : xs.length ≤ c) (hC : Kd.C (Kd.int .i64) w9 A xs.length xs) (hA : ∀ a, A = some a → (wr.alloc z).drew.heap.size ≤ a.block) :
    Boxed wr ((w9.setCell ⟨wr.heap.size, 0, none⟩ (.int .i64 ep)).setCell ⟨wr.heap.size, 1, none⟩ (.slice A xs.length c)) ep xs wr.heap.size := by
  obtain ⟨u, v, rfl⟩ := hz
  have h0 : w9.heap[wr.heap.size]? = some (.cells #[u, v] 24 (0, 0)) := (hb.block wr.heap.size (by simp)).trans (blk_new wr _)
  have hb' : Below wr.heap.size wr w9 := by
    have h1 : Below wr.heap.size wr (wr.alloc (.cells #[u, v] 24 (0, 0))).drew := below_drew1 (below_alloc (Below.refl _ _) _)
    exact below_step h1 hb
  have hk : KeepBut w9 ((w9.setCell ⟨wr.heap.size, 0, none⟩ (.int .i64 ep)).setCell ⟨wr.heap.size, 1, none⟩ (.slice A xs.length c)) wr.heap.size none := KeepBut.set_ (KeepBut.set_ (KeepBut.refl _ _ _) _ _) _ _
  have hA' : ∀ a, A = some a → wr.heap.size + 1 ≤ a.block := fun a ha => by have := hA a ha; simp at this; omega
  have hC' : Kd.C (Kd.int .i64) ((w9.setCell ⟨wr.heap.size, 0, none⟩ (.int .i64 ep)).setCell ⟨wr.heap.size, 1, none⟩ (.slice A xs.length c)) A xs.length xs :=
    C_keep (w := w9) (g := wr.heap.size) (fun _ _ h => h) hC hk (fun a ha => by have := hA' a ha; omega)
  exact ⟨⟨A, c, by simpa using blk_set (blk_set h0 0 (.int .i64 ep)) 1 (.slice A xs.length c), hc, hC', fun a ha => by have := hA' a ha; omega⟩, Nat.le_refl _, below_set (below_set hb' (Nat.le_refl _)) (Nat.le_refl _)⟩

set_option maxHeartbeats 400000 in
theorem gets_no (ep : Int) (A : Option Addr) (c : Nat) (xs : List Int) (ep' : Int) (A' : Option Addr) (c' : Nat) (ys : List Int) (w : World)
  (hr : Kd.C (Kd.int .i64) w A xs.length xs) (hr' : Kd.C (Kd.int .i64) w A' ys.length ys) (h : ckI ep xs = 1 ∨ ckI ep' ys = 1 ∨ xs.length ≠ ys.length) :
    Calls Try.prog 5 #[.agg #[.int .i64 ep, .slice A xs.length c], .agg #[.int .i64 ep', .slice A' ys.length c']] w (Yes w) := by
  have HR := Aside0.mk hr
  have HR' := Aside0.mk hr'
  have H := Aside0.mk h
  clear hr hr' h
  go_enter Try.func5, Try.ntmps5
  go_wp2_with fail
  have hb0 := below_alloc (below_alloc (Below.refl w.heap.size w) (.cells #[.int .i64 ep, .slice A xs.length c] 24)) (.cells #[.int .i64 ep', .slice A' ys.length c'] 24)
  refine (diff_no ep _ c xs ep' _ c' ys _ (Kd.C_below HR.out hb0) (Kd.C_below HR'.out hb0) H.out).mono ?_
  rintro e w1 ⟨rfl, hb1⟩
  go_wp2_with (go_at_call 7; refine (awake_calls _).mono ?_; rintro e w6 ⟨rfl, hb6⟩)
  go_ret
  exact ⟨rfl, below_step (below_step hb0 hb1) hb6⟩

set_option maxHeartbeats 1000000 in
theorem gets_yes (ep : Int) (A : Option Addr) (c : Nat) (xs : List Int) (ep' : Int) (A' : Option Addr) (c' : Nat) (ys : List Int) (w : World)
  (hr : Kd.C (Kd.int .i64) w A xs.length xs) (hcc : xs.length ≤ c) (hr' : Kd.C (Kd.int .i64) w A' ys.length ys) (hcc' : ys.length ≤ c') (h1 : ckI ep xs = 0) (h2 : ckI ep' ys = 0) (hl0 : xs.length = ys.length) :
    Calls Try.prog 5 #[.agg #[.int .i64 ep, .slice A xs.length c], .agg #[.int .i64 ep', .slice A' ys.length c']] w (Yes w) := by
  have hbd := ck_bounds h1
  have hbd' := ck_bounds h2
  have HD1 := Aside0.mk (fun W hr hr' => diff_yes ep A c xs ep' A' c' ys W hr hcc hr' hcc' h1 h2 hl0 (by omega))
  have HR := Aside0.mk hr
  have HR' := Aside0.mk hr'
  have HC := Aside0.mk hcc
  have HC' := Aside0.mk hcc'
  have HK := Aside0.mk h1
  have HK' := Aside0.mk h2
  have HL0 := Aside0.mk hl0
  have HBD := Aside0.mk hbd
  clear hr hr' hcc hcc' h1 h2 hl0 hbd hbd'
  go_enter Try.func5, Try.ntmps5
  go_wp2_with fail
  have hb0 := below_alloc (below_alloc (Below.refl w.heap.size w) (.cells #[.int .i64 ep, .slice A xs.length c] 24)) (.cells #[.int .i64 ep', .slice A' ys.length c'] 24)
  refine (HD1.out _ (Kd.C_below HR.out hb0) (Kd.C_below HR'.out hb0)).mono ?_
  rintro e w1 ⟨⟨AL, cL, rfl, hcL, hCL⟩, hb1⟩
  have HN := Aside0.mk (next_move xs ys HL0.out xs.length 0 (by omega))
  have hLl : (Pl.mvF xs ys xs.length 0).length ≤ 16 := by have := Pl.mvF_len xs ys xs.length 0; have := HBD.out; omega
  obtain ⟨L, HL⟩ : ∃ L, Aside0 (L = Pl.mvF xs ys xs.length 0) := ⟨_, ⟨rfl⟩⟩
  rw [← HL.out] at hLl hcL hCL ⊢
  obtain ⟨hc, hf⟩ := bcell hb1
  have hz : w.heap.size + 2 ≤ w1.heap.size := by have := hb1.size; simp at this; omega
  have q0 : w1.cell? ⟨w.heap.size, 0, none⟩ = some (.int .i64 ep) := by go_simp
  have q1 : w1.cell? ⟨w.heap.size, 1, none⟩ = some (.slice A xs.length c) := by go_simp
  have q2 : w1.cell? ⟨w.heap.size + 1, 0, none⟩ = some (.int .i64 ep') := by go_simp
  have q3 : w1.cell? ⟨w.heap.size + 1, 1, none⟩ = some (.slice A' ys.length c') := by go_simp
  have HCL := Aside0.mk hCL
  have hb2 := below_step hb0 hb1
  clear hc hf hCL hb1 hb0
  go_wp2_with fail
  have hg : (w1.alloc (Obj.cells #[Value.int IntKind.i64 ep, Value.slice A xs.length c] 24)).heap[w1.heap.size]? = some (.cells #[.int .i64 ep, .slice A xs.length c] 24 (0, 0)) := blk_new _ _
  have hbW := below_alloc (Below.refl w1.heap.size w1) (Obj.cells #[Value.int IntKind.i64 ep, Value.slice A xs.length c] 24)
  have HR1 := Aside0.mk (Kd.C_below HR.out (below_step hb2 hbW))
  have HR1' := Aside0.mk (Kd.C_below HR'.out (below_step hb2 hbW))
  have HCL1 := Aside0.mk (Kd.C_below HCL.out hbW)
  have q0' := pw_cell_below hbW q0
  have q2' := pw_cell_below hbW q2
  have q3' := pw_cell_below hbW q3
  have hB := Aside0.mk (below_step hb2 hbW)
  have hAL : ∀ a, AL = some a → 0 < L.length → a.block ≠ w1.heap.size := by
    intro a ha hn e
    obtain ⟨ad, e1, h1, _⟩ := PChartMoves.at_T31 HCL.out 0 (by omega) (by omega)
    rw [ha] at e1; cases e1
    have := World.block_lt_of_cell? w1 _ h1
    rw [add_block] at this; omega
  have hAA : ∀ a, A = some a → a.block ≠ w1.heap.size := by
    intro a ha e
    have := C_lt HR.out (by have := HBD.out; omega) a ha
    have := hb2.size; omega
  have hAA' : ∀ a, A' = some a → a.block ≠ w1.heap.size := by
    intro a ha e
    have := C_lt HR'.out (by have := HBD.out; have := HL0.out; omega) a ha
    have := hb2.size; omega
  have hgw : w1.heap.size < (w1.alloc (Obj.cells #[Value.int IntKind.i64 ep, Value.slice A xs.length c] 24)).heap.size := by simp
  have HAL := Aside0.mk hAL
  have HAA := Aside0.mk hAA
  have HAA' := Aside0.mk hAA'
  have HG := Aside0.mk hg
  clear q0 q1 q2 q3 hb2 HCL hbW hAL hAA hAA' hg
  generalize w1.alloc (Obj.cells #[Value.int IntKind.i64 ep, Value.slice A xs.length c] 24) = W at *
  generalize w1.heap.size = g at *
  clear hcL
  go_loopw [8] (fun i wr => ∃ (k p : Nat) (A2 : Option Addr) (c2 : Nat), k ≤ L.length ∧ p ≤ xs.length ∧ xs.length ≤ c2 ∧ i = .int .i64 k ∧ Aside0 (L.drop k = Pl.mvF xs ys (xs.length - p) p) ∧ Aside0 (ckI (ep + k) (mix xs ys p) = 0) ∧
    Aside0 (wr.heap[g]? = some (.cells #[.int .i64 (ep + k), .slice A2 xs.length c2] 24 (0, 0))) ∧ Aside0 (Kd.C (Kd.int .i64) wr A2 xs.length (mix xs ys p)) ∧ Aside0 (∀ a, A2 = some a → a.block ≠ g) ∧ Aside0 (KeepBut W wr g none) ∧ Aside0 (Below w.heap.size w wr)) (fun i _ => L.length - (intOf i).toNat)
  case atStart => exact ⟨0, 0, A, c, Nat.zero_le _, Nat.zero_le _, HC.out, rfl, ⟨by rw [List.drop_zero]; exact HL.out⟩, ⟨by rw [mix_zero]; simpa using HK.out⟩, ⟨by simpa using HG.out⟩, ⟨by rw [mix_zero]; exact HR1.out⟩, HAA, ⟨KeepBut.refl _ _ _⟩, hB⟩
  case round =>
    obtain ⟨k, p, A2, c2, hk, hp, hc2, rfl, HDR, HCK, HGR, HCM, HA2, HKB, HBR⟩ := hrel
    clear HN
    have HNX := Aside0.mk (next_move xs ys HL0.out (xs.length - p) p (by omega))
    by_cases hlt : k < L.length
    · rcases HNX.out with ⟨h1, _⟩ | ⟨q, d', hq1, hq2, hmv, hmix, hne⟩
      · have := HDR.out
        rw [h1] at this
        have := congrArg List.length this
        rw [List.length_drop] at this
        simp at this
        omega
      obtain ⟨_, hrd, hdn⟩ := drop_next (HDR.out.trans hmv)
      obtain ⟨ad, e1, m0, m1, m2⟩ := PChartMoves.at_T31 HCL1.out (k : Int) (by omega) (by omega)
      rw [hrd] at m0 m1 m2
      rw [Int.toNat_natCast] at m0 m1 m2
      dsimp only at m0 m1 m2
      have hlen : (mix xs ys p).length = xs.length := mix_length xs ys p HL0.out hp
      have t0 := any_odd (ck_any HK'.out) q (by have := HL0.out; omega)
      have r0 := mix_at xs ys q HL0.out (by omega)
      have hdone : doneN (mix xs ys p) q (ys.getD q 0) = mix xs ys (q + 1) := by
        rw [hmix, doneN_set _ _ _ (by rw [mix_length xs ys q HL0.out (by omega)]; omega), mix_succ xs ys q HL0.out (by omega)]
      rw [← hmix] at r0
      rw [Pl.rd_nat] at t0
      generalize xs.getD q 0 = fv at *
      generalize ys.getD q 0 = tv at *
      have hdr : L.drop (k + 1) = Pl.mvF xs ys (xs.length - (q + 1)) (q + 1) := by rw [hdn]; congr 1; omega
      have HNXT := Aside0.mk hdr
      have HRD := Aside0.mk r0
      have HDN := Aside0.mk hdone
      have HLN := Aside0.mk hlen
      have HT := Aside0.mk t0
      have HNE := Aside0.mk hne
      clear hrd hdn hdr r0 hdone hlen t0 hne hmv hmix HDR HNX
      have hadg : ad.block ≠ g := HAL.out ad e1 (by omega)
      cases e1
      have n0 := keep_cell HKB.out m0 (by rw [add_block]; exact hadg)
      have n1 := keep_cell HKB.out m1 (by show (ad.add (k * 3)).block ≠ g; rw [add_block]; exact hadg)
      have n2 := keep_cell HKB.out m2 (by show (ad.add (k * 3)).block ≠ g; rw [add_block]; exact hadg)
      have c0 : wr.cell? ⟨g, 0, none⟩ = some (.int .i64 (ep + k)) := (blk_cell HGR.out 0).trans rfl
      have c1 : wr.cell? ⟨g, 1, none⟩ = some (.slice A2 xs.length c2) := (blk_cell HGR.out 1).trans rfl
      have u0 := keep_cell HKB.out q0' (by dsimp only; omega)
      have hgwr : g < wr.heap.size := blk_lt HGR.out
      have hadlt : (ad.add (k * 3)).block < wr.heap.size := World.block_lt_of_cell? wr _ n0
      have k0 : (0 : Int) ≤ (k : Int) := by omega
      have k1 : (k : Int) < (L.length : Int) := by omega
      clear m0 m1 m2
      by_cases hep : ep + k = 1099511627776
      · have hd : ∀ W', Kd.C (Kd.int .i64) W' A2 xs.length (mix xs ys p) → Calls Try.prog 8 #[.agg #[.int .i64 (ep + k), .slice A2 xs.length c2], .agg #[.int .i64 (q : Int), .int .i64 fv, .int .i64 tv]] W' (Gives W' 0 [] 101) := by
          intro W' hC
          have := done_last (ep + k) A2 c2 (mix xs ys p) q fv tv W' (by rw [HLN.out]; exact hC) (by rw [HLN.out]; have := HBD.out; omega) HCK.out (by omega) (by rw [HLN.out]; omega) HT.out.1 HT.out.2 (by rw [beq_eq_false_iff_ne]; exact fun h => HNE.out h.symm) (by rw [HRD.out]; simp) (by simpa using hep)
          rw [HLN.out] at this
          exact this
        have HDO := Aside0.mk hd
        have hb : (1099511627760 : Int) < ep := by omega
        clear hd hep
        go_upto_region 8 with (fail)
        go_cut [9, 10] (fun v9 v10 wc => ∃ g2, v9 = .pointer (some ⟨g2, 0, none⟩) ∧ v10 = .int .i64 101 ∧ Aside0 (Boxed wr wc (0) ([]) g2))
        case first =>
          go_region_held3 (fun w' => w'.cell? ⟨g, 0, none⟩ = some (.int .i64 (ep + k)) ∧ w'.cell? ⟨g, 1, none⟩ = some (.slice A2 xs.length c2) ∧ w'.cell? (ad.add (k * 3)) = some (.int .i64 (q : Int)) ∧ w'.cell? ⟨(ad.add (k * 3)).block, (ad.add (k * 3)).off + 1, none⟩ = some (.int .i64 fv) ∧ w'.cell? ⟨(ad.add (k * 3)).block, (ad.add (k * 3)).off + 2, none⟩ = some (.int .i64 tv))
          (first | (go_split_ands; refine ⟨?_, ?_, ?_, ?_, ?_⟩ <;> assumption) | (go_split_ands; refine ⟨?_, ?_, ?_, ?_, ?_⟩ <;> (refine pw_cell_below hb9 ?_; assumption)) | (go_split_ands; refine ⟨?_, ?_, ?_, ?_, ?_⟩ <;> (rw [World.cell?_setCell_far _ _ _ _ (by dsimp only; omega), World.cell?_setCell_far _ _ _ _ (by dsimp only; omega)]; assumption)) | (go_split_ands; refine ⟨?_, ?_, ?_, ?_, ?_⟩ <;> (refine pw_cell_below (below_alloc hb9 _) ?_; assumption)) | (go_split_ands; refine ⟨?_, ?_, ?_, ?_, ?_⟩ <;> (refine pw_cell_below (below_alloc (Below.refl _ _) _) ?_; assumption)) | (go_keep; done))
          ((go_at_call 8; refine (HDO.out _ (Kd.C_below HCM.out (by repeat (first | exact Below.refl _ _ | apply below_alloc | apply below_drew1)))).mono ?_; rintro e w9 ⟨⟨A9, c9, rfl, hc9, hC9, hA9⟩, hb9⟩; have HX := Aside0.mk hC9; have HA9 := Aside0.mk hA9; have HY := Aside0.mk hc9; clear hC9 hA9 hc9; obtain ⟨hc9, hf9⟩ := bcell hb9))
          · go_wp2_with fail
            go_meet
            exact ⟨_, rfl, rfl, ⟨boxed_after hb9 HY.out HX.out HA9.out⟩⟩
          · go_wp2_with fail
            go_meet
            exact ⟨_, rfl, rfl, ⟨boxed_ahead ⟨_, _, rfl⟩ hb9 HY.out HX.out HA9.out⟩⟩
        case rest =>
          obtain ⟨g2, rfl, rfl, HBX⟩ := hcut
          have hbx := HBX.out.below
          have v0 := pw_cell_below hbx u0
          go_wp2_with (go_at_call 7; refine (awake_calls _).mono ?_; rintro e w6 ⟨rfl, hb6⟩)
          go_ret
          exact ⟨rfl, below_step (below_step HBR.out hbx) hb6⟩
      · have hd : ∀ W', Kd.C (Kd.int .i64) W' A2 xs.length (mix xs ys p) → Calls Try.prog 8 #[.agg #[.int .i64 (ep + k), .slice A2 xs.length c2], .agg #[.int .i64 (q : Int), .int .i64 fv, .int .i64 tv]] W' (Gives W' (ep + k + 1) (mix xs ys (q + 1)) 0) := by
          intro W' hC
          have := done_ok (ep + k) A2 c2 (mix xs ys p) q fv tv W' (by rw [HLN.out]; exact hC) (by rw [HLN.out]; have := HBD.out; omega) (by rw [HLN.out]; exact hc2) HCK.out (by rw [HLN.out]; omega) HT.out.1 HT.out.2 (by rw [beq_eq_false_iff_ne]; exact fun h => HNE.out h.symm) (by rw [HRD.out]; simp) (by rw [beq_eq_false_iff_ne]; exact hep)
          have e : (mix xs ys p).take q ++ [tv] ++ (mix xs ys p).drop (q + 1) = mix xs ys (q + 1) := HDN.out
          rw [HLN.out, e] at this
          exact this
        have HDO := Aside0.mk hd
        have HCK1 := Aside0.mk (show ckI (ep + k + 1) (mix xs ys (q + 1)) = 0 by
          rw [← HDN.out]
          exact ck_done HCK.out (by have := ck_bounds HCK.out; omega) q tv (by rw [HLN.out]; omega) HT.out.1 HT.out.2)
        have hlm : (mix xs ys (q + 1)).length = xs.length := mix_length xs ys (q + 1) HL0.out (by omega)
        have HLM := Aside0.mk hlm
        clear hd hep hlm
        go_wp2_with fail
        go_upto_region 8 with (fail)
        go_cut [9, 10] (fun v9 v10 wc => ∃ g2, v9 = .pointer (some ⟨g2, 0, none⟩) ∧ v10 = .int .i64 0 ∧ Aside0 (Boxed wr wc (ep + k + 1) (mix xs ys (q + 1)) g2))
        case first =>
          go_region_held3 (fun w' => w'.cell? ⟨g, 0, none⟩ = some (.int .i64 (ep + k)) ∧ w'.cell? ⟨g, 1, none⟩ = some (.slice A2 xs.length c2) ∧ w'.cell? (ad.add (k * 3)) = some (.int .i64 (q : Int)) ∧ w'.cell? ⟨(ad.add (k * 3)).block, (ad.add (k * 3)).off + 1, none⟩ = some (.int .i64 fv) ∧ w'.cell? ⟨(ad.add (k * 3)).block, (ad.add (k * 3)).off + 2, none⟩ = some (.int .i64 tv))
          (first | (go_split_ands; refine ⟨?_, ?_, ?_, ?_, ?_⟩ <;> assumption) | (go_split_ands; refine ⟨?_, ?_, ?_, ?_, ?_⟩ <;> (refine pw_cell_below hb9 ?_; assumption)) | (go_split_ands; refine ⟨?_, ?_, ?_, ?_, ?_⟩ <;> (rw [World.cell?_setCell_far _ _ _ _ (by dsimp only; omega), World.cell?_setCell_far _ _ _ _ (by dsimp only; omega)]; assumption)) | (go_split_ands; refine ⟨?_, ?_, ?_, ?_, ?_⟩ <;> (refine pw_cell_below (below_alloc hb9 _) ?_; assumption)) | (go_split_ands; refine ⟨?_, ?_, ?_, ?_, ?_⟩ <;> (refine pw_cell_below (below_alloc (Below.refl _ _) _) ?_; assumption)) | (go_keep; done))
          ((go_at_call 8; refine (HDO.out _ (Kd.C_below HCM.out (by repeat (first | exact Below.refl _ _ | apply below_alloc | apply below_drew1)))).mono ?_; rintro e w9 ⟨⟨A9, c9, rfl, hc9, hC9, hA9⟩, hb9⟩; have HX := Aside0.mk hC9; have HA9 := Aside0.mk hA9; have HY := Aside0.mk hc9; clear hC9 hA9 hc9; obtain ⟨hc9, hf9⟩ := bcell hb9))
          · go_wp2_with fail
            go_meet
            exact ⟨_, rfl, rfl, ⟨boxed_after hb9 HY.out HX.out HA9.out⟩⟩
          · go_wp2_with fail
            go_meet
            exact ⟨_, rfl, rfl, ⟨boxed_ahead ⟨_, _, rfl⟩ hb9 HY.out HX.out HA9.out⟩⟩
        case rest =>
          obtain ⟨g2, rfl, rfl, HBX⟩ := hcut
          obtain ⟨A9, c9, hB9, hc9, hC9, hA9⟩ := HBX.out.ex
          rw [HLM.out] at hB9 hc9 hC9
          have hle := HBX.out.le
          have x0 : wc.cell? ⟨g2, 0, none⟩ = some (.int .i64 (ep + k + 1)) := (blk_cell hB9 0).trans rfl
          have x1 : wc.cell? ⟨g2, 1, none⟩ = some (.slice A9 xs.length c9) := (blk_cell hB9 1).trans rfl
          have y0 := pw_cell_below HBX.out.below c0
          have y1 := pw_cell_below HBX.out.below c1
          have hgb := blk_below HGR.out HBX.out.below
          have z0 := blk_frozen hgb 0
          have z1 := blk_frozen hgb 1
          have HGB := Aside0.mk hgb
          have HC9 := Aside0.mk hC9
          have HA9 := Aside0.mk hA9
          clear hB9 hC9 hA9 hgb
          go_wp2_with fail
          go_roundw
          case rel =>
            have ek : ep + ((k + 1 : Nat) : Int) = ep + (k : Int) + 1 := by omega
            have hgr : g < wr.heap.size := hgwr
            refine ⟨k + 1, q + 1, A9, c9, by omega, by omega, hc9, by go_num, HNXT, ⟨by rw [ek]; exact HCK1.out⟩, ⟨by rw [ek]; simpa using blk_set (blk_set HGB.out 0 (.int .i64 (ep + k + 1))) 1 (.slice A9 xs.length c9)⟩, ⟨?_⟩, ⟨fun a ha => by have := HA9.out a ha; omega⟩, ⟨?_⟩, ⟨?_⟩⟩
            · exact C_keep (w := wc) (g := g) (fun _ _ h => h) HC9.out (KeepBut.set_ (KeepBut.set_ (KeepBut.refl _ _ _) _ _) _ _) (fun a ha => by have := HA9.out a ha; omega)
            · exact KeepBut.set_ (KeepBut.set_ (HKB.out.trans (KeepBut.of_below HBX.out.below g none) (.inl rfl)) _ _) _ _
            · exact below_set (below_set (below_step HBR.out HBX.out.below) (by omega)) (by omega)
          case measure => simp [intOf]; omega
    · obtain rfl : k = L.length := by omega
      have hme : mix xs ys p = ys := by
        rcases HNX.out with ⟨_, h2⟩ | ⟨q, d', _, _, hmv, _, _⟩
        · exact h2
        · exfalso
          have := (drop_next (HDR.out.trans hmv)).1
          omega
      rw [hme] at HCK HCM
      have HCK2 := Aside0.mk HCK.out
      have hd : ∀ W', Kd.C (Kd.int .i64) W' A2 xs.length ys → Kd.C (Kd.int .i64) W' A' ys.length ys → Calls Try.prog 10 #[.agg #[.int .i64 (ep + L.length), .slice A2 xs.length c2], .agg #[.int .i64 ep', .slice A' ys.length c']] W' (DiffYes W' []) := by
        intro W' hC hC'
        have := diff_yes (ep + L.length) A2 c2 ys ep' A' c' ys W' (by rw [← HL0.out]; exact hC) (by rw [← HL0.out]; exact hc2) hC' HC'.out HCK.out HK'.out rfl (by have := HBD.out; have := HL0.out; omega)
        rw [mv_self, ← HL0.out] at this
        rw [← HL0.out]
        exact this
      have HDO := Aside0.mk hd
      have hs : ∀ W', Kd.C (Kd.int .i64) W' A2 xs.length ys → Kd.C (Kd.int .i64) W' A' ys.length ys → Calls Try.prog 9 #[.slice A2 xs.length c2, .slice A' ys.length c'] W' fun e w' => e = .returned (.bool true) ∧ Drawn0 W' w' := by
        intro W' hC hC'
        have := PChartMoves.ploverref01_SameInts.calls (ys.length + 1) A2 c2 ys A' c' ys true W' (by rw [← HL0.out]; exact hC) (by rw [← HL0.out]; exact hc2) hC' HC'.out (by rw [Pl.same_ints ys ys hC'.2.1]; simp)
        rw [← HL0.out] at this
        rw [← HL0.out]
        exact this
      have HSO := Aside0.mk hs
      have c0 : wr.cell? ⟨g, 0, none⟩ = some (.int .i64 (ep + L.length)) := (blk_cell HGR.out 0).trans rfl
      have c1 : wr.cell? ⟨g, 1, none⟩ = some (.slice A2 xs.length c2) := (blk_cell HGR.out 1).trans rfl
      have u0 := keep_cell HKB.out q0' (by dsimp only; omega)
      have u2 := keep_cell HKB.out q2' (by dsimp only; omega)
      have u3 := keep_cell HKB.out q3' (by dsimp only; omega)
      have HCB := Aside0.mk (C_keep (d := Kd.int .i64) (w := W) (wr := wr) (fun _ _ h => h) HR1'.out HKB.out HAA'.out)
      have hw : IntKind.i64.wrap (ep + (L.length : Int)) = ep + (L.length : Int) := IntWalk.i64_in _ (by have := HBD.out; omega)
      clear hd hs hme HNX HDR
      go_wp2_with fail
      refine (HDO.out _ HCM.out HCB.out).mono ?_
      rintro e w7 ⟨⟨A7, c7, rfl, hc7, hC7⟩, hb7⟩
      have x0 := pw_cell_below hb7 c0
      have x1 := pw_cell_below hb7 c1
      have y0 := pw_cell_below hb7 u0
      have y3 := pw_cell_below hb7 u3
      go_wp2_with fail
      refine (HSO.out _ (Kd.C_below HCM.out hb7) (Kd.C_below HCB.out hb7)).mono ?_
      rintro e w8 ⟨rfl, ⟨⟨n8, rfl⟩⟩⟩
      go_wp2_with (go_at_call 7; refine (awake_calls _).mono ?_; rintro e w6 ⟨rfl, hb6⟩)
      go_ret
      exact ⟨rfl, below_step (pw_below_drewN (below_step HBR.out hb7) _) hb6⟩

theorem gets_calls (ep : Int) (A : Option Addr) (c : Nat) (xs : List Int) (ep' : Int) (A' : Option Addr) (c' : Nat) (ys : List Int) (w : World)
  (hr : Kd.C (Kd.int .i64) w A xs.length xs) (hcc : xs.length ≤ c) (hr' : Kd.C (Kd.int .i64) w A' ys.length ys) (hcc' : ys.length ≤ c') :
    Calls Try.prog 5 #[.agg #[.int .i64 ep, .slice A xs.length c], .agg #[.int .i64 ep', .slice A' ys.length c']] w (Yes w) := by
  by_cases h : ckI ep xs = 1 ∨ ckI ep' ys = 1 ∨ xs.length ≠ ys.length
  · exact gets_no ep A c xs ep' A' c' ys w hr hr' h
  · have := ck01 ep xs
    have := ck01 ep' ys
    exact gets_yes ep A c xs ep' A' c' ys w hr hcc hr' hcc' (by omega) (by omega) (by omega)

end Go.Proofs.Ytahoeehjgbfhbaa.Ch
