/- slices' symmetric merge at points. -/
import Derived.Test.YtealiaafdkhonaaSg1
namespace Go.Proofs.Ytealiaafdkhonaa.Vp
open Go.RowKit Go.Sort Mb Base Sq Go.Proofs.YtealiaafdkhonaaW.PrintWords Go.Proofs.YtealiaafdkhonaaW.PrintLast Go.Proofs.YtealiaafdkhonaaW.PrintMore
set_option linter.unusedVariables false
set_option linter.unusedSimpArgs false

theorem rot_of {Q : List E} {s m e : Nat} (h1 : s ≤ m) (h2 : m ≤ e) (h3 : e ≤ Q.length) : Rot (d := dE) s m e Q (Q.take s ++ ((Q.drop m).take (e - m) ++ ((Q.drop s).take (m - s) ++ Q.drop e))) := by
  have hQ : Q = Q.take s ++ ((Q.drop s).take (m - s) ++ ((Q.drop m).take (e - m) ++ Q.drop e)) := by
    have e1 := mid_split m e h2 Q
    have e2 := mid_split s m h1 Q
    have e3 : Q.drop m = (Q.drop m).take (e - m) ++ Q.drop e := by
      have := List.take_append_drop (e - m) (Q.drop m)
      rw [List.drop_drop, show m + (e - m) = e by omega] at this
      exact this.symm
    rw [← e3]; exact e2
  have l1 : (Q.take s).length = s := by rw [List.length_take]; omega
  have l2 : ((Q.drop m).take (e - m)).length = e - m := by rw [List.length_take, List.length_drop]; omega
  have l3 : ((Q.drop s).take (m - s)).length = m - s := by rw [List.length_take, List.length_drop]; omega
  refine ⟨⟨?_, ?_, fun i hi => ?_⟩, fun k h4 h5 => ?_, fun k h4 h5 => ?_⟩
  · simp only [List.length_append, l1, l2, l3, List.length_drop]; omega
  · refine List.Perm.trans ?_ (List.Perm.of_eq hQ.symm)
    refine List.Perm.append_left _ ?_
    rw [← List.append_assoc, ← List.append_assoc]
    exact List.Perm.append_right _ List.perm_append_comm
  · rcases hi with hi | hi
    · rw [List.getElem?_append_left (by omega), List.getElem?_take, if_pos hi]
    · rw [List.getElem?_append_right (by omega), List.getElem?_append_right (by omega), List.getElem?_append_right (by omega), List.getElem?_drop]
      congr 1; omega
  · rw [List.getD_eq_getElem?_getD, List.getD_eq_getElem?_getD, List.getElem?_append_right (by omega), List.getElem?_append_left (by omega), List.getElem?_take, if_pos (by omega), List.getElem?_drop]
    congr 2; omega
  · rw [List.getD_eq_getElem?_getD, List.getD_eq_getElem?_getD, List.getElem?_append_right (by omega), List.getElem?_append_right (by omega), List.getElem?_append_left (by omega), List.getElem?_take, if_pos (by omega), List.getElem?_drop]
    congr 2; omega
theorem rotate_at (W : World) (nb ng : Nat) (nv : List Int) (g : Nat) (Q : List E) (c : Nat) (fv : Value) (h : SortAt W nb ng nv g Q) (N : Nat) (hN : Q.length = N) (hNb : N ≤ 1000000) (s m e : Nat) (h1 : s < m) (h2 : m < e) (h3 : e ≤ N) :
    Calls Try.prog 84 #[.slice (some ⟨g, 0, none⟩) N c, .int .i64 (s : Nat), .int .i64 (m : Nat), .int .i64 (e : Nat), fv] W (SortDone W nb ng nv g Q (fun Q' => Rot (d := dE) s m e Q Q')) := by
  have l1 : (Q.take s).length = s := by rw [List.length_take]; omega
  have l2 : ((Q.drop m).take (e - m)).length = e - m := by rw [List.length_take, List.length_drop]; omega
  have l3 : ((Q.drop s).take (m - s)).length = m - s := by rw [List.length_take, List.length_drop]; omega
  have hQ : Q = Q.take s ++ ((Q.drop s).take (m - s) ++ ((Q.drop m).take (e - m) ++ Q.drop e)) := by
    have e2 := mid_split s m (by omega) Q
    have e3 : Q.drop m = (Q.drop m).take (e - m) ++ Q.drop e := by
      have := List.take_append_drop (e - m) (Q.drop m)
      rw [List.drop_drop, show m + (e - m) = e by omega] at this
      exact this.symm
    rw [← e3]; exact e2
  refine (rotate_calls W nb ng nv g (Q.take s) ((Q.drop s).take (m - s)) ((Q.drop m).take (e - m)) (Q.drop e) c fv (by omega) (by omega) Q hQ h N hN hNb s m e (by rw [l1]) (by rw [l1, l3]; omega) (by rw [l1, l2, l3]; omega)).mono ?_
  rintro e' w' ⟨h4, ⟨Q', h5, rfl⟩, h6⟩
  exact ⟨h4, ⟨_, h5, rot_of (by omega) (by omega) (by omega)⟩, h6⟩

set_option maxRecDepth 100000 in
set_option maxHeartbeats 8000000 in
theorem symMerge_more (nb ng : Nat) (nv : List Int) (g : Nat) (c N : Nat) (hNb : N ≤ 1000000) (W : World) (Q : List E) (h : SortAt W nb ng nv g Q) (hN : Q.length = N) (a m b : Nat) (ham : a + 1 < m) (hmb : m + 1 < b) (hbN : b ≤ N) (h1 : Up (kf dE (keyE nv) Q) a m) (h2 : Up (kf dE (keyE nv) Q) m b)
    (IH : ∀ (W : World) (Q : List E) (a' m' b' : Nat), SortAt W nb ng nv g Q → Q.length = N → a' < m' → m' < b' → b' ≤ N → b' - a' < b - a → Up (kf dE (keyE nv) Q) a' m' → Up (kf dE (keyE nv) Q) m' b' →
      Calls Try.prog 71 #[.slice (some ⟨g, 0, none⟩) N c, .int .i64 (a' : Nat), .int .i64 (m' : Nat), .int .i64 (b' : Nat), .func (.func 54) #[] #[.pointer (some ⟨nb, 0, none⟩)]] W (SortDone W nb ng nv g Q (fun Q' => Seg a' b' Q Q' ∧ Up (kf dE (keyE nv) Q') a' b'))) :
    Calls Try.prog 71 #[.slice (some ⟨g, 0, none⟩) N c, .int .i64 (a : Nat), .int .i64 (m : Nat), .int .i64 (b : Nat), .func (.func 54) #[] #[.pointer (some ⟨nb, 0, none⟩)]] W (SortDone W nb ng nv g Q (fun Q' => Seg a b Q Q' ∧ Up (kf dE (keyE nv) Q') a b)) := by
  obtain ⟨ad, had⟩ : ∃ ad : Addr, ad = ⟨g, 0, none⟩ := ⟨_, rfl⟩
  have HIH := Aside0.mk IH
  rw [← had] at HIH
  rw [← had]
  have HROT := Aside0.mk (fun (W : World) (Q : List E) (h : SortAt W nb ng nv g Q) (hN : Q.length = N) (s e : Nat) (h1 : s < m) (h2 : m < e) (h3 : e ≤ N) => rotate_at W nb ng nv g Q c (.func (.func 54) #[] #[.pointer (some ⟨nb, 0, none⟩)]) h N hN hNb s m e h1 h2 h3)
  rw [← had] at HROT
  have HAD := Aside0.mk had
  have HN := Aside0.mk hN
  have HS0 := Aside0.mk h
  have HU1 := Aside0.mk h1
  have HU2 := Aside0.mk h2
  have g0 : ((m : Int) - (a : Int) == 1) = false := by rw [beq_eq_false_iff_ne]; omega
  have g1 : ((b : Int) - (m : Int) == 1) = false := by rw [beq_eq_false_iff_ne]; omega
  obtain ⟨mid, hmd⟩ : ∃ mid, (a + b) / 2 = mid := ⟨_, rfl⟩
  have HMD := Aside0.mk hmd
  have hmid : ((a : Int) + (b : Int)) / 2 = (mid : Int) := by omega
  have hm1 : a < mid := by omega
  have hm2 : mid < b := by omega
  have hm3 : 2 * mid ≤ a + b := by omega
  have hm4 : a + b ≤ 2 * mid + 1 := by omega
  obtain ⟨n0, hn0⟩ : ∃ n0, mid + m = n0 := ⟨_, rfl⟩
  have hn1 : (mid : Int) + (m : Int) = (n0 : Int) := by omega
  obtain ⟨P, hP⟩ : ∃ P, n0 - 1 = P := ⟨_, rfl⟩
  have hp1 : (n0 : Int) - 1 = (P : Int) := by omega
  obtain ⟨s0, hs0⟩ : ∃ s0, s0 = (if m > mid then mid + m - b else a) := ⟨_, rfl⟩
  obtain ⟨r0, hr0⟩ : ∃ r0, r0 = (if m > mid then mid else m) := ⟨_, rfl⟩
  have HS0' := Aside0.mk hs0
  have HR0' := Aside0.mk hr0
  have hsr : a ≤ s0 ∧ s0 ≤ r0 ∧ r0 ≤ m ∧ r0 ≤ mid ∧ P < s0 + b ∧ r0 + m ≤ P + 1 ∧ n0 ≤ s0 + b := by
    subst hs0 hr0
    split <;> omega
  obtain ⟨sr1, sr2, sr3, sr4, sr5, sr6, sr7⟩ := hsr
  have HP := Aside0.mk (show P + 1 = n0 ∧ n0 = mid + m by omega)
  have hPn : P + 1 = n0 := by omega
  have hnn : n0 ≤ 2000000 := by omega
  clear had hN h h1 h2 hmd IH hn0 hP hs0 hr0
  go_enter Try.func71, Try.ntmps71
  go_upto_if 140 with (fail)
  go_cut [20, 21] (fun u v wc => W = wc ∧ u = .int .i64 (s0 : Nat) ∧ v = .int .i64 (r0 : Nat))
  case first =>
    by_cases hgt : mid < m
    · have hgt2 : (mid : Int) < (m : Int) := by omega
      have hs1 : (n0 : Int) - (b : Int) = (s0 : Int) := by have h3 := HS0'.out; rw [if_pos hgt] at h3; have := HP.out; omega
      have hr1 : r0 = mid := by have h3 := HR0'.out; rwa [if_pos hgt] at h3
      have HRR := Aside0.mk hr1
      clear hr1
      go_wp2_with fail
      go_meet
      exact ⟨rfl, rfl, by rw [HRR.out]⟩
    · have hgt2 : ¬ (mid : Int) < (m : Int) := by omega
      have hs1 : s0 = a := by have h3 := HS0'.out; rwa [if_neg hgt] at h3
      have hr1 : r0 = m := by have h3 := HR0'.out; rwa [if_neg hgt] at h3
      have HSS := Aside0.mk hs1
      have HRR := Aside0.mk hr1
      clear hs1 hr1
      go_wp2_with fail
      go_meet
      exact ⟨rfl, by rw [HSS.out], by rw [HRR.out]⟩
  case rest =>
    obtain ⟨rfl, rfl, rfl⟩ := hcut
    clear hmid hn1
    go_wp2_with fail
    go_loopw [20, 21] (fun z1 z2 wr => ∃ i j : Nat, z1 = .int .i64 i ∧ z2 = .int .i64 j ∧ s0 ≤ i ∧ i ≤ j ∧ j ≤ r0 ∧ Aside0 (SortAt wr nb ng nv g Q) ∧ Aside0 (∀ k, s0 ≤ k → k < i → kf dE (keyE nv) Q k ≤ kf dE (keyE nv) Q (P - k)) ∧ Aside0 (∀ k, j ≤ k → k < r0 → kf dE (keyE nv) Q (P - k) < kf dE (keyE nv) Q k) ∧ Aside0 (Turns (fun j => j = g) W wr)) (fun z1 z2 _ => (intOf z2).toNat - (intOf z1).toNat)
    case atStart => exact ⟨s0, r0, rfl, rfl, by omega, by omega, by omega, HS0, ⟨fun k h1 h2 => by omega⟩, ⟨fun k h1 h2 => by omega⟩, ⟨Turns.rfl_ _⟩⟩
    case round =>
      obtain ⟨i, j, rfl, rfl, hmi, hij, hjb, HSA, HL, HR, HT⟩ := hrel
      by_cases hlt : i < j
      · have hlt2 : (i : Int) < (j : Int) := by omega
        obtain ⟨h, hh, hh1, hh2⟩ : ∃ h : Nat, (i + j) / 2 = h ∧ i ≤ h ∧ h < j := ⟨_, rfl, by omega, by omega⟩
        have hmid : ((i : Int) + (j : Int)) / 2 = (h : Int) := by omega
        obtain ⟨ph, hph⟩ : ∃ ph, P - h = ph := ⟨_, rfl⟩
        have HPH := Aside0.mk hph
        have hph2 : ph + h = P := by omega
        clear hph
        have hxl : ph < Q.length := by rw [HN.out]; omega
        have hyl : h < Q.length := by rw [HN.out]; omega
        have f5 : IntKind.i64.wrap ((P : Int) - (h : Int)) = (ph : Int) := (IntWalk.i64_in _ (by omega)).trans (by omega)
        have f1 : (0 : Int) ≤ (h : Int) := by omega
        have f2 : (h : Int) < (N : Int) := by omega
        have f3 : (0 : Int) ≤ (ph : Int) := by omega
        have f4 : (ph : Int) < (N : Int) := by omega
        obtain ⟨cx0, cx1⟩ := HSA.out.drew.cell_ad HAD.out (ph) hxl
        obtain ⟨cy0, cy1⟩ := HSA.out.drew.cell_ad HAD.out (h) hyl
        obtain ⟨xA, xN, xC, hxs⟩ := slice_val (HSA.out.mem (ph) hxl).1
        obtain ⟨yA, yN, yC, hys⟩ := slice_val (HSA.out.mem (h) hyl).1
        have HCM := Aside0.mk (cmpE_calls wr.drew nb ng nv HSA.out.drew.ctx (Q.getD (ph) dE) (Q.getD (h) dE) (HSA.out.drew.mem (ph) hxl) (HSA.out.drew.mem (h) hyl))
        obtain ⟨x1, hx1⟩ : ∃ x1, (Q.getD (ph) dE).1 = x1 := ⟨_, rfl⟩
        obtain ⟨y1, hy1⟩ : ∃ y1, (Q.getD (h) dE).1 = y1 := ⟨_, rfl⟩
        rw [hxs] at cx1
        rw [hys] at cy1
        rw [hx1] at cx0
        rw [hy1] at cy0
        rw [hx1, hy1, hxs, hys] at HCM
        obtain ⟨r, hr⟩ : ∃ r, Lib.compareInt (keyE nv (Q.getD (ph) dE)) (keyE nv (Q.getD (h) dE)) = r := ⟨_, rfl⟩
        rw [hr] at HCM
        have HRC : Aside0 (r < 0 ↔ kf dE (keyE nv) Q (ph) < kf dE (keyE nv) Q (h)) := ⟨by rw [← hr]; exact cmpI_neg _ _⟩
        clear hx1 hy1 hxs hys hr
        go_upto_region 35 with (fail)
        obtain ⟨bq, hbq⟩ : ∃ bq, (!decide (r < 0)) = bq := ⟨_, rfl⟩
        have HBQ := Aside0.mk hbq
        clear hbq
        go_cut [171] (fun v wc => v = .bool bq ∧ Aside0 (Below wr.heap.size wr wc))
        case first =>
          go_region_held3 (fun w' => w'.cell? (ad.add ((ph) * 2)) = some (.int .i64 x1) ∧ w'.cell? ⟨(ad.add ((ph) * 2)).block, (ad.add ((ph) * 2)).off + 1, none⟩ = some (.slice xA xN xC) ∧ w'.cell? (ad.add ((h) * 2)) = some (.int .i64 y1) ∧ w'.cell? ⟨(ad.add ((h) * 2)).block, (ad.add ((h) * 2)).off + 1, none⟩ = some (.slice yA yN yC))
            (first | (go_split_ands; refine ⟨?_, ?_, ?_, ?_⟩ <;> assumption) | (go_split_ands; refine ⟨?_, ?_, ?_, ?_⟩ <;> (refine pw_cell_below hb9 ?_; assumption)) | (go_keep; done))
            ((go_at_call 54; refine HCM.out.mono ?_; rintro e w9 ⟨rfl, hb9⟩))
          all_goals (go_wp2_with fail; go_meet; exact ⟨by rw [← HBQ.out], ⟨below_step (below_drew1 (Below.refl wr.heap.size wr)) hb9⟩⟩)
        case rest =>
          obtain ⟨rfl, HBC⟩ := hcut
          clear f5
          have HSC := Aside0.mk (HSA.out.below HBC.out)
          have HTC : Aside0 (Turns (fun j => j = g) W wc) := ⟨HT.out.trans_ (Turns.of_below HBC.out)⟩
          by_cases hc : r < 0
          · obtain rfl : bq = false := by rw [← HBQ.out, decide_eq_true hc]; rfl
            have HR2 : Aside0 (∀ k, h ≤ k → k < r0 → kf dE (keyE nv) Q (P - k) < kf dE (keyE nv) Q k) := ⟨fun k h1 h2 => by
              have h3 := HRC.out.1 hc
              by_cases e : h = k
              · rw [← e, HPH.out]; exact h3
              · have h4 := HU1.out h k (by omega) (by omega) (by omega)
                have h5 := HU2.out (P - k) ph (by omega) (by omega) (by omega)
                omega⟩
            clear HRC cx0 cx1 cy0 cy1 HCM
            go_wp2_with fail
            go_roundw
            case rel => exact ⟨i, h, rfl, rfl, hmi, by omega, by omega, HSC, HL, HR2, HTC⟩
            case measure => simp [intOf]; omega
          · obtain rfl : bq = true := by rw [← HBQ.out, decide_eq_false hc]; rfl
            have HL2 : Aside0 (∀ k, s0 ≤ k → k < h + 1 → kf dE (keyE nv) Q k ≤ kf dE (keyE nv) Q (P - k)) := ⟨fun k h1 h2 => by
              have h3 : ¬ kf dE (keyE nv) Q ph < kf dE (keyE nv) Q h := fun e => hc (HRC.out.2 e)
              by_cases e : k = h
              · rw [e, HPH.out]; omega
              · have h4 := HU1.out k h (by omega) (by omega) (by omega)
                have h5 := HU2.out ph (P - k) (by omega) (by omega) (by omega)
                omega⟩
            clear HRC cx0 cx1 cy0 cy1 HCM
            go_wp2_with fail
            go_roundw
            case rel => exact ⟨h + 1, j, by go_num, rfl, by omega, by omega, hjb, HSC, HL2, HR, HTC⟩
            case measure => simp [intOf]; omega
      · as_aux_lemma =>
          obtain rfl : i = j := by omega
          have hlt2 : ¬ (i : Int) < (i : Int) := by omega
          have HCUT : Aside0 (Cut (kf dE (keyE nv) Q) a m b i) := ⟨cut_of (by omega) (by omega) HU1.out HU2.out s0 r0 (by rw [HMD.out]; exact HS0'.out) (by rw [HMD.out]; exact HR0'.out) hmi hjb
            (fun k h1 h2 => by have := HL.out k h1 h2; rw [HMD.out, show mid + m - 1 - k = P - k by have := HP.out; omega]; exact this) (fun k h1 h2 => by have := HR.out k h1 h2; rw [HMD.out, show mid + m - 1 - k = P - k by have := HP.out; omega]; exact this)⟩
          obtain ⟨e0, he0⟩ : ∃ e0, n0 - i = e0 := ⟨_, rfl⟩
          have he1 : (n0 : Int) - (i : Int) = (e0 : Int) := by omega
          have he2 : e0 + i = mid + m := by have := HP.out; omega
          have he3 : m ≤ e0 ∧ e0 ≤ b := by omega
          obtain ⟨he4, he5⟩ := he3
          have HE0 := Aside0.mk he0
          clear he0
          go_upto_region 39 with (fail)
          obtain ⟨bg39, hbg⟩ : ∃ bg : Bool, bg = decide (i < m ∧ m < e0) := ⟨_, rfl⟩
          have HBG39 := Aside0.mk hbg
          clear hbg
          go_cut [185] (fun v wx => wr = wx ∧ v = .bool bg39)
          case first =>
            as_aux_lemma =>
              by_cases t1 : i < m
              · have t1' : (i : Int) < (m : Int) := by omega
                have t1d : decide ((i : Int) < (m : Int)) = true := decide_eq_true t1'
                by_cases t2 : m < e0
                · have t2' : (m : Int) < (e0 : Int) := by omega
                  go_wp2_with fail
                  go_meet
                  exact ⟨rfl, by rw [HBG39.out, decide_eq_true (And.intro t1 t2)]⟩
                · have t2' : ¬ (m : Int) < (e0 : Int) := by omega
                  go_wp2_with fail
                  go_meet
                  exact ⟨rfl, by rw [HBG39.out, decide_eq_false (fun h => t2 h.2)]⟩
              · have t1' : ¬ (i : Int) < (m : Int) := by omega
                have t1d : decide ((i : Int) < (m : Int)) = false := decide_eq_false t1'
                go_wp2_with fail
                go_meet
                exact ⟨rfl, by rw [HBG39.out, decide_eq_false (fun h => t1 h.1)]⟩
          case rest =>
          obtain ⟨rfl, rfl⟩ := hcut
          go_upto_if 185 with (fail)
          go_cut [] (fun wx => ∃ Q1, Aside0 (SortAt wx nb ng nv g Q1) ∧ Aside0 (Rot (d := dE) i m e0 Q Q1) ∧ Aside0 (Turns (fun j => j = g) W wx))
          case first =>
            as_aux_lemma =>
              cases bg39
              · have HRN : Aside0 (Rot (d := dE) i m e0 Q Q) := ⟨Rot.none_ (by have h9 := HBG39.out; have h8 := of_decide_eq_false h9.symm; omega) (by omega) he4 Q⟩
                go_wp2_with fail
                go_meet
                exact ⟨Q, HSA, HRN, HT⟩
              · have h8 := of_decide_eq_true HBG39.out.symm
                have HC := Aside0.mk (HROT.out wr Q HSA.out HN.out i e0 h8.1 h8.2 (by omega))
                clear h8
                go_wp2_with (go_at_call 84; refine HC.out.mono ?_; rintro e w9 ⟨rfl, ⟨Q1, hs9, hr9⟩, ht9⟩; have HS9 := Aside0.mk hs9; have HR9 := Aside0.mk hr9; have HT9 := Aside0.mk ht9; clear hs9 hr9 ht9)
                go_meet
                exact ⟨Q1, HS9, HR9, ⟨HT.out.trans_ HT9.out⟩⟩
          case rest =>
          obtain ⟨Q1, HSQ1, HRQ1, HTQ1⟩ := hcut
          obtain ⟨w5, hw5⟩ : ∃ w5 : World, w5 = wc := ⟨_, rfl⟩
          subst hw5
          have HCC := Aside0.mk (cut_cross (Q' := Q1) (by rw [HN.out]; exact hbN) HU1.out HU2.out (by omega) HCUT.out (by rw [HMD.out, show mid + m - i = e0 by omega]; exact HRQ1.out))
          rw [HMD.out, show mid + m - i = e0 by omega] at HCC
          have HLQ1 : Aside0 (Q1.length = N) := ⟨HRQ1.out.seg.len.trans HN.out⟩
          clear HL HR HSA HT HCUT HROT hlt2 hlt
          go_upto_region 41 with (fail)
          obtain ⟨bg41, hbg⟩ : ∃ bg : Bool, bg = decide (a < i ∧ i < mid) := ⟨_, rfl⟩
          have HBG41 := Aside0.mk hbg
          clear hbg
          go_cut [199] (fun v wx => w5 = wx ∧ v = .bool bg41)
          case first =>
            as_aux_lemma =>
              by_cases t1 : a < i
              · have t1' : (a : Int) < (i : Int) := by omega
                have t1d : decide ((a : Int) < (i : Int)) = true := decide_eq_true t1'
                by_cases t2 : i < mid
                · have t2' : (i : Int) < (mid : Int) := by omega
                  go_wp2_with fail
                  go_meet
                  exact ⟨rfl, by rw [HBG41.out, decide_eq_true (And.intro t1 t2)]⟩
                · have t2' : ¬ (i : Int) < (mid : Int) := by omega
                  go_wp2_with fail
                  go_meet
                  exact ⟨rfl, by rw [HBG41.out, decide_eq_false (fun h => t2 h.2)]⟩
              · have t1' : ¬ (a : Int) < (i : Int) := by omega
                have t1d : decide ((a : Int) < (i : Int)) = false := decide_eq_false t1'
                go_wp2_with fail
                go_meet
                exact ⟨rfl, by rw [HBG41.out, decide_eq_false (fun h => t1 h.1)]⟩
          case rest =>
          obtain ⟨rfl, rfl⟩ := hcut
          go_upto_if 199 with (fail)
          go_cut [] (fun wx => ∃ Q2, Aside0 (SortAt wx nb ng nv g Q2) ∧ Aside0 (Seg a mid Q1 Q2) ∧ Aside0 (Up (kf dE (keyE nv) Q2) a mid) ∧ Aside0 (Turns (fun j => j = g) W wx))
          case first =>
            as_aux_lemma =>
              cases bg41
              · have HUP : Aside0 (Up (kf dE (keyE nv) Q1) a mid) := ⟨by
                  have h8 := of_decide_eq_false HBG41.out.symm
                  by_cases e : a < i
                  · have : i = mid := by omega
                    subst this; exact HCC.out.1
                  · have : i = a := by omega
                    subst this; exact HCC.out.2.1⟩
                go_wp2_with fail
                go_meet
                exact ⟨Q1, HSQ1, ⟨Seg.refl _ _ _⟩, HUP, HTQ1⟩
              · have h8 := of_decide_eq_true HBG41.out.symm
                have HC := Aside0.mk (HIH.out w5 Q1 a i mid HSQ1.out HLQ1.out h8.1 h8.2 (by omega) (by omega) HCC.out.1 HCC.out.2.1)
                clear h8
                go_wp2_with (go_at_call 71; refine HC.out.mono ?_; rintro e w9 ⟨rfl, ⟨Q2, hs9, hg9, hu9⟩, ht9⟩; have HS9 := Aside0.mk hs9; have HG9 := Aside0.mk hg9; have HU9 := Aside0.mk hu9; have HT9 := Aside0.mk ht9; clear hs9 hg9 hu9 ht9)
                go_meet
                exact ⟨Q2, HS9, HG9, HU9, ⟨HTQ1.out.trans_ HT9.out⟩⟩
          case rest =>
          obtain ⟨Q2, HSQ2, HGQ2, HUQ2, HTQ2⟩ := hcut
          obtain ⟨w6, hw6⟩ : ∃ w6 : World, w6 = wc := ⟨_, rfl⟩
          subst hw6
          have HLQ2 : Aside0 (Q2.length = N) := ⟨HGQ2.out.len.trans HLQ1.out⟩
          have HV1 : Aside0 (Up (kf dE (keyE nv) Q2) mid e0) := ⟨HCC.out.2.2.1.congr (fun i h1 h2 => HGQ2.out.kf_out (.inr h1))⟩
          have HV2 : Aside0 (Up (kf dE (keyE nv) Q2) e0 b) := ⟨HCC.out.2.2.2.1.congr (fun i h1 h2 => HGQ2.out.kf_out (.inr (by omega)))⟩
          go_upto_region 43 with (fail)
          obtain ⟨bg43, hbg⟩ : ∃ bg : Bool, bg = decide (mid < e0 ∧ e0 < b) := ⟨_, rfl⟩
          have HBG43 := Aside0.mk hbg
          clear hbg
          go_cut [213] (fun v wx => w6 = wx ∧ v = .bool bg43)
          case first =>
            as_aux_lemma =>
              by_cases t1 : mid < e0
              · have t1' : (mid : Int) < (e0 : Int) := by omega
                have t1d : decide ((mid : Int) < (e0 : Int)) = true := decide_eq_true t1'
                by_cases t2 : e0 < b
                · have t2' : (e0 : Int) < (b : Int) := by omega
                  go_wp2_with fail
                  go_meet
                  exact ⟨rfl, by rw [HBG43.out, decide_eq_true (And.intro t1 t2)]⟩
                · have t2' : ¬ (e0 : Int) < (b : Int) := by omega
                  go_wp2_with fail
                  go_meet
                  exact ⟨rfl, by rw [HBG43.out, decide_eq_false (fun h => t2 h.2)]⟩
              · have t1' : ¬ (mid : Int) < (e0 : Int) := by omega
                have t1d : decide ((mid : Int) < (e0 : Int)) = false := decide_eq_false t1'
                go_wp2_with fail
                go_meet
                exact ⟨rfl, by rw [HBG43.out, decide_eq_false (fun h => t1 h.1)]⟩
          case rest =>
          obtain ⟨rfl, rfl⟩ := hcut
          have HFIN : Aside0 (∀ Q3, Seg mid b Q2 Q3 → Up (kf dE (keyE nv) Q3) mid b → Seg a b Q Q3 ∧ Up (kf dE (keyE nv) Q3) a b) := ⟨fun Q3 h1 h2 =>
            ⟨((HRQ1.out.seg.wide (by omega) he5).trans (HGQ2.out.wide (by omega) (by omega))).trans (h1.wide (by omega) (by omega)), merge_done (by rw [HLQ1.out]; exact hbN) (by omega) (by omega) HCC.out.2.2.2.2 HGQ2.out HUQ2.out h1 h2⟩⟩
          cases bg43
          · have HUP : Aside0 (Up (kf dE (keyE nv) Q2) mid b) := ⟨by
              have h8 := of_decide_eq_false HBG43.out.symm
              by_cases e : mid < e0
              · have : e0 = b := by omega
                subst this; exact HV1.out
              · have : e0 = mid := by omega
                subst this; exact HV2.out⟩
            go_wp2_with fail
            refine bodyPost_end (results_none rfl _ _ _) rfl ?_
            exact ⟨rfl, ⟨Q2, HSQ2.out, HFIN.out Q2 (Seg.refl _ _ _) HUP.out⟩, HTQ2.out⟩
          · have h8 := of_decide_eq_true HBG43.out.symm
            have HC := Aside0.mk (HIH.out w6 Q2 mid e0 b HSQ2.out HLQ2.out h8.1 h8.2 hbN (by omega) HV1.out HV2.out)
            clear h8
            go_wp2_with (go_at_call 71; refine HC.out.mono ?_; rintro e w9 ⟨rfl, ⟨Q3, hs9, hg9, hu9⟩, ht9⟩; have HS9 := Aside0.mk hs9; have HG9 := Aside0.mk hg9; have HU9 := Aside0.mk hu9; have HT9 := Aside0.mk ht9; clear hs9 hg9 hu9 ht9)
            refine bodyPost_end (results_none rfl _ _ _) rfl ?_
            exact ⟨rfl, ⟨Q3, HS9.out, HFIN.out Q3 HG9.out HU9.out⟩, HTQ2.out.trans_ HT9.out⟩
end Go.Proofs.Ytealiaafdkhonaa.Vp
