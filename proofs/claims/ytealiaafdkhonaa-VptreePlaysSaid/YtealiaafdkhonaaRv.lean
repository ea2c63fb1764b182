/- The reference's Top, walked. -/
import Derived.Test.YtealiaafdkhonaaRk
import Derived.Test.YtealiaafdkhonaaRt
namespace Go.Proofs.Ytealiaafdkhonaa.Vp
open Go.RowKit Go.Sort Mb Base Go.Proofs.YtealiaafdkhonaaW.PrintWords Go.Proofs.YtealiaafdkhonaaW.PrintLast Go.Proofs.YtealiaafdkhonaaW.PrintMore
set_option linter.unusedVariables false
set_option linter.unusedSimpArgs false
/-- Those near enough among the first. -/
def nearQ (v : List Int) (lim : Int) (Q : List E) (i : Nat) : List E := (Q.take i).filter fun q => decide (distN v q.2.1 ≤ lim)
theorem nearQ_succ (v : List Int) (lim : Int) (Q : List E) (i : Nat) (h : i < Q.length) : nearQ v lim Q (i + 1) = if distN v Q[i].2.1 ≤ lim then nearQ v lim Q i ++ [Q[i]] else nearQ v lim Q i := by
  unfold nearQ
  rw [List.take_succ_eq_append_getElem h, List.filter_append]
  by_cases e : distN v Q[i].2.1 ≤ lim
  · rw [if_pos e, List.filter_cons_of_pos (by simpa using e)]; rfl
  · rw [if_neg e, List.filter_cons_of_neg (by simpa using e), List.filter_nil, List.append_nil]
theorem nearQ_len (v : List Int) (lim : Int) (Q : List E) (i : Nat) : (nearQ v lim Q i).length ≤ Q.length := by
  unfold nearQ
  have := List.length_filter_le (fun q : E => decide (distN v q.2.1 ≤ lim)) (Q.take i)
  rw [List.length_take] at this
  omega
theorem nearQ_mem {v : List Int} {lim : Int} {Q : List E} {i : Nat} {q : E} (h : q ∈ nearQ v lim Q i) : q ∈ Q := List.mem_of_mem_take (List.mem_filter.1 h).1
theorem nearQ_hits (v : List Int) (lim : Int) (Q : List E) (i : Nat) (hi : Q.length ≤ i) : hits ((nearQ v lim Q i).map pt) v = (hits (Q.map pt) v).filter fun x => decide (x.2 ≤ lim) := by
  unfold nearQ hits
  rw [List.take_of_length_le hi, List.map_map, List.map_map, List.filter_map]
  rfl
theorem once_hits {L : List (Int × List Int)} (h : Rising L) (v : List Int) : Once (hits L v) := by
  have := rising_nodup h
  unfold Once hits
  rw [List.map_map]
  exact this
theorem once_filter {X : List (Int × Int)} (h : Once X) (p : Int × Int → Bool) : Once (X.filter p) := by
  unfold Once at *
  exact h.sublist (List.filter_sublist.map _)
structure RefNear (W : World) (l : List (Int × Int)) (err : Int) (e : Ending) (w' : World) : Prop where
  ex : ∃ val A n c, e = .returned (.tuple #[val, .int .i64 err]) ∧ val = .slice A n c ∧ n = l.length ∧ n ≤ c ∧ Kd.C PVptreeNear.k49 w' A n (l.map s49) ∧ (∀ ad, A = some ad → 0 < n → ∃ cells, w'.heap[ad.block]? = some (.cells cells 49 (0, 0)))
  below : Below W.heap.size W w'
theorem near_nil (W : World) (l : List PVptreeNear.S49) (h : l = []) : Kd.C PVptreeNear.k49 W none 0 l := by subst h; exact ⟨rfl, by simp, fun h => by simp at h⟩
set_option maxRecDepth 100000 in
set_option maxHeartbeats 4000000 in
theorem ref_top_bad (W : World) (d : Int) (A : Option Addr) (n c : Nat) (A1 : Option Addr) (c1 : Nat) (v : List Int) (hC : Kd.C (Kd.int .i64) W A1 v.length v) (hc1 : v.length ≤ c1) (hck : ckV v d = 50) (k lim : Int) :
    Calls Try.prog 16 #[.agg #[.int .i64 d, .slice A n c], .slice A1 v.length c1, .int .i64 k, .int .i64 lim] W (RefNear W [] 50) := by
  have hb1 := below_alloc (Below.refl W.heap.size W) (.cells #[.int .i64 d, .slice A n c] 31)
  have HB1 := Aside0.mk hb1
  have p0 : (W.alloc (.cells #[.int .i64 d, .slice A n c] 31)).cell? ⟨W.heap.size, 0, none⟩ = some (.int .i64 d) := (blk_cell (blk_new W _) 0).trans rfl
  have HCC : Aside0 (Calls Try.prog 26 #[.slice A1 v.length c1, .int .i64 d] (W.alloc (.cells #[.int .i64 d, .slice A n c] 31)) fun e w' => e = .returned (.int .i64 50) ∧ Drawn0 (W.alloc (.cells #[.int .i64 d, .slice A n c] 31)) w') := ⟨by
    have h1 := PVptreeNear.ploverref05_Check.calls (v.length + 1) A1 c1 v d (ckV v d) _ (Kd.C_below hC hb1) hc1 (check_f v d hC.2.1 _ (by omega))
    rw [hck] at h1
    exact h1⟩
  obtain ⟨vn, hvn⟩ : ∃ vn, v.length = vn := ⟨_, rfl⟩
  rw [hvn] at HCC
  rw [hvn]
  clear hb1 hC hc1 hck hvn
  go_enter Try.func16, Try.ntmps16
  go_wp2_with (go_at_call 26; refine HCC.out.mono ?_; rintro e w' ⟨rfl, hd⟩; obtain ⟨m1, rfl⟩ := hd.out; clear hd)
  go_ret2
  exact ⟨⟨_, none, 0, 0, rfl, rfl, rfl, Nat.le_refl _, near_nil _ _ rfl, fun ad e => by cases e⟩, pw_below_drewN HB1.out _⟩
set_option maxRecDepth 100000 in
set_option maxHeartbeats 8000000 in
theorem ref_top_ok (W : World) (d : Int) (b : Nat) (A : Option Addr) (c : Nat) (Q : List E) (hown : W.ownsRow b 37 2 (.slice A Q.length c) Q.length (rowE Q)) (hv : VecsAt W Q) (hQ : Q.length ≤ 512) (A1 : Option Addr) (c1 : Nat) (v : List Int) (hC : Kd.C (Kd.int .i64) W A1 v.length v) (hc1 : v.length ≤ c1) (hck : ckV v d = 0) (hvv : isV v = true)
    (hok : ∀ q ∈ Q, isV q.2.1 = true ∧ q.2.1.length = v.length) (k lim : Int) (r1 : List PVptreeNear.S49) (r2 : Int) (hsr : ∃ kf, PVptreeNear.ploverref05_Search.f kf (((nearQ v lim Q Q.length).map pt).map s37) v k = some (r1, r2)) (l : List (Int × Int)) (hr1 : r1 = l.map s49) :
    Calls Try.prog 16 #[.agg #[.int .i64 d, .slice A Q.length c], .slice A1 v.length c1, .int .i64 k, .int .i64 lim] W (RefNear W l r2) := by
  obtain ⟨kf, hsr⟩ := hsr
  have hb1 := below_alloc (Below.refl W.heap.size W) (.cells #[.int .i64 d, .slice A Q.length c] 31)
  obtain ⟨W1, hW1⟩ : ∃ W1, W.alloc (.cells #[.int .i64 d, .slice A Q.length c] 31) = W1 := ⟨_, rfl⟩
  obtain ⟨b2, hb2⟩ : ∃ b2, W.heap.size = b2 := ⟨_, rfl⟩
  have hx2 : W1.heap[b2]? = some (.cells #[.int .i64 d, .slice A Q.length c] 31 (0, 0)) := by rw [← hW1, ← hb2]; exact blk_new _ _
  rw [hW1] at hb1
  have HB1 := Aside0.mk hb1
  have HX2 := Aside0.mk hx2
  have HW1 := Aside0.mk hW1
  have HB2 := Aside0.mk hb2
  have HOW := Aside0.mk (own_keep hown hb1)
  have HV := Aside0.mk (hv.below hb1)
  have HC := Aside0.mk (Kd.C_below hC hb1)
  have HOK := Aside0.mk hok
  have HVV := Aside0.mk hvv
  have HC1 := Aside0.mk hc1
  have HSR := Aside0.mk hsr
  have HR1 := Aside0.mk hr1
  have HCC : Aside0 (Calls Try.prog 26 #[.slice A1 v.length c1, .int .i64 d] W1 fun e w' => e = .returned (.int .i64 0) ∧ Drawn0 W1 w') := ⟨by
    have h1 := PVptreeNear.ploverref05_Check.calls (v.length + 1) A1 c1 v d (ckV v d) _ HC.out hc1 (check_f v d hC.2.1 _ (by omega))
    rw [hck] at h1
    exact h1⟩
  obtain ⟨n, hn⟩ : ∃ n, Q.length = n := ⟨_, rfl⟩
  have HN := Aside0.mk hn
  obtain ⟨vn, hvn⟩ : ∃ vn, v.length = vn := ⟨_, rfl⟩
  have HVN := Aside0.mk hvn
  rw [hn] at HX2 hQ HW1
  rw [hn]
  rw [hvn] at HCC
  rw [hvn]
  clear hb1 hx2 hW1 hb2 hown hv hC hok hvv hc1 hsr hr1 hn hvn hck
  have p0 : W1.cell? ⟨b2, 0, none⟩ = some (.int .i64 d) := (blk_cell HX2.out 0).trans rfl
  go_enter Try.func16, Try.ntmps16
  go_upto_region 1 with (fail)
  rw [HB2.out, HW1.out]
  go_upto_region 5 with (go_at_call 26; refine HCC.out.mono ?_; rintro e w' ⟨rfl, hd⟩; obtain ⟨m1, rfl⟩ := hd.out; clear hd)
  obtain ⟨W3, hW3⟩ : ∃ W3, W1.drewN m1 = W3 := ⟨_, rfl⟩
  have hb3 : RowKit.Below W1.heap.size W1 W3 := by rw [← hW3]; exact pw_below_drewN (Below.refl _ _) _
  have HB3 : Aside0 (RowKit.Below b2 W W3) := ⟨by rw [← HB2.out]; exact below_step HB1.out hb3⟩
  have HX3 := Aside0.mk (blk_below HX2.out hb3)
  have HOW3 := Aside0.mk (own_keep HOW.out hb3)
  have HV3 := Aside0.mk (HV.out.below hb3)
  have HC3 := Aside0.mk (Kd.C_below HC.out hb3)
  rw [hW3]
  clear p0 HCC hb3 hW3
  obtain ⟨z, hz⟩ : ∃ z, W3.heap.size = z := ⟨_, rfl⟩
  have HZ := Aside0.mk hz
  clear hz
  go_wp2_with fail
  go_loopw [11, 12] (fun z11 z12 wr => ∃ (i : Nat) (A' : Option Addr) (m c' : Nat), z12 = .int .i64 i ∧ i ≤ n ∧ z11 = .slice A' m c' ∧ Aside0 ((nearQ v lim Q i).length = m) ∧ Aside0 (wr.ownsRow z 37 2 (.slice A' m c') m (rowE (nearQ v lim Q i))) ∧ Aside0 (Below z W3 wr)) (fun _ z12 _ => n - (intOf z12).toNat)
  case atStart => exact ⟨0, none, 0, 0, rfl, Nat.zero_le _, rfl, ⟨rfl⟩, ⟨own_nil _ _ _ _⟩, ⟨Below.refl _ _⟩⟩
  case round =>
    obtain ⟨i, A', m, c', rfl, hi, rfl, HM, HO, HB⟩ := hrel
    have hbw : RowKit.Below W3.heap.size W3 wr := by rw [HZ.out]; exact HB.out
    have HBW := Aside0.mk hbw
    have q0 : wr.cell? ⟨b2, 1, none⟩ = some (.slice A n c) := (blk_cell (blk_below HX3.out hbw) 1).trans rfl
    by_cases hlt : i < n
    · have hlt' : (i : Int) < (n : Int) := by omega
      have hi0 : (0 : Int) ≤ (i : Int) := by omega
      have hiQ : i < Q.length := by have := HN.out; omega
      have hform : ∃ g, A = some ⟨g, 0, none⟩ := by
        rcases HOW3.out.2 with ⟨e1, e2⟩ | ⟨g, cap, cur, e1, _⟩
        · injection e1 with _ e3 _; have := HN.out; omega
        · injection e1 with e1 _ _; exact ⟨g, e1⟩
      obtain ⟨g, hg⟩ := hform
      subst hg
      have hcell := own_cell (own_keep HOW3.out hbw)
      obtain ⟨r0', r1'⟩ := rowE_at Q i hiQ
      have hqd : Q.getD i dE = Q[i] := by rw [List.getD_eq_getElem?_getD, List.getElem?_eq_getElem hiQ]; rfl
      rw [hqd] at r0' r1'
      obtain ⟨q, hq⟩ : ∃ q, Q[i] = q := ⟨_, rfl⟩
      rw [hq] at r0' r1'
      have hmem : q ∈ Q := by rw [← hq]; exact List.getElem_mem hiQ
      obtain ⟨Aq, cq, e6, hroom, hCq⟩ := HV3.out q hmem
      rw [e6] at r1'
      have r0 : wr.cell? ⟨g, i * 2, none⟩ = some (.int .i64 q.1) := hcell _ _ r0'
      have r1 : wr.cell? ⟨g, i * 2 + 1, none⟩ = some (.slice Aq q.2.1.length cq) := hcell _ _ r1'
      have HE6 := Aside0.mk e6
      have HSUC := Aside0.mk (nearQ_succ v lim Q i hiQ)
      rw [hq] at HSUC
      obtain ⟨dd, hdd⟩ : ∃ dd, distN v q.2.1 = dd := ⟨_, rfl⟩
      have HDC : Aside0 (Calls Try.prog 32 #[.slice A1 vn c1, .slice Aq q.2.1.length cq] wr fun e w' => e = .returned (.tuple #[.int .i64 dd, .int .i64 0]) ∧ Drawn0 wr w') := ⟨by
        obtain ⟨k1, k2⟩ := HOK.out q hmem
        have h1 := PVptreeNear.ploverref05_Dist.calls 20 A1 c1 v Aq cq q.2.1 dd 0 wr (Kd.C_below HC3.out hbw) HC1.out (Kd.C_below hCq hbw) hroom (by rw [← hdd]; exact dist_f v q.2.1 HVV.out k1 k2 20 (by omega))
        rw [HVN.out] at h1
        exact h1⟩
      have HMM : Aside0 (m ≤ n) := ⟨by have h1 := nearQ_len v lim Q i; rw [HM.out, HN.out] at h1; exact h1⟩
      rw [hdd] at HSUC
      obtain ⟨qn, hqn⟩ : ∃ qn, q.2.1.length = qn := ⟨_, rfl⟩
      have HQN := Aside0.mk hqn
      obtain ⟨id, hid⟩ : ∃ id, q.1 = id := ⟨_, rfl⟩
      have HID := Aside0.mk hid
      rw [hqn] at r1 HDC
      rw [hid] at r0
      clear hcell r0' r1' hqd hq hmem e6 hroom hCq hdd hqn hid hbw
      by_cases hdl : dd ≤ lim
      · have hdl' : decide (dd ≤ lim) = true := by simpa using hdl
        go_upto_region 10 with (go_at_call 32; refine HDC.out.mono ?_; rintro e w' ⟨rfl, hd⟩; obtain ⟨m2, rfl⟩ := hd.out; clear hd)
        have HOa : Aside0 (((wr.drewN m2).alloc (.cells #[.int .i64 id, .slice Aq qn cq] 37)).ownsRow z 37 2 (.slice A' m c') m (rowE (nearQ v lim Q i))) := ⟨World.ownsRow.alloc (w := wr.drewN m2) HO.out _⟩
        have HSN : Aside0 (SrcAt ((wr.drewN m2).alloc (.cells #[.int .i64 id, .slice Aq qn cq] 37)) (some ⟨wr.heap.size, 0, none⟩) 1 1 [.int .i64 id, .slice Aq qn cq]) := ⟨.inr ⟨_, rfl, rfl, news_cells (wr.drewN m2) id (.slice Aq qn cq)⟩⟩
        have HBa : Aside0 (RowKit.Below z W3 ((wr.drewN m2).alloc (.cells #[.int .i64 id, .slice Aq qn cq] 37))) := ⟨(pw_below_drewN HB.out m2).alloc (by rw [← HZ.out]; exact HB.out.size) _⟩
        have HZa : Aside0 (z ≤ ((wr.drewN m2).alloc (.cells #[.int .i64 id, .slice Aq qn cq] 37)).heap.size) := ⟨by rw [← HZ.out]; exact HBa.out.size⟩
        go_wp2_with (at_builtin; refine wpList_append_src rfl _ _ rfl z (.slice A' m c') m (rowE (nearQ v lim Q i)) (by rfl) HOa.out (some ⟨wr.heap.size, 0, none⟩) 1 1 [.int .i64 id, .slice Aq qn cq] (by rfl) HSN.out (fun u hu => by simp at hu; rcases hu with rfl | rfl <;> rfl) (m + 1) rfl (by have := HMM.out; omega) HZa.out ?_; intro A5 c5 w5 hown5 hg5; have HO5 := Aside0.mk hown5; have HB5 : Aside0 (RowKit.Below z W3 w5) := ⟨HBa.out.grown hg5 HZa.out (fun j hj => own_base HOa.out j hj)⟩; clear hown5 hg5)
        go_roundw
        case rel =>
          refine ⟨i + 1, A5, m + 1, c5, by go_num, hlt, rfl, ⟨?_⟩, ⟨?_⟩, HB5⟩
          · rw [HSUC.out, if_pos hdl, List.length_append, HM.out]; rfl
          · rw [HSUC.out, if_pos hdl, rowE_app]
            have e7 : rowE [q] = [.int .i64 id, .slice Aq qn cq] := by
              show encE q ++ [] = _
              unfold encE
              rw [HE6.out, HQN.out, HID.out]; rfl
            rw [e7]
            exact HO5.out
        case measure => simp [intOf]; omega
      · have hdl' : decide (dd ≤ lim) = false := by simpa using hdl
        go_wp2_with (go_at_call 32; refine HDC.out.mono ?_; rintro e w' ⟨rfl, hd⟩; obtain ⟨m2, rfl⟩ := hd.out; clear hd)
        go_roundw
        case rel =>
          refine ⟨i + 1, A', m, c', by go_num, hlt, rfl, ⟨?_⟩, ⟨?_⟩, ⟨pw_below_drewN HB.out m2⟩⟩
          · rw [HSUC.out, if_neg (by omega), HM.out]
          · rw [HSUC.out, if_neg (by omega)]
            exact HO.out
        case measure => simp [intOf]; omega
    · have ei : i = n := by omega
      subst ei
      have HMM : Aside0 (m ≤ i) := ⟨by have h1 := nearQ_len v lim Q i; rw [HM.out, HN.out] at h1; exact h1⟩
      have HSC : Aside0 (Calls Try.prog 33 #[.slice A' m c', .slice A1 vn c1, .int .i64 k] wr fun e w' => ∃ v0_ : Value, e = .returned (.tuple #[v0_, .int .i64 r2]) ∧ Kd.R PVptreeNear.k49 49 w' wr.heap.size (fun _ => True) v0_ r1 ∧ Below wr.heap.size wr w') := ⟨by
        have hvn : VecsAt wr (nearQ v lim Q i) := (HV3.out.below hbw).sub (fun q hq => nearQ_mem hq)
        have ho := HO.out
        rw [← HM.out] at ho
        have h0 := row_C ho hvn (by rw [HM.out]; have := HMM.out; omega)
        have hs := HSR.out
        rw [HN.out] at hs
        have h1 := PVptreeNear.ploverref05_Search.calls kf A' c' (((nearQ v lim Q i).map pt).map s37) A1 c1 v k r1 r2 wr (by rw [List.length_map, List.length_map]; exact h0.1) (by rw [List.length_map, List.length_map]; exact h0.2) (Kd.C_below HC3.out hbw) HC1.out hs
        rw [List.length_map, List.length_map, HM.out, HVN.out] at h1
        exact h1⟩
      clear hbw
      go_wp2_with (go_at_call 33; refine HSC.out.mono ?_; rintro e w9 ⟨v9, rfl, hr9, hb9⟩; have HR9 := Aside0.mk hr9; have HB9 := Aside0.mk hb9; clear hr9 hb9)
      go_ret2
      refine ⟨?_, ?_⟩
      · obtain ⟨A9, c9, e9, h9, hC9⟩ := Kd.R_reads HR9.out
        subst e9
        refine ⟨_, A9, r1.length, c9, rfl, rfl, by rw [HR1.out, List.length_map], h9, by rw [← HR1.out]; exact hC9, fun ad e hpos => ?_⟩
        obtain ⟨g9, cap9, e10, _, _, cells, hc10⟩ := Kd.R_form HR9.out hpos
        injection e10 with e10 _ _
        rw [e] at e10
        injection e10 with e10
        subst e10
        exact ⟨cells, hc10⟩
      · have hs : b2 ≤ W3.heap.size := by rw [← HB2.out]; exact HB3.out.size
        have hs2 := HB.out.size
        have hs3 := HZ.out
        rw [HB2.out]
        exact below_cat HB3.out (below_cat (HB.out.mono (by omega)) (HB9.out.mono (by omega)))
theorem ref_top (W0 W : World) (hW : Below W0.heap.size W0 W) (d : Int) (L : List (Int × List Int)) (val : Value) (h : RefAt W0 W val L) (hr : Rising L) (hf : L.length ≤ 512) (hv : ∀ p ∈ L, isV p.2 = true ∧ (p.2.length : Int) = d) (A1 : Option Addr) (c1 : Nat) (v : List Int) (hC : Kd.C (Kd.int .i64) W A1 v.length v) (hc1 : v.length ≤ c1) (hck : ckV v d = 0) (hvv : isV v = true) (hvd : (v.length : Int) = d) (k lim : Int) :
    Calls Try.prog 16 #[.agg #[.int .i64 d, val], .slice A1 v.length c1, .int .i64 k, .int .i64 lim] W
      (if 1 ≤ k ∧ k ≤ 64 then RefNear W (best k.toNat lim (hits L v)) 0 else RefNear W [] 51) := by
  obtain ⟨Q, hown, hvq, rfl⟩ := h
  rw [List.length_map] at hf
  obtain ⟨A, c, rfl⟩ := own_slice hown
  have hok : ∀ q ∈ Q, isV q.2.1 = true ∧ q.2.1.length = v.length := fun q hq => by
    obtain ⟨h1, h2⟩ := hv (pt q) (List.mem_map.2 ⟨q, hq, rfl⟩)
    exact ⟨h1, by have h3 : (q.2.1.length : Int) = d := h2; omega⟩
  have hokn : ∀ p ∈ (nearQ v lim Q Q.length).map pt, isV p.2 = true ∧ p.2.length = v.length := fun p hp => by
    obtain ⟨q, hq, rfl⟩ := List.mem_map.1 hp
    exact hok q (nearQ_mem hq)
  have hnl := nearQ_len v lim Q Q.length
  have hh := nearQ_hits v lim Q Q.length (Nat.le_refl _)
  have hon : Once (hits ((nearQ v lim Q Q.length).map pt) v) := by rw [hh]; exact once_filter (once_hits hr v) _
  split
  · rename_i hk
    obtain ⟨kk, rfl⟩ : ∃ kk : Nat, k = (kk : Int) := ⟨k.toNat, by omega⟩
    have hs := search_ok ((nearQ v lim Q Q.length).map pt) v kk (by omega) (by omega) hvv hokn (by rw [List.length_map]; omega) hon
    rw [hh] at hs
    rw [Int.toNat_natCast]
    exact ref_top_ok W d 0 A c Q hown (hvq.below hW) hf A1 c1 v hC hc1 hck hvv hok _ lim _ _ hs _ rfl
  · rename_i hk
    have hs := search_no ((nearQ v lim Q Q.length).map pt) v k (by omega) hvv hokn (by rw [List.length_map]; omega)
    exact ref_top_ok W d 0 A c Q hown (hvq.below hW) hf A1 c1 v hC hc1 hck hvv hok _ lim _ _ hs [] rfl
end Go.Proofs.Ytealiaafdkhonaa.Vp
