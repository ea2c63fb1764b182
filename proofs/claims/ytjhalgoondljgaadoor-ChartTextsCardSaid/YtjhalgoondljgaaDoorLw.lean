/- Texts and Ofs, the program's and the reference's, in one shape; what texts must be. -/
import Derived.Test.YtjhalgoondljgaaDoorRo
namespace Go.Proofs.YtjhalgoondljgaaDoor.Re
open Go.RowKit PChartTexts Ch Go.Proofs.YtjhalgoondljgaaDoorW.PrintWords Go.Proofs.YtjhalgoondljgaaDoorW.PrintLast Go.Proofs.YtjhalgoondljgaaDoorW.PrintMore Base
set_option linter.unusedVariables false
set_option linter.unusedSimpArgs false

def txT (ep : Int) (xs : List Int) : ByteArray := if mayB ep xs = true then chartT ep xs else ⟨#[]⟩
def txE (ep : Int) (xs : List Int) : Int := if mayB ep xs = true then 0 else 1
def TextDone (ep : Int) (xs : List Int) (w : World) (e : Ending) (w' : World) : Prop := e = .returned (.tuple #[.string (txT ep xs), .int .i64 (txE ep xs)]) ∧ Below w.heap.size w w'
theorem ctext (ep : Int) (A : Option Addr) (c : Nat) (xs : List Int) (w : World) (hr : Kd.C (Kd.int .i64) w A xs.length xs) (hx : xs.length ≤ 100000) (ht : Tab w) : Calls Tryd.prog 5 #[.agg #[.int .i64 ep, .slice A xs.length c]] w (TextDone ep xs w) := by
  cases h : mayB ep xs with
  | true =>
    refine (text_ok ep A c xs w hr h ht).mono fun e w' hq => ?_
    unfold TextDone txT txE
    rw [h, if_pos rfl, if_pos rfl]
    exact hq
  | false =>
    refine (text_no ep A c xs w hr (by omega) h).mono fun e w' hq => ?_
    unfold TextDone txT txE
    rw [h, if_neg (by decide), if_neg (by decide)]
    exact hq
theorem rtext (ep : Int) (A : Option Addr) (c : Nat) (xs : List Int) (w : World) (hr : Kd.C (Kd.int .i64) w A xs.length xs) (hc : xs.length ≤ c) (hx : xs.length ≤ 100000) : Calls Tryd.prog 6 #[.agg #[.int .i64 ep, .slice A xs.length c]] w (TextDone ep xs w) := by
  cases h : mayB ep xs with
  | true =>
    obtain ⟨k, r, hk, rfl⟩ := (rtext_yes ep xs h).get
    refine (ploverref12_Text.calls k ep A c xs _ _ w hr hc hk).mono fun e w' hq => ?_
    unfold TextDone txT txE
    rw [h, if_pos rfl, if_pos rfl]
    exact hq
  | false =>
    obtain ⟨k, r, hk, rfl⟩ := (rtext_no ep xs (by omega) h).get
    refine (ploverref12_Text.calls k ep A c xs _ _ w hr hc hk).mono fun e w' hq => ?_
    unfold TextDone txT txE
    rw [h, if_neg (by decide), if_neg (by decide)]
    exact hq

theorem Evr.one {α : Type} {f : Nat → Option α} {r r' : α} (h : Evr f (fun x => x = r)) (h' : Evr f (fun x => x = r')) : r = r' := by
  obtain ⟨k, x, rfl, hk⟩ := h
  obtain ⟨k', x', rfl, hk'⟩ := h'
  have e1 := hk (k + k') (by omega)
  have e2 := hk' (k + k') (by omega)
  rw [e1] at e2
  exact Option.some.inj e2
theorem chart_inj {ep ep' : Int} {xs xs' : List Int} (h : mayB ep xs = true) (h' : mayB ep' xs' = true) (e : chartT ep xs = chartT ep' xs') : ep = ep' ∧ xs = xs' := by
  have h1 := rof_ok ep xs h
  rw [e] at h1
  have := h1.one (rof_ok ep' xs' h')
  injection this with e1 e2
  injection e2 with e2 _
  exact ⟨e1, e2⟩
def IsT (s : ByteArray) : Prop := ∃ p : Int × List Int, mayB p.1 p.2 = true ∧ chartT p.1 p.2 = s
open Classical in
noncomputable def ofP (s : ByteArray) : Int × List Int × Int := if h : IsT s then (h.choose.1, h.choose.2, 0) else (0, [], 20)
theorem ofP_yes {ep : Int} {xs : List Int} (h : mayB ep xs = true) : ofP (chartT ep xs) = (ep, xs, 0) := by
  have hh : IsT (chartT ep xs) := ⟨(ep, xs), h, rfl⟩
  unfold ofP
  rw [dif_pos hh]
  obtain ⟨h1, h2⟩ := hh.choose_spec
  obtain ⟨e1, e2⟩ := chart_inj h1 h h2
  rw [e1, e2]
theorem ofP_no {s : ByteArray} (h : ¬ IsT s) : ofP s = (0, [], 20) := by
  unfold ofP
  rw [dif_neg h]
theorem ofP_len (s : ByteArray) : (ofP s).2.1.length ≤ 100000 := by
  by_cases h : IsT s
  · obtain ⟨⟨ep, xs⟩, h1, rfl⟩ := h
    rw [ofP_yes h1]
    have : xs.length ≤ 16 := by unfold mayB at h1; simp at h1; exact h1.1.2.2.2
    show xs.length ≤ _
    omega
  · rw [ofP_no h]; simp
def OfDone2 (s : ByteArray) (w : World) (e : Ending) (w' : World) : Prop :=
  ∃ A c, e = .returned (.tuple #[.agg #[.int .i64 (ofP s).1, .slice A (ofP s).2.1.length c], .int .i64 (ofP s).2.2]) ∧ Kd.C (Kd.int .i64) w' A (ofP s).2.1.length (ofP s).2.1 ∧ (ofP s).2.1.length ≤ c ∧ Below w.heap.size w w'
theorem cof (s : ByteArray) (hs : s.size ≤ 2048) (w : World) (ht : Tab w) : Calls Tryd.prog 7 #[.string s] w (OfDone2 s w) := by
  by_cases h : IsT s
  · obtain ⟨⟨ep, xs⟩, hm, rfl⟩ := h
    have hep : epOf (chartV ep xs) = ep := rfl
    have hno : nodesOf (chartV ep xs) = xs := by
      show (xs.map V.num).map numOf = xs
      rw [List.map_map]
      have : numOf ∘ V.num = id := rfl
      rw [this, List.map_id]
    refine (cof_calls False _ _ hs (reads_chart ep xs hm) w ht).mono ?_
    rintro e w' ⟨hb, hq⟩
    rcases hq with ⟨h1, _⟩ | ⟨v, c, A, cp, ⟨rfl, _⟩, _, he, hC, hc⟩
    · exfalso
      rcases h1 with h1 | ⟨v, c, ⟨rfl, rfl⟩, h1⟩
      · exact h1
      · rcases h1 with h1 | h1
        · exact absurd h1 (Nat.lt_irrefl _)
        · exact h1 ⟨rfl, by rw [hep, hno]; exact hm, by rw [hep, hno]⟩
    · rw [hep, hno] at he
      rw [hno] at hC hc
      refine ⟨A, cp, ?_, ?_, ?_, hb⟩
      · rw [ofP_yes hm]; exact he
      · rw [ofP_yes hm]; exact hC
      · rw [ofP_yes hm]; exact hc
  · refine (cof_calls True _ _ hs (reads_any s hs) w ht).mono ?_
    rintro e w' ⟨hb, hq⟩
    rcases hq with ⟨_, h1⟩ | ⟨v, c, A, cp, _, hok, _⟩
    · refine ⟨none, 0, ?_, ?_, ?_, hb⟩
      · rw [ofP_no h]; exact h1
      · rw [ofP_no h]; exact ⟨rfl, by simp, fun h => by simp at h⟩
      · rw [ofP_no h]; exact Nat.le_refl _
    · exact absurd ⟨(epOf v, nodesOf v), hok.2.1, hok.2.2⟩ h
theorem rof_p (s : ByteArray) (hs : s.size ≤ 100000) : Evr (fun k => ploverref12_Of.f k s) (fun r => r = ofP s) := by
  by_cases h : IsT s
  · obtain ⟨⟨ep, xs⟩, hm, rfl⟩ := h
    rw [ofP_yes hm]
    exact rof_ok ep xs hm
  · rw [ofP_no h]
    refine (rof_any s hs).imp (fun r hr => ?_)
    rcases hr with ⟨ep, xs, h1, h2, _⟩ | hr
    · exact absurd ⟨(ep, xs), h1, h2⟩ h
    · exact hr
theorem rof (s : ByteArray) (hs : s.size ≤ 2048) (w : World) : Calls Tryd.prog 8 #[.string s] w (OfDone2 s w) := by
  obtain ⟨k, r, hk, rfl⟩ := (rof_p s (by omega)).get
  refine (ploverref12_Of.calls k s _ _ _ w hk).mono ?_
  rintro e w' ⟨v1, rfl, hR, hb⟩
  obtain ⟨A, c, rfl, hc, hC⟩ := Kd.R_reads hR
  exact ⟨A, c, rfl, hC, hc, hb⟩
theorem same2 (a b : Int) (xs ys : List Int) (A1 A2 : Option Addr) (c1 c2 : Nat) (w : World) (h1 : Kd.C (Kd.int .i64) w A1 xs.length xs) (hc1 : xs.length ≤ c1) (h2 : Kd.C (Kd.int .i64) w A2 ys.length ys) (hc2 : ys.length ≤ c2) (hx : xs.length ≤ 100000) :
    Calls Tryd.prog 9 #[.agg #[.int .i64 a, .slice A1 xs.length c1], .agg #[.int .i64 b, .slice A2 ys.length c2]] w fun e w' => e = .returned (.bool (decide (a = b ∧ xs = ys))) ∧ Below w.heap.size w w' :=
  ploverref12_Same.calls _ a A1 c1 xs b A2 c2 ys _ w h1 hc1 h2 hc2 (same_f a b xs ys (by omega))

/-! ### what texts must be -/
theorem may41 : mayB 4 [0, 1] = true := by decide
theorem lit41 : chartT 4 [0, 1] = ⟨#[108, 105, 52, 101, 108, 105, 48, 101, 105, 49, 101, 101, 101]⟩ := by
  unfold chartT chartV
  simp only [enc, encs, List.map_cons, List.map_nil]
  rw [show Go.Lib.decDigits (4 : Int).toNat = [52] by rw [Go.Lib.decDigits, dif_pos (by decide)]; rfl, show Go.Lib.decDigits (0 : Int).toNat = [48] by rw [Go.Lib.decDigits, dif_pos (by decide)]; rfl, show Go.Lib.decDigits (1 : Int).toNat = [49] by rw [Go.Lib.decDigits, dif_pos (by decide)]; rfl]
  rfl
theorem tx41 : txT 4 [0, 1] = ⟨#[108, 105, 52, 101, 108, 105, 48, 101, 105, 49, 101, 101, 101]⟩ := by
  unfold txT
  rw [may41, if_pos rfl, lit41]
theorem te41 : txE 4 [0, 1] = 0 := by
  unfold txE
  rw [may41, if_pos rfl]
theorem of41 : ofP ⟨#[108, 105, 52, 101, 108, 105, 48, 101, 105, 49, 101, 101, 101]⟩ = (4, [0, 1], 0) := by
  rw [← lit41]
  exact ofP_yes may41
theorem two_C (w : World) : Kd.C (Kd.int .i64) (w.alloc (.cells #[.int .i64 0, .int .i64 1] 3)) (some ⟨w.heap.size, 0, none⟩) 2 [0, 1] :=
  Kd.C_of_reads (d := (0 : Int)) ⟨rfl, by decide, fun _ => ⟨_, rfl, fun j hj => by
    rw [add_plain]
    refine (blk_cell (blk_new w _) j).trans ?_
    have : j = 0 ∨ j = 1 := by omega
    rcases this with rfl | rfl <;> rfl⟩⟩
set_option maxRecDepth 100000 in
set_option maxHeartbeats 4000000 in
theorem texts_calls (w : World) (ht : Tab w) : Calls Tryd.prog 4 #[] w fun e w' => e = .returned (.bool true) ∧ Below w.heap.size w w' := by
  have HT := Aside0.mk ht
  clear ht
  have HB0 := Aside0.mk (below_alloc (Below.refl w.heap.size w) (.cells #[.int .i64 0, .int .i64 1] 3))
  have HX := Aside0.mk (ctext 4 (some ⟨w.heap.size, 0, none⟩) 2 [0, 1] (w.alloc (.cells #[.int .i64 0, .int .i64 1] 3)) (two_C w) (by decide) (HT.out.below HB0.out))
  go_enter Tryd.func4, Tryd.ntmps4
  go_wp2_with fail
  refine HX.out.mono ?_
  rintro e w2 ⟨rfl, hb2⟩
  have HB2 := Aside0.mk (below_step HB0.out hb2)
  clear hb2 HX
  rw [tx41, te41]
  go_wp2_with fail
  refine (cof _ (by decide) w2 (HT.out.below HB2.out)).mono ?_
  rintro e w3 ⟨A, c, rfl, hC, hc, hb3⟩
  have HB3 := Aside0.mk (below_step HB2.out hb3)
  rw [of41] at hC hc ⊢
  have HC3 := Aside0.mk hC
  have hc2 : 2 ≤ c := hc
  clear hC hc hb3
  show _
  obtain ⟨p, hp⟩ : ∃ p, w3.heap.size = p := ⟨_, rfl⟩
  go_upto_region 3 with (fail)
  have hw4 : Below w3.heap.size w3 (w3.alloc (.cells #[.int .i64 4, .slice A 2 c] 24)) := below_alloc (Below.refl _ _) _
  have HP4 : Aside0 ((w3.alloc (.cells #[.int .i64 4, .slice A 2 c] 24)).heap[w3.heap.size]? = some (.cells #[.int .i64 4, .slice A 2 c] 24 (0, 0))) := ⟨blk_new _ _⟩
  have HW4 := Aside0.mk hw4
  generalize w3.alloc (.cells #[.int .i64 4, .slice A 2 c] 24) = w4 at hw4 HW4 HP4 ⊢
  rw [hp] at HP4
  have q0 : w4.cell? ⟨p, 0, none⟩ = some (.int .i64 4) := (blk_cell HP4.out 0).trans rfl
  have q1 : w4.cell? ⟨p, 1, none⟩ = some (.slice A 2 c) := (blk_cell HP4.out 1).trans rfl
  have HW5 := Aside0.mk (below_alloc (Below.refl w4.heap.size w4) (.cells #[.int .i64 0, .int .i64 1] 3))
  have HC5 : Aside0 (Kd.C (Kd.int .i64) (w4.alloc (.cells #[.int .i64 0, .int .i64 1] 3)) A 2 [0, 1]) := ⟨Kd.C_below (Kd.C_below HC3.out HW4.out) HW5.out⟩
  have HS := Aside0.mk (same2 4 4 [0, 1] [0, 1] A (some ⟨w4.heap.size, 0, none⟩) c 2 (w4.alloc (.cells #[.int .i64 0, .int .i64 1] 3)) HC5.out hc2 (two_C w4) (by decide) (by decide))
  have HB5 := Aside0.mk (below_step (below_step HB3.out HW4.out) HW5.out)
  clear hw4
  go_wp2_with fail
  refine HS.out.mono ?_
  rintro e w6 ⟨rfl, hb6⟩
  have HB6 := Aside0.mk (below_step HB5.out hb6)
  clear hb6 HS
  have hd : decide (True ∧ True) = true := rfl
  rw [hd]
  go_wp2_with fail
  go_ret
  exact ⟨rfl, HB6.out⟩

/-! ### the law -/
def LawDone (w : World) (e : Ending) (w' : World) : Prop := e = .returned (.bool true) ∧ Below w.heap.size w w'
set_option maxRecDepth 100000 in
set_option maxHeartbeats 4000000 in
theorem law_calls (ep : Int) (A : Option Addr) (c : Nat) (xs : List Int) (s : ByteArray) (w : World) (hr : Kd.C (Kd.int .i64) w A xs.length xs) (hc : xs.length ≤ c) (ht : Tab w) :
    Calls Tryd.prog 3 #[.agg #[.int .i64 ep, .slice A xs.length c], .string s] w (LawDone w) := by
  obtain ⟨N, hN⟩ : ∃ N, xs.length = N := ⟨_, rfl⟩
  have HN := Aside0.mk hN
  obtain ⟨w1, hw1⟩ : ∃ w1, w.alloc (.cells #[.int .i64 ep, .slice A N c] 24) = w1 := ⟨_, rfl⟩
  obtain ⟨p, hp⟩ : ∃ p, w.heap.size = p := ⟨_, rfl⟩
  have HB1 : Aside0 (Below w.heap.size w w1) := ⟨by rw [← hw1]; exact below_alloc (Below.refl _ _) _⟩
  have HP1 : Aside0 (w1.heap[p]? = some (.cells #[.int .i64 ep, .slice A N c] 24 (0, 0))) := ⟨by rw [← hw1, ← hp]; exact blk_new _ _⟩
  have HT := Aside0.mk ht
  have HC : Aside0 (Kd.C (Kd.int .i64) w A xs.length xs) := ⟨hr⟩
  rw [hN] at hc ⊢
  have c1 : w1.cell? ⟨p, 1, none⟩ = some (.slice A N c) := (blk_cell HP1.out 1).trans rfl
  have c0 : w1.cell? ⟨p, 0, none⟩ = some (.int .i64 ep) := (blk_cell HP1.out 0).trans rfl
  clear hr ht hN
  by_cases hbig : 100 < N
  · have hbig' : (100 : Int) < (N : Int) := by omega
    go_enter Tryd.func3, Tryd.ntmps3
    go_wp2_with fail
    refine (texts_calls w1 (HT.out.below HB1.out)).mono ?_
    rintro e w' ⟨rfl, hb⟩
    have HBZ := Aside0.mk (below_step HB1.out hb)
    clear hb
    go_wp2_with fail
    go_ret
    exact ⟨rfl, HBZ.out⟩
  · have hbig' : ¬ (100 : Int) < (N : Int) := by omega
    by_cases hsb : 2048 < s.size
    · have hsb' : (2048 : Int) < (s.size : Int) := by omega
      go_enter Tryd.func3, Tryd.ntmps3
      go_wp2_with fail
      refine (texts_calls w1 (HT.out.below HB1.out)).mono ?_
      rintro e w' ⟨rfl, hb⟩
      have HBZ := Aside0.mk (below_step HB1.out hb)
      clear hb
      go_wp2_with fail
      go_ret
      exact ⟨rfl, HBZ.out⟩
    · have hsb' : ¬ (2048 : Int) < (s.size : Int) := by omega
      obtain ⟨T, hT⟩ : ∃ T, txT ep xs = T := ⟨_, rfl⟩
      obtain ⟨E, hE⟩ : ∃ E, txE ep xs = E := ⟨_, rfl⟩
      obtain ⟨de, hde⟩ : ∃ de, (ofP s).1 = de := ⟨_, rfl⟩
      obtain ⟨ys, hys⟩ : ∃ ys, (ofP s).2.1 = ys := ⟨_, rfl⟩
      obtain ⟨M, hM⟩ : ∃ M, ys.length = M := ⟨_, rfl⟩
      obtain ⟨re, hre⟩ : ∃ re, (ofP s).2.2 = re := ⟨_, rfl⟩
      have HC1 : Aside0 (Kd.C (Kd.int .i64) w1 A xs.length xs) := ⟨Kd.C_below HC.out HB1.out⟩
      have HTX := Aside0.mk (ctext ep A c xs w1 HC1.out (by rw [HN.out]; omega) (HT.out.below HB1.out))
      rw [HN.out] at HTX
      go_enter Tryd.func3, Tryd.ntmps3
      go_wp2_with fail
      clear c0 c1
      refine HTX.out.mono ?_
      rintro e w2 ⟨rfl, hb2⟩
      have HX2 := Aside0.mk hb2
      have HB2 := Aside0.mk (below_step HB1.out hb2)
      have HP2 := Aside0.mk (blk_below HP1.out hb2)
      have HC2 : Aside0 (Kd.C (Kd.int .i64) w2 A xs.length xs) := ⟨Kd.C_below HC1.out hb2⟩
      rw [hT, hE]
      have HRT := Aside0.mk (rtext ep A c xs w2 HC2.out (by rw [HN.out]; exact hc) (by rw [HN.out]; omega))
      rw [HN.out] at HRT
      have c0 : w2.cell? ⟨p, 0, none⟩ = some (.int .i64 ep) := (blk_cell HP2.out 0).trans rfl
      have c1 : w2.cell? ⟨p, 1, none⟩ = some (.slice A N c) := (blk_cell HP2.out 1).trans rfl
      clear hb2 HTX
      go_wp2_with fail
      refine HRT.out.mono ?_
      rintro e w3 ⟨rfl, hb3⟩
      have HB3 := Aside0.mk (below_step HB2.out hb3)
      have HP3 := Aside0.mk (blk_below HP2.out hb3)
      have HC3 : Aside0 (Kd.C (Kd.int .i64) w3 A xs.length xs) := ⟨Kd.C_below HC2.out hb3⟩
      rw [hT, hE]
      clear hb3 HRT c0 c1
      go_wp2_with fail
      refine (cof s (by omega) w3 (HT.out.below HB3.out)).mono ?_
      rintro e w4 ⟨A4, k4, rfl, hC4, hk4, hb4⟩
      have HB4 := Aside0.mk (below_step HB3.out hb4)
      have HP4 := Aside0.mk (blk_below HP3.out hb4)
      have HC4 : Aside0 (Kd.C (Kd.int .i64) w4 A xs.length xs) := ⟨Kd.C_below HC3.out hb4⟩
      rw [hys, hM] at hC4 hk4
      rw [hde, hys, hM, hre]
      have HD4 := Aside0.mk hC4
      have HK4 := Aside0.mk hk4
      clear hb4 hC4 hk4
      obtain ⟨q, hq⟩ : ∃ q, w4.heap.size = q := ⟨_, rfl⟩
      go_upto_region 6 with (fail)
      have hw5 : Below w4.heap.size w4 (w4.alloc (.cells #[.int .i64 de, .slice A4 M k4] 24)) := below_alloc (Below.refl _ _) _
      have HQ5 : Aside0 ((w4.alloc (.cells #[.int .i64 de, .slice A4 M k4] 24)).heap[w4.heap.size]? = some (.cells #[.int .i64 de, .slice A4 M k4] 24 (0, 0))) := ⟨blk_new _ _⟩
      have HW5 := Aside0.mk hw5
      have HB5 := Aside0.mk (below_step HB4.out hw5)
      have HP5 := Aside0.mk (blk_below HP4.out hw5)
      have HD5 := Aside0.mk (Kd.C_below HD4.out hw5)
      have HC5 : Aside0 (Kd.C (Kd.int .i64) (w4.alloc (.cells #[.int .i64 de, .slice A4 M k4] 24)) A xs.length xs) := ⟨Kd.C_below HC4.out hw5⟩
      rw [hq] at HQ5
      generalize w4.alloc (.cells #[.int .i64 de, .slice A4 M k4] 24) = w5 at hw5 HQ5 HW5 HB5 HP5 HD5 HC5 ⊢
      clear hw5 hq
      go_wp2_with fail
      refine (rof s (by omega) w5).mono ?_
      rintro e w6 ⟨A6, k6, rfl, hC6, hk6, hb6⟩
      have HB6 := Aside0.mk (below_step HB5.out hb6)
      have HP6 := Aside0.mk (blk_below HP5.out hb6)
      have HQ6 := Aside0.mk (blk_below HQ5.out hb6)
      have HD6 := Aside0.mk (Kd.C_below HD5.out hb6)
      have HC6 : Aside0 (Kd.C (Kd.int .i64) w6 A xs.length xs) := ⟨Kd.C_below HC5.out hb6⟩
      rw [hys, hM] at hC6 hk6
      rw [hde, hys, hM, hre]
      have HG6 := Aside0.mk hC6
      have HK6 := Aside0.mk hk6
      clear hb6 hC6 hk6
      obtain ⟨r, hr⟩ : ∃ r, w6.heap.size = r := ⟨_, rfl⟩
      go_upto_region 7 with (fail)
      have hw7 : Below w6.heap.size w6 (w6.alloc (.cells #[.int .i64 de, .slice A6 M k6] 24)) := below_alloc (Below.refl _ _) _
      have HR7 : Aside0 ((w6.alloc (.cells #[.int .i64 de, .slice A6 M k6] 24)).heap[w6.heap.size]? = some (.cells #[.int .i64 de, .slice A6 M k6] 24 (0, 0))) := ⟨blk_new _ _⟩
      have HB7 := Aside0.mk (below_step HB6.out hw7)
      have HP7 := Aside0.mk (blk_below HP6.out hw7)
      have HQ7 := Aside0.mk (blk_below HQ6.out hw7)
      have HD7 := Aside0.mk (Kd.C_below HD6.out hw7)
      have HG7 := Aside0.mk (Kd.C_below HG6.out hw7)
      have HC7 : Aside0 (Kd.C (Kd.int .i64) (w6.alloc (.cells #[.int .i64 de, .slice A6 M k6] 24)) A xs.length xs) := ⟨Kd.C_below HC6.out hw7⟩
      rw [hr] at HR7
      generalize w6.alloc (.cells #[.int .i64 de, .slice A6 M k6] 24) = w7 at hw7 HR7 HB7 HP7 HQ7 HD7 HG7 HC7 ⊢
      clear hw7 hr
      have hys5 : ys.length ≤ 100000 := by rw [← hys]; exact ofP_len s
      have HS := Aside0.mk (same2 de de ys ys A4 A6 k4 k6 w7 (by rw [hM]; exact HD7.out) (by rw [hM]; exact HK4.out) (by rw [hM]; exact HG7.out) (by rw [hM]; exact HK6.out) hys5)
      rw [hM, decide_eq_true (⟨rfl, rfl⟩ : de = de ∧ ys = ys)] at HS
      have q0 : w7.cell? ⟨q, 0, none⟩ = some (.int .i64 de) := (blk_cell HQ7.out 0).trans rfl
      have q1 : w7.cell? ⟨q, 1, none⟩ = some (.slice A4 M k4) := (blk_cell HQ7.out 1).trans rfl
      have r0 : w7.cell? ⟨r, 0, none⟩ = some (.int .i64 de) := (blk_cell HR7.out 0).trans rfl
      have r1 : w7.cell? ⟨r, 1, none⟩ = some (.slice A6 M k6) := (blk_cell HR7.out 1).trans rfl
      have HHM := Aside0.mk hM
      have HTE := Aside0.mk hT
      have HEE := Aside0.mk hE
      clear hM hT hE hde hys hre hys5
      go_wp2_with fail
      refine HS.out.mono ?_
      rintro e w8 ⟨rfl, hb8⟩
      have HB8 := Aside0.mk (below_step HB7.out hb8)
      have HP8 := Aside0.mk (blk_below HP7.out hb8)
      have HC8 : Aside0 (Kd.C (Kd.int .i64) w8 A xs.length xs) := ⟨Kd.C_below HC7.out hb8⟩
      clear hb8 HS q0 q1 r0 r1
      cases hmay : mayB ep xs with
      | false =>
        have hE1 : E = 1 := by rw [← HEE.out]; unfold txE; rw [hmay]; rfl
        subst hE1
        go_wp2_with fail
        refine (texts_calls w8 (HT.out.below HB8.out)).mono ?_
        rintro e w' ⟨rfl, hb⟩
        have HBZ := Aside0.mk (below_step HB8.out hb)
        clear hb
        go_wp2_with fail
        go_ret
        exact ⟨rfl, HBZ.out⟩
      | true =>
        have hE0 : E = 0 := by rw [← HEE.out]; unfold txE; rw [hmay]; rfl
        subst hE0
        have hTT : T = chartT ep xs := by rw [← HTE.out]; unfold txT; rw [hmay, if_pos rfl]
        have hTs : T.size ≤ 2048 := by rw [hTT]; have := chart_size ep xs hmay; omega
        have HO : Aside0 (ofP T = (ep, xs, 0)) := ⟨by rw [hTT]; exact ofP_yes hmay⟩
        clear hmay hTT
        go_wp2_with fail
        refine (cof T hTs w8 (HT.out.below HB8.out)).mono ?_
        rintro e w9 ⟨A9, k9, rfl, hC9, hk9, hb9⟩
        have HB9 := Aside0.mk (below_step HB8.out hb9)
        have HP9 := Aside0.mk (blk_below HP8.out hb9)
        have HC9 : Aside0 (Kd.C (Kd.int .i64) w9 A xs.length xs) := ⟨Kd.C_below HC8.out hb9⟩
        rw [HO.out] at hC9 hk9 ⊢
        have HD9 : Aside0 (Kd.C (Kd.int .i64) w9 A9 xs.length xs) := ⟨hC9⟩
        have HK9 : Aside0 (xs.length ≤ k9) := ⟨hk9⟩
        clear hb9 hC9 hk9
        dsimp only
        rw [HN.out]
        obtain ⟨t, ht⟩ : ∃ t, w9.heap.size = t := ⟨_, rfl⟩
        go_upto_region 11 with (fail)
        have hwA : Below w9.heap.size w9 (w9.alloc (.cells #[.int .i64 ep, .slice A9 N k9] 24)) := below_alloc (Below.refl _ _) _
        have HTA : Aside0 ((w9.alloc (.cells #[.int .i64 ep, .slice A9 N k9] 24)).heap[w9.heap.size]? = some (.cells #[.int .i64 ep, .slice A9 N k9] 24 (0, 0))) := ⟨blk_new _ _⟩
        have HBA := Aside0.mk (below_step HB9.out hwA)
        have HPA := Aside0.mk (blk_below HP9.out hwA)
        have HDA := Aside0.mk (Kd.C_below HD9.out hwA)
        have HCA := Aside0.mk (Kd.C_below HC9.out hwA)
        rw [ht] at HTA
        generalize w9.alloc (.cells #[.int .i64 ep, .slice A9 N k9] 24) = wA at hwA HTA HBA HPA HDA HCA ⊢
        clear hwA ht
        have HS := Aside0.mk (same2 ep ep xs xs A A9 c k9 wA HCA.out (by rw [HN.out]; exact hc) HDA.out HK9.out (by rw [HN.out]; omega))
        rw [HN.out, decide_eq_true (⟨rfl, rfl⟩ : ep = ep ∧ xs = xs)] at HS
        have q0 : wA.cell? ⟨p, 0, none⟩ = some (.int .i64 ep) := (blk_cell HPA.out 0).trans rfl
        have q1 : wA.cell? ⟨p, 1, none⟩ = some (.slice A N c) := (blk_cell HPA.out 1).trans rfl
        have r0 : wA.cell? ⟨t, 0, none⟩ = some (.int .i64 ep) := (blk_cell HTA.out 0).trans rfl
        have r1 : wA.cell? ⟨t, 1, none⟩ = some (.slice A9 N k9) := (blk_cell HTA.out 1).trans rfl
        go_wp2_with fail
        refine HS.out.mono ?_
        rintro e wB ⟨rfl, hbB⟩
        have HBB := Aside0.mk (below_step HBA.out hbB)
        clear hbB HS q0 q1 r0 r1
        go_wp2_with fail
        refine (texts_calls wB (HT.out.below HBB.out)).mono ?_
        rintro e w' ⟨rfl, hb⟩
        have HBZ := Aside0.mk (below_step HBB.out hb)
        clear hb
        go_wp2_with fail
        go_ret
        exact ⟨rfl, HBZ.out⟩
end Go.Proofs.YtjhalgoondljgaaDoor.Re
