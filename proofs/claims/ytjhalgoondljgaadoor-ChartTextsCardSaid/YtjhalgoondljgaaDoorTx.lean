/- chart.Text: a chart as text, or that it may not be. -/
import Derived.Test.YtjhalgoondljgaaDoorPb
import Derived.Test.YtjhalgoondljgaaDoorChA
namespace Go.Proofs.YtjhalgoondljgaaDoor.Re
open Go.Lib (decDigits itoa_length_le itoa_nonneg byteCells_length byteCells_append strCells_eq)
open Go.RowKit PChartTexts Ch Go.Proofs.YtjhalgoondljgaaDoorW.PrintWords Go.Proofs.YtjhalgoondljgaaDoorW.PrintLast Go.Proofs.YtjhalgoondljgaaDoorW.PrintMore Base
set_option linter.unusedVariables false
set_option linter.unusedSimpArgs false

/-- A chart's value, and its text. -/
def chartV (ep : Int) (xs : List Int) : V := .list [.num ep, .list (xs.map .num)]
def chartT (ep : Int) (xs : List Int) : ByteArray := ⟨(enc (chartV ep xs)).toArray⟩
theorem chart_good (ep : Int) (xs : List Int) (h : mayB ep xs = true) : Good 2 (chartV ep xs) := by
  unfold mayB at h
  simp at h
  obtain ⟨⟨h1, h2, h3, h4⟩, h5⟩ := h
  refine .list 1 _ (fun x hx => ?_)
  rw [List.mem_cons, List.mem_singleton] at hx
  rcases hx with rfl | rfl
  · obtain ⟨n, rfl⟩ : ∃ n : Nat, ep = n := ⟨ep.toNat, by omega⟩
    exact .num 1 n (by omega)
  · refine .list 0 _ (fun x hx => ?_)
    obtain ⟨y, hy, rfl⟩ := List.mem_map.1 hx
    have := h5 y hy
    unfold oddB at this
    simp at this
    obtain ⟨n, rfl⟩ : ∃ n : Nat, y = n := ⟨y.toNat, by omega⟩
    exact .num 0 n (by omega)
theorem num_len {d : Nat} {n : Int} (h : Good d (.num n)) : (enc (.num n)).length ≤ 23 := by
  cases h with
  | num _ n hn =>
    rw [enc]
    have := itoa_length_le n (by omega) (by omega)
    rw [itoa_nonneg] at this
    simp
    omega
theorem nums_len {d : Nat} : ∀ (xs : List Int), (∀ x ∈ xs, Good d (.num x)) → (encs (xs.map .num)).length ≤ 23 * xs.length
  | [], _ => by simp [encs]
  | x :: xs, h => by
    have h1 := num_len (h x (by simp))
    have h2 := nums_len xs (fun y hy => h y (by simp [hy]))
    rw [List.map_cons, encs, List.length_append, List.length_cons]
    omega
theorem enc_list (l : List V) : enc (.list l) = 108 :: (encs l ++ [101]) := by rw [enc]
theorem encs_cons (v : V) (l : List V) : encs (v :: l) = enc v ++ encs l := by rw [encs]
theorem chart_len (ep : Int) (xs : List Int) (h : mayB ep xs = true) : (enc (chartV ep xs)).length ≤ 400 := by
  have hg := chart_good ep xs h
  unfold mayB at h
  simp at h
  obtain ⟨⟨h1, h2, h3, h4⟩, h5⟩ := h
  cases hg with
  | list _ _ hl =>
    have g1 := num_len (hl (.num ep) (by simp))
    have g2 := hl (.list (xs.map .num)) (by simp)
    cases g2 with
    | list _ _ hl2 =>
      have := nums_len xs (fun x hx => hl2 _ (List.mem_map_of_mem hx))
      unfold chartV
      rw [enc_list, encs_cons, encs_cons, encs, enc_list]
      simp only [List.length_cons, List.length_append, List.length_nil]
      omega

set_option maxRecDepth 100000 in
set_option maxHeartbeats 4000000 in
theorem text_no (ep : Int) (A : Option Addr) (c : Nat) (xs : List Int) (w : World) (hr : Kd.C (Kd.int .i64) w A xs.length xs) (hx : xs.length ≤ 9223372036854775807) (h : mayB ep xs = false) :
    Calls Tryd.prog 5 #[.agg #[.int .i64 ep, .slice A xs.length c]] w fun e w' => e = .returned (.tuple #[.string ⟨#[]⟩, .int .i64 1]) ∧ Below w.heap.size w w' := by
  have HR := Aside0.mk (Kd.C_below hr ((Below.refl _ w).alloc (Nat.le_refl _) (.cells #[.int .i64 ep, .slice A xs.length c] 24)))
  have HB := Aside0.mk (below_alloc (Below.refl w.heap.size w) (.cells #[.int .i64 ep, .slice A xs.length c] 24))
  have HC : Aside0 (ckI ep xs = 1) := ⟨by unfold ckI; rw [h]; rfl⟩
  obtain ⟨N, hN⟩ : ∃ N, xs.length = N := ⟨_, rfl⟩
  have HCK := Aside0.mk (check_calls ep A c xs (w.alloc (.cells #[.int .i64 ep, .slice A xs.length c] 24)) HR.out hx)
  rw [hN] at HCK HB ⊢
  rw [HC.out] at HCK
  clear hr h
  go_enter Tryd.func5, Tryd.ntmps5
  go_wp2_with fail
  refine HCK.out.mono ?_
  rintro e w2 ⟨rfl, hb2⟩
  have HB2 := Aside0.mk (below_step HB.out hb2)
  clear hb2
  go_wp2_with fail
  go_ret2
  exact ⟨rfl, HB2.out⟩

set_option maxRecDepth 100000 in
set_option maxHeartbeats 4000000 in
theorem text_ok (ep : Int) (A : Option Addr) (c : Nat) (xs : List Int) (w : World) (hr : Kd.C (Kd.int .i64) w A xs.length xs) (h : mayB ep xs = true) (ht : Tab w) :
    Calls Tryd.prog 5 #[.agg #[.int .i64 ep, .slice A xs.length c]] w fun e w' => e = .returned (.tuple #[.string (chartT ep xs), .int .i64 0]) ∧ Below w.heap.size w w' := by
  have hx16 : xs.length ≤ 16 := by unfold mayB at h; simp at h; exact h.1.2.2.2
  have HGD := Aside0.mk (chart_good ep xs h)
  have HLN := Aside0.mk (chart_len ep xs h)
  have HT := Aside0.mk ht
  have HR := Aside0.mk (Kd.C_below hr ((Below.refl _ w).alloc (Nat.le_refl _) (.cells #[.int .i64 ep, .slice A xs.length c] 24)))
  have HB := Aside0.mk (below_alloc (Below.refl w.heap.size w) (.cells #[.int .i64 ep, .slice A xs.length c] 24))
  have HP := Aside0.mk (blk_new w (.cells #[.int .i64 ep, .slice A xs.length c] 24))
  have HC : Aside0 (ckI ep xs = 0) := ⟨by unfold ckI; rw [h]; rfl⟩
  obtain ⟨N, hN⟩ : ∃ N, xs.length = N := ⟨_, rfl⟩
  have HN := Aside0.mk hN
  obtain ⟨p, hp⟩ : ∃ p, w.heap.size = p := ⟨_, rfl⟩
  have HPE := Aside0.mk hp
  have HCK := Aside0.mk (check_calls ep A c xs (w.alloc (.cells #[.int .i64 ep, .slice A xs.length c] 24)) HR.out (by omega))
  rw [hN] at HCK HB HP hx16 ⊢
  rw [HC.out] at HCK
  rw [hp] at HP
  clear hr h ht
  go_enter Tryd.func5, Tryd.ntmps5
  go_wp2_with fail
  refine HCK.out.mono ?_
  rintro e w2 ⟨rfl, hb2⟩
  have HB2 := Aside0.mk (below_step HB.out hb2)
  have HP2 := Aside0.mk (blk_below HP.out hb2)
  have HR2 : Aside0 (Kd.C (Kd.int .i64) w2 A N xs) := ⟨by rw [← HN.out]; exact Kd.C_below HR.out (by rw [HN.out]; exact hb2)⟩
  have r0 : w2.cell? ⟨p, 0, none⟩ = some (.int .i64 ep) := (blk_cell HP2.out 0).trans rfl
  have r1 : w2.cell? ⟨p, 1, none⟩ = some (.slice A N c) := (blk_cell HP2.out 1).trans rfl
  obtain ⟨B, hB⟩ : ∃ B, w2.heap.size = B := ⟨_, rfl⟩
  have hBs : p < B := by have := (blk_lt HP2.out); omega
  clear hb2 hN hp
  go_wp2_with fail
  go_loopw [5, 16] (fun l i wr => ∃ k : Nat, i = .int .i64 k ∧ k ≤ N ∧ Aside0 (Below B w2 wr) ∧ Aside0 (∃ q, wr.ownsRow B 36 4 l k (quad q k) ∧ ∀ j, j < k → (q j 0, q j 1, q j 2, q j 3) = (.int .i64 1, .int .i64 (rd xs (j : Int)), .string ⟨#[]⟩, .slice none 0 0))) (fun _ i _ => N - (intOf i).toNat)
  case atStart => exact ⟨0, rfl, by omega, ⟨Below.refl _ _⟩, ⟨fun _ _ => .nilIface, own_nil _ _ _ _, fun j hj => by omega⟩⟩
  case round =>
    obtain ⟨k, rfl, hk, HBW, HQ⟩ := hrel
    obtain ⟨q, hown, hq⟩ := HQ.out
    obtain ⟨Ad, cp, rfl⟩ := own_slice hown
    have HOW := Aside0.mk hown
    have HQ2 := Aside0.mk hq
    have HWW : Aside0 (Below w2.heap.size w2 wr) := ⟨HBW.out.mono (by omega)⟩
    clear hown hq HQ
    by_cases hlt : k < N
    · have hlt' : (k : Int) < (N : Int) := by omega
      have hk0 : (0 : Int) ≤ (k : Int) := by omega
      obtain ⟨ad, e1, hcell⟩ := at_nat (Kd.C_below HR2.out HWW.out) k hlt
      subst e1
      obtain ⟨i0, hi, hz0, hz1, hz2⟩ := info_parts info36
      have HI := Aside0.mk hi
      have HZ0 := Aside0.mk hz0
      have HZ1 := Aside0.mk hz1
      have HZ2 := Aside0.mk hz2
      obtain ⟨x, hx⟩ : ∃ x, rd xs (k : Int) = x := ⟨_, rfl⟩
      rw [hx] at hcell
      have HX := Aside0.mk hx
      clear hi hz0 hz1 hz2 hx
      go_wp2_with fail
      refine (int_calls x _).mono ?_
      rintro e w3 ⟨rfl, hw3⟩
      have hb3 : Below wr.heap.size wr w3 := by rw [hw3]; exact below_alloc (Below.refl _ _) _
      have HB3 := Aside0.mk hb3
      have HOW4 : Aside0 ((w3.alloc (.cells #[.int .i64 1, .int .i64 x, .string ⟨#[]⟩, .slice none 0 0] 36)).ownsRow B 36 4 (.slice Ad k cp) k (quad q k)) := ⟨pw_own_below HOW.out (below_alloc hb3 _)⟩
      have HNW : Aside0 (∀ (j : Nat) (u : Value), [(.int .i64 1 : Value), .int .i64 x, .string ⟨#[]⟩, .slice none 0 0][j]? = some u → (w3.alloc (.cells #[.int .i64 1, .int .i64 x, .string ⟨#[]⟩, .slice none 0 0] 36)).cell? ((⟨w3.heap.size, 0, none⟩ : Addr).add j) = some u) := ⟨fun j u hu => by
        rw [add_plain]
        refine (blk_cell (blk_new w3 _) j).trans ?_
        simpa using hu⟩
      have HSZ : Aside0 (B ≤ (w3.alloc (.cells #[.int .i64 1, .int .i64 x, .string ⟨#[]⟩, .slice none 0 0] 36)).heap.size) := ⟨by
        have h1 := HBW.out.size
        have h2 := (below_alloc hb3 (.cells #[.int .i64 1, .int .i64 x, .string ⟨#[]⟩, .slice none 0 0] 36)).size
        omega⟩
      clear hw3 hb3
      go_wp2_with (at_builtin; refine wpList_append_loc rfl _ _ 34 rfl B 36 i0 _ 4 56 Tryd.underlying34 HI.out HZ0.out HZ1.out HZ2.out rfl (by decide) (.slice Ad k cp) k (quad q k) rfl HOW4.out ⟨w3.heap.size, 0, none⟩ 1 1 [(.int .i64 1 : Value), .int .i64 x, .string ⟨#[]⟩, .slice none 0 0] rfl rfl HNW.out (by intro u hu; simp at hu; rcases hu with rfl | rfl | rfl | rfl <;> rfl) (k + 1) rfl (by unfold maxLen; omega) (by omega) HSZ.out ?_; intro A' c' w5 hown5 hgrow5 hloc5; have HO5 := Aside0.mk hown5; have HG5 := Aside0.mk hgrow5; clear hown5 hgrow5 hloc5)
      go_roundw
      case rel =>
        have hown := HOW.out
        refine ⟨k + 1, rfl, hlt, ⟨?_⟩, ⟨fun j t => if j < k then q j t else match t with | 0 => .int .i64 1 | 1 => .int .i64 x | 2 => .string ⟨#[]⟩ | _ => .slice none 0 0, ?_, fun j hj => ?_⟩⟩
        · have h1 : Below B w2 (w3.alloc (.cells #[.int .i64 1, .int .i64 x, .string ⟨#[]⟩, .slice none 0 0] 36)) := HBW.out.trans ((below_alloc HB3.out _).mono (by have := HBW.out.size; omega))
          exact pw_below_grown h1 _ HSZ.out HG5.out (fun i hi => own_base hown i hi)
        · have e : quad (fun j t => if j < k then q j t else match t with | 0 => .int .i64 1 | 1 => .int .i64 x | 2 => .string ⟨#[]⟩ | _ => .slice none 0 0) (k + 1) = quad q k ++ [.int .i64 1, .int .i64 x, .string ⟨#[]⟩, .slice none 0 0] := by
            rw [quad, quad_congr (r := q) (fun j hj t => if_pos hj)]
            simp
          rw [e]
          exact HO5.out
        · by_cases hjk : j < k
          · simp only [if_pos hjk]
            exact HQ2.out j hjk
          · have ej : j = k := by omega
            subst ej
            simp only [if_neg hjk, HX.out]
      case measure => simp [intOf]; omega
    · have ek : k = N := by omega
      subst ek
      have hlt' : ¬ (k : Int) < (k : Int) := by omega
      have r0 : wr.cell? ⟨p, 0, none⟩ = some (.int .i64 ep) := (blk_cell (blk_below HP2.out HWW.out) 0).trans rfl
      go_wp2_with fail
      refine (int_calls ep _).mono ?_
      rintro e w3 ⟨rfl, hw3⟩
      have hb3 : Below wr.heap.size wr w3 := by rw [hw3]; exact below_alloc (Below.refl _ _) _
      have HB3 := Aside0.mk hb3
      clear hw3 hb3 r0
      go_wp2_with fail
      refine (list_calls Ad k cp w3).mono ?_
      rintro e w4 ⟨rfl, hw4⟩
      have hb4 : Below wr.heap.size wr w4 := by rw [hw4]; exact below_alloc HB3.out _
      have HB4 := Aside0.mk hb4
      clear hw4 hb4
      go_wp2_with fail
      refine (list_calls _ 2 _ _).mono ?_
      rintro e w6 ⟨rfl, hw6⟩
      have hb6 : Below wr.heap.size wr w6 := by rw [hw6]; exact below_alloc (below_alloc HB4.out _) _
      have HB6 := Aside0.mk hb6
      have HG6 : Aside0 (w6.heap[w4.heap.size]? = some (.cells #[.int .i64 1, .int .i64 ep, .string ⟨#[]⟩, .slice none 0 0, .int .i64 3, .int .i64 0, .string ⟨#[]⟩, .slice Ad k cp] 36 (0, 0))) := ⟨by rw [hw6]; exact blk_alloc (blk_new w4 _) _⟩
      have HVL : Aside0 (VAt (fun _ => True) w6 (.list (xs.map .num)) (.int .i64 3) (.int .i64 0) (.string ⟨#[]⟩) (.slice Ad k cp)) := ⟨by
        have hl : (xs.map V.num).length = k := by rw [List.length_map]; exact HN.out
        have hown := HOW.out
        have hq := HQ2.out
        have hcap := own_quad_cap hown
        have h0 : ∀ j (hj : j < (xs.map V.num).length), VAt (fun _ => True) w6 (xs.map V.num)[j] (q j 0) (q j 1) (q j 2) (q j 3) := fun j hj => by
          have e := hq j (by omega)
          injection e with e1 e
          injection e with e2 e
          injection e with e3 e4
          rw [e1, e2, e3, e4, List.getElem_map]
          have : rd xs (j : Int) = xs[j]'(by rw [List.length_map] at hj; exact hj) := by
            unfold rd
            rw [Int.toNat_natCast, List.getD_eq_getElem?_getD, List.getElem?_eq_getElem (by rw [List.length_map] at hj; exact hj)]
            rfl
          rw [this]
          exact .num _
        have hA : (xs.map V.num) = [] ∨ ∃ g, Ad = some ⟨g, 0, none⟩ ∧ True ∧ ∀ i j, i < (xs.map V.num).length → j < 4 → w6.cell? ⟨g, i * 4 + j, none⟩ = some (q i j) := by
          rcases hown.2 with ⟨e1, e2⟩ | ⟨g', cap, cur, e1, hB, hg, _⟩
          · exact .inl (List.length_eq_zero_iff.1 (by omega))
          · injection e1 with e1 _ _
            subst e1
            refine .inr ⟨g', rfl, trivial, fun i j hi hj => ?_⟩
            have hcell := own_quad_cell hown (i * 4 + j) (q i j) (quad_at q k i j (by omega) hj)
            exact pw_cell_below hb6 hcell
        have := VAt.list (G := fun _ => True) (w := w6) (xs.map V.num) Ad cp q (by omega) (by omega) hA h0
        rwa [hl] at this⟩
      have HVO : Aside0 (VAt (fun _ => True) w6 (chartV ep xs) (.int .i64 3) (.int .i64 0) (.string ⟨#[]⟩) (.slice (some ⟨w4.heap.size, 0, none⟩) 2 2)) := ⟨by
        refine VAt.list (G := fun _ => True) [.num ep, .list (xs.map .num)] (some ⟨w4.heap.size, 0, none⟩) 2 (fun i j => (#[Value.int .i64 1, .int .i64 ep, .string ⟨#[]⟩, .slice none 0 0, .int .i64 3, .int .i64 0, .string ⟨#[]⟩, .slice Ad k cp] : Array Value).getD (i * 4 + j) .nilIface) (by simp) (by simp) (.inr ⟨_, rfl, trivial, fun i j hi hj => ?_⟩) (fun i hi => ?_)
        · have hi : i < 2 := hi
          refine (blk_cell HG6.out (i * 4 + j)).trans ?_
          have hi2 : i = 0 ∨ i = 1 := by omega
          have hj4 : j = 0 ∨ j = 1 ∨ j = 2 ∨ j = 3 := by omega
          rcases hi2 with rfl | rfl <;> rcases hj4 with rfl | rfl | rfl | rfl <;> rfl
        · have hi : i < 2 := hi
          have : i = 0 ∨ i = 1 := by omega
          rcases this with rfl | rfl
          · exact .num ep
          · exact HVL.out⟩
      have hz2 := HB2.out.size
      have hzr := HBW.out.size
      have HW6 : Aside0 (Below w.heap.size w w6) := ⟨(HB2.out.trans (HBW.out.mono (by omega))).trans (hb6.mono (by omega))⟩
      have HT6 : Aside0 (Tab w6) := ⟨HT.out.below HW6.out⟩
      clear hw6 hb6 hz2 hzr
      go_wp2_with fail
      refine (bput_calls HVO.out 2 HGD.out (by decide) (by have := HLN.out; omega) HT6.out).mono ?_
      rintro e w7 ⟨rfl, hb7⟩
      have HW7 := Aside0.mk (below_step HW6.out hb7)
      clear hb7
      show _
      rw [show (⟨(enc (chartV ep xs)).toArray⟩ : ByteArray) = chartT ep xs from rfl]
      obtain ⟨T, hT⟩ : ∃ T, chartT ep xs = T := ⟨_, rfl⟩
      rw [hT]
      go_wp2_with fail
      go_ret2
      exact ⟨by rw [hT]; rfl, HW7.out⟩
end Go.Proofs.YtjhalgoondljgaaDoor.Re
