/- The reference's Drop and Get, walked; the same numbers; New of what may not be. -/
import Derived.Test.YtealiaafdkhonaaRk
import Derived.Test.YtealiaafdkhonaaXf
import Derived.Test.YtealiaafdkhonaaNr
namespace Go.Proofs.Ytealiaafdkhonaa.Vp
open Go.RowKit Go.Sort Mb Base Go.Proofs.YtealiaafdkhonaaW.PrintWords Go.Proofs.YtealiaafdkhonaaW.PrintLast Go.Proofs.YtealiaafdkhonaaW.PrintMore
set_option linter.unusedVariables false
set_option linter.unusedSimpArgs false
theorem drop_plc (x : Int) : ∀ {L : List (Int × List Int)}, Rising L → dropL x L = if fnd x L = true then L.take (plc x L) ++ L.drop (plc x L + 1) else L
  | [], _ => rfl
  | p :: L, h => by
    have h' := List.pairwise_cons.1 h
    have hc : dropL x (p :: L) = if p.1 = x then dropL x L else p :: dropL x L := by
      unfold dropL
      by_cases e : p.1 = x
      · rw [if_pos e, List.filter_cons_of_neg (by simp [e])]
      · rw [if_neg e, List.filter_cons_of_pos (by simp [e])]
    by_cases h1 : p.1 < x
    · have e : plc x (p :: L) = plc x L + 1 := by show (if p.1 < x then _ else _) = _; rw [if_pos h1]
      have e2 : fnd x (p :: L) = fnd x L := by unfold fnd; rw [e, List.drop_succ_cons]
      rw [hc, if_neg (by omega), drop_plc x h'.2, e, e2, List.take_succ_cons, List.drop_succ_cons]
      split <;> rfl
    · have e : plc x (p :: L) = 0 := by show (if p.1 < x then _ else _) = _; rw [if_neg h1]
      have e2 : fnd x (p :: L) = (p.1 == x) := by unfold fnd; rw [e, List.drop_zero]
      have hn : ∀ q ∈ L, q.1 ≠ x := fun q hq => by have := h'.1 q hq; omega
      have hs : dropL x L = L := by
        unfold dropL
        exact List.filter_eq_self.2 (fun q hq => by simp [hn q hq])
      rw [hc, e, e2, hs]
      by_cases h2 : p.1 = x
      · rw [if_pos h2]
        simp [h2]
      · rw [if_neg h2]
        simp [h2]
theorem new_no (d : Int) (h1 : d < 1 ∨ 16 < d) (W : World) : Calls Try.prog 11 #[.int .i64 d] W fun e w' => e = .returned (.tuple #[.pointer none, .int .i64 1]) ∧ W = w' := by
  by_cases g1 : d < 1
  · go_enter Try.func11, Try.ntmps11
    go_wp2_with fail
    go_ret2
    exact ⟨rfl, rfl⟩
  · have g2 : 16 < d := by omega
    go_enter Try.func11, Try.ntmps11
    go_wp2_with fail
    go_ret2
    exact ⟨rfl, rfl⟩
theorem ints_l0 (a : List Int) (hm : a.length ≤ 1000000) (d : Nat) : ∀ (k n : Nat), n ≤ a.length → a.length - n = d → d < k → PVptreeNear.ploverref01_SameInts.l0 k a a (n : Int) = some true := by
  induction d with
  | zero =>
    intro k n h1 h2 h3
    obtain ⟨k, rfl⟩ : ∃ m, k = m + 1 := ⟨k - 1, by omega⟩
    simp only [PVptreeNear.ploverref01_SameInts.l0]
    rw [if_neg (by omega)]
  | succ d ih =>
    intro k n h1 h2 h3
    obtain ⟨k, rfl⟩ : ∃ m, k = m + 1 := ⟨k - 1, by omega⟩
    have hn : n < a.length := by omega
    simp only [PVptreeNear.ploverref01_SameInts.l0]
    rw [if_pos (by omega), if_pos (by omega), if_pos (by omega), if_pos trivial, wrap_succ hn (by omega), ih k (n + 1) (by omega) (by omega) (by omega)]
theorem ints_calls (A0 A1 : Option Addr) (c0 c1 : Nat) (a : List Int) (W : World) (h0 : Kd.C (Kd.int .i64) W A0 a.length a) (h1 : Kd.C (Kd.int .i64) W A1 a.length a) (hc0 : a.length ≤ c0) (hc1 : a.length ≤ c1) (hm : a.length ≤ 1000000) :
    Calls Try.prog 42 #[.slice A0 a.length c0, .slice A1 a.length c1] W fun e w' => e = .returned (.bool true) ∧ ∃ m, w' = W.drewN m := by
  have hf : PVptreeNear.ploverref01_SameInts.f (a.length + 1) a a = some true := by
    unfold PVptreeNear.ploverref01_SameInts.f
    rw [if_pos rfl]
    exact ints_l0 a hm a.length (a.length + 1) 0 (by omega) (by omega) (by omega)
  exact (PVptreeNear.ploverref01_SameInts.calls (a.length + 1) A0 c0 a A1 c1 a true W h0 hc0 h1 hc1 hf).mono fun e w' hh => ⟨hh.1, hh.2.out⟩
theorem place_any (W : World) (A : Option Addr) (c : Nat) (Q : List E) (h : Kd.C PVptreeNear.k37 W A Q.length ((Q.map pt).map s37) ∧ Q.length ≤ c) (hQ : Q.length ≤ 512) (id : Int) :
    Calls Try.prog 27 #[.slice A Q.length c, .int .i64 id] W fun e w' => e = .returned (.tuple #[.int .i64 (plc id (Q.map pt)), .bool (fnd id (Q.map pt))]) ∧ Drawn0 W w' := by
  have h1 := PVptreeNear.ploverref08_place.calls 600 A c ((Q.map pt).map s37) id _ _ W (by rw [List.length_map, List.length_map]; exact h.1) (by rw [List.length_map, List.length_map]; exact h.2) (place_f (Q.map pt) id (by simp; omega) 600 (by simp; omega))
  rw [List.length_map, List.length_map] at h1
  exact h1
structure RefDr (W : World) (d : Int) (val : Value) (was : Bool) (e : Ending) (w' : World) : Prop where
  ret : e = .returned (.tuple #[.agg #[.int .i64 d, val], .bool was])
  below : Below W.heap.size W w'
set_option maxRecDepth 100000 in
set_option maxHeartbeats 4000000 in
theorem ref_drop_no (W : World) (d : Int) (b : Nat) (A : Option Addr) (c : Nat) (Q : List E) (hown : W.ownsRow b 37 2 (.slice A Q.length c) Q.length (rowE Q)) (hv : VecsAt W Q) (hQ : Q.length ≤ 512) (id : Int) (hwas : fnd id (Q.map pt) = false) :
    Calls Try.prog 40 #[.agg #[.int .i64 d, .slice A Q.length c], .int .i64 id] W (RefDr W d (.slice A Q.length c) false) := by
  have hb1 := below_alloc (below_alloc (Below.refl W.heap.size W) (.cells #[.int .i64 d, .slice A Q.length c] 31)) (.cells #[.int .i64 0, .slice none 0 0] 31)
  obtain ⟨W1, hW1⟩ : ∃ W1, (W.alloc (.cells #[.int .i64 d, .slice A Q.length c] 31)).alloc (.cells #[.int .i64 0, .slice none 0 0] 31) = W1 := ⟨_, rfl⟩
  obtain ⟨b2, hb2⟩ : ∃ b2, W.heap.size = b2 := ⟨_, rfl⟩
  have hx2 : W1.heap[b2]? = some (.cells #[.int .i64 d, .slice A Q.length c] 31 (0, 0)) := by
    rw [← hW1, ← hb2]
    have h1 := blk_new W (.cells #[.int .i64 d, .slice A Q.length c] 31)
    exact blk_below h1 (below_alloc (Below.refl _ _) _)
  have hx4 : W1.heap[b2 + 1]? = some (.cells #[.int .i64 0, .slice none 0 0] 31 (0, 0)) := by
    rw [← hW1, ← hb2]
    have h1 := blk_new (W.alloc (.cells #[.int .i64 d, .slice A Q.length c] 31)) (.cells #[.int .i64 0, .slice none 0 0] 31)
    rw [World.size_alloc] at h1
    exact h1
  rw [hW1] at hb1
  have HB1 := Aside0.mk hb1
  have HX2 := Aside0.mk hx2
  have HX4 := Aside0.mk hx4
  have HW1 := Aside0.mk hW1
  have HB2 := Aside0.mk hb2
  have HPC := Aside0.mk (place_any W1 A c Q (row_C (own_keep hown hb1) (hv.below hb1) (by omega)) hQ id)
  rw [hwas] at HPC
  obtain ⟨k, hk⟩ : ∃ k, plc id (Q.map pt) = k := ⟨_, rfl⟩
  rw [hk] at HPC
  obtain ⟨n, hn⟩ : ∃ n, Q.length = n := ⟨_, rfl⟩
  rw [hn] at HPC HX2 HW1
  rw [hn]
  clear hb1 hx2 hx4 hW1 hb2 hown hv hwas hk hn hQ
  have p0 : W1.cell? ⟨b2, 0, none⟩ = some (.int .i64 d) := (blk_cell HX2.out 0).trans rfl
  have p1 : W1.cell? ⟨b2, 1, none⟩ = some (.slice A n c) := (blk_cell HX2.out 1).trans rfl
  have p4 : W1.cell? ⟨b2 + 1, 0, none⟩ = some (.int .i64 0) := (blk_cell HX4.out 0).trans rfl
  have p5 : W1.cell? ⟨b2 + 1, 1, none⟩ = some (.slice none 0 0) := (blk_cell HX4.out 1).trans rfl
  have z4 := blk_frozen HX4.out 0
  have z5 := blk_frozen HX4.out 1
  go_enter Try.func40, Try.ntmps40
  go_upto_region 1 with (fail)
  rw [HB2.out, HW1.out]
  go_wp2_with (go_at_call 27; refine HPC.out.mono ?_; rintro e w' ⟨rfl, hd⟩; obtain ⟨m2, rfl⟩ := hd.out; clear hd)
  refine bodyPost_ret (v := .tuple #[.agg #[.int .i64 d, .slice A n c], .bool false]) (by simp [results, Try.results40, go_sem, p4, p5]) rfl ⟨rfl, ?_⟩
  rw [HB2.out]
  exact Below.setCell (p := ⟨b2 + 1, 1, none⟩) (Below.setCell (p := ⟨b2 + 1, 0, none⟩) (by have h := pw_below_drewN HB1.out m2; rw [HB2.out] at h; exact h) (by show b2 ≤ b2 + 1; omega) _) (by show b2 ≤ b2 + 1; omega) _
structure RefDp (W : World) (d : Int) (Q' : List E) (e : Ending) (w' : World) : Prop where
  ex : ∃ val, e = .returned (.tuple #[.agg #[.int .i64 d, val], .bool true]) ∧ w'.ownsRow W.heap.size 37 2 val Q'.length (rowE Q')
  below : Below W.heap.size W w'
set_option maxRecDepth 100000 in
set_option maxHeartbeats 8000000 in
theorem ref_drop_yes (W : World) (d : Int) (b g c : Nat) (Q : List E) (hown : W.ownsRow b 37 2 (.slice (some ⟨g, 0, none⟩) Q.length c) Q.length (rowE Q)) (hv : VecsAt W Q) (hQ : Q.length ≤ 512) (id : Int) (hwas : fnd id (Q.map pt) = true) (hlt : plc id (Q.map pt) < Q.length) :
    Calls Try.prog 40 #[.agg #[.int .i64 d, .slice (some ⟨g, 0, none⟩) Q.length c], .int .i64 id] W (RefDp W d (Q.take (plc id (Q.map pt)) ++ Q.drop (plc id (Q.map pt) + 1))) := by
  have hb1 := below_alloc (below_alloc (Below.refl W.heap.size W) (.cells #[.int .i64 d, .slice (some ⟨g, 0, none⟩) Q.length c] 31)) (.cells #[.int .i64 0, .slice none 0 0] 31)
  obtain ⟨W1, hW1⟩ : ∃ W1, (W.alloc (.cells #[.int .i64 d, .slice (some ⟨g, 0, none⟩) Q.length c] 31)).alloc (.cells #[.int .i64 0, .slice none 0 0] 31) = W1 := ⟨_, rfl⟩
  obtain ⟨b2, hb2⟩ : ∃ b2, W.heap.size = b2 := ⟨_, rfl⟩
  have hx2 : W1.heap[b2]? = some (.cells #[.int .i64 d, .slice (some ⟨g, 0, none⟩) Q.length c] 31 (0, 0)) := by
    rw [← hW1, ← hb2]
    have h1 := blk_new W (.cells #[.int .i64 d, .slice (some ⟨g, 0, none⟩) Q.length c] 31)
    exact blk_below h1 (below_alloc (Below.refl _ _) _)
  have hx4 : W1.heap[b2 + 1]? = some (.cells #[.int .i64 0, .slice none 0 0] 31 (0, 0)) := by
    rw [← hW1, ← hb2]
    have h1 := blk_new (W.alloc (.cells #[.int .i64 d, .slice (some ⟨g, 0, none⟩) Q.length c] 31)) (.cells #[.int .i64 0, .slice none 0 0] 31)
    rw [World.size_alloc] at h1
    exact h1
  rw [hW1] at hb1
  have HB1 := Aside0.mk hb1
  have HX2 := Aside0.mk hx2
  have HX4 := Aside0.mk hx4
  have HW1 := Aside0.mk hW1
  have HB2 := Aside0.mk hb2
  have HPC := Aside0.mk (place_any W1 _ c Q (row_C (own_keep hown hb1) (hv.below hb1) (by omega)) hQ id)
  rw [hwas] at HPC
  have HOW := Aside0.mk (own_keep hown hb1)
  have HV := Aside0.mk (hv.below hb1)
  have HNC : Aside0 (Q.length ≤ c) := ⟨own_le hown⟩
  obtain ⟨k, hk⟩ : ∃ k, plc id (Q.map pt) = k := ⟨_, rfl⟩
  rw [hk] at HPC hlt
  rw [hk]
  obtain ⟨n, hn⟩ : ∃ n, Q.length = n := ⟨_, rfl⟩
  have HN := Aside0.mk hn
  rw [hn] at HPC HX2 HW1 HNC hQ hlt
  rw [hn]
  clear hb1 hx2 hx4 hW1 hb2 hown hv hwas hk hn
  have p0 : W1.cell? ⟨b2, 0, none⟩ = some (.int .i64 d) := (blk_cell HX2.out 0).trans rfl
  have p1 : W1.cell? ⟨b2, 1, none⟩ = some (.slice (some ⟨g, 0, none⟩) n c) := (blk_cell HX2.out 1).trans rfl
  have p4 : W1.cell? ⟨b2 + 1, 0, none⟩ = some (.int .i64 0) := (blk_cell HX4.out 0).trans rfl
  have p5 : W1.cell? ⟨b2 + 1, 1, none⟩ = some (.slice none 0 0) := (blk_cell HX4.out 1).trans rfl
  have z4 := blk_frozen HX4.out 0
  have z5 := blk_frozen HX4.out 1
  clear p4 p5 z4 z5
  go_enter Try.func40, Try.ntmps40
  go_upto_region 1 with (fail)
  rw [HB2.out, HW1.out]
  go_upto_region 4 with (go_at_call 27; refine HPC.out.mono ?_; rintro e w' ⟨rfl, hd⟩; obtain ⟨m2, rfl⟩ := hd.out; clear hd)
  obtain ⟨W3, hW3⟩ : ∃ W3, W1.drewN m2 = W3 := ⟨_, rfl⟩
  have hb3 : RowKit.Below W1.heap.size W1 W3 := by rw [← hW3]; exact pw_below_drewN (Below.refl _ _) _
  have HB3 : Aside0 (RowKit.Below b2 W W3) := ⟨by rw [← HB2.out]; exact below_step HB1.out hb3⟩
  have HX2' := Aside0.mk (blk_below HX2.out hb3)
  have HX4' := Aside0.mk (blk_below HX4.out hb3)
  have hown3 := own_keep HOW.out hb3
  rw [HN.out] at hown3
  have HOWN := Aside0.mk hown3
  have HV3 := Aside0.mk (HV.out.below hb3)
  rw [hW3]
  clear p0 p1 HPC hb3 hW3 hown3
  have p1 : W3.cell? ⟨b2, 1, none⟩ = some (.slice (some ⟨g, 0, none⟩) n c) := (blk_cell HX2'.out 1).trans rfl
  have hk0 : (0 : Int) ≤ (k : Int) := by omega
  have hkn : (k : Int) ≤ (n : Int) := by omega
  have hkc : (k : Int) ≤ (c : Int) := by have := HNC.out; omega
  have hnc : (n : Int) ≤ (c : Int) := by have := HNC.out; omega
  have hk2 : (k : Int) + 1 ≤ (n : Int) := by omega
  obtain ⟨z, hz⟩ : ∃ z, W3.heap.size = z := ⟨_, rfl⟩
  have HZ := Aside0.mk hz
  clear hz
  by_cases hend : k + 1 = c
  · subst hend
    have HSD : Aside0 (SrcAt W3 (some ⟨g, 0, none⟩) (Q.length - (k + 1)) 0 (rowE (Q.drop (k + 1)))) := ⟨src_end (by rw [HN.out]; first | omega | (have := HNC.out; omega)) _⟩
    rw [HN.out] at HSD
    have HST : Aside0 (SrcAt W3 (some ⟨g, 0, none⟩) k (k + 1) (rowE (Q.take k))) := ⟨src_take (c := (k + 1)) (b := b) (by rw [HN.out]; exact HOWN.out) k (by rw [HN.out]; omega) (k + 1)⟩
    have HB0 : Aside0 (RowKit.Below z W3 W3) := ⟨Below.refl _ _⟩
    go_upto_region 6 with (at_builtin; refine wpList_append_src rfl _ _ rfl z (.slice none 0 0) 0 [] rfl (own_nil _ _ _ _) (some ⟨g, 0, none⟩) k (k + 1) (rowE (Q.take k)) (by rfl) HST.out (HV3.out.sub (fun q hq => List.mem_of_mem_take hq)).one k (by omega) (by omega) (by rw [HZ.out]; exact Nat.le_refl _) ?_; intro A4 c4 w4 hown4 hg4; have HO4 := Aside0.mk hown4; have HB4 : Aside0 (RowKit.Below z W3 w4) := ⟨HB0.out.grown hg4 (by rw [HZ.out]; exact Nat.le_refl _) (fun j hj => by cases hj)⟩; clear hown4 hg4)
    have hb4 : RowKit.Below W3.heap.size W3 w4 := by rw [HZ.out]; exact HB4.out
    have HZ4 : Aside0 (z ≤ w4.heap.size) := ⟨by rw [← HZ.out]; exact hb4.size⟩
    have HS4 := Aside0.mk (HSD.out.below hb4)
    have p1b : w4.cell? ⟨b2, 1, none⟩ = some (.slice (some ⟨g, 0, none⟩) n (k + 1)) := (blk_cell (blk_below HX2'.out hb4) 1).trans rfl
    clear hb4 p1
    go_upto_region 7 with (at_builtin; refine wpList_append_src rfl _ _ rfl z (.slice A4 k c4) k ([] ++ rowE (Q.take k)) (by rfl) HO4.out (some ⟨g, 0, none⟩) (n - (k + 1)) 0 (rowE (Q.drop (k + 1))) (by rfl) HS4.out (HV3.out.sub (fun q hq => List.mem_of_mem_drop hq)).one (k + (n - (k + 1))) rfl (by omega) HZ4.out ?_; intro A6 c6 w6 hown6 hg6; have HO6 := Aside0.mk hown6; have HB6 : Aside0 (RowKit.Below z W3 w6) := ⟨HB4.out.grown hg6 HZ4.out (fun j hj => own_base HO4.out j hj)⟩; clear hown6 hg6; have y0 : w6.cell? ⟨b2, 1, none⟩ = some (.slice (some ⟨g, 0, none⟩) n (k + 1)) := (blk_cell (blk_below HX2'.out (by rw [HZ.out]; exact HB6.out)) 1).trans rfl; have y1 : w6.frozen? ⟨b2, 1, none⟩ = false := blk_frozen (blk_below HX2'.out (by rw [HZ.out]; exact HB6.out)) 1)
    clear y0 y1 p1b
    have hb6 : RowKit.Below W3.heap.size W3 w6 := by rw [HZ.out]; exact HB6.out
    obtain ⟨w7, hw7⟩ : ∃ w7, w6.setCell ⟨b2, 1, none⟩ (.slice A6 (k + (n - (k + 1))) c6) = w7 := ⟨_, rfl⟩
    have HY2 : Aside0 (w7.heap[b2]? = some (.cells #[.int .i64 d, .slice A6 (k + (n - (k + 1))) c6] 31 (0, 0))) := ⟨by rw [← hw7]; exact (blk_set (blk_below HX2'.out hb6) 1 _).trans rfl⟩
    have HY4 : Aside0 (w7.heap[b2 + 1]? = some (.cells #[.int .i64 0, .slice none 0 0] 31 (0, 0))) := ⟨by rw [← hw7]; exact blk_far (blk_below HX4'.out hb6) (p := ⟨b2, 1, none⟩) (by show b2 + 1 ≠ b2; omega) _⟩
    have HZB : Aside0 (b2 + 1 < z) := ⟨by rw [← HZ.out]; exact blk_lt HX4'.out⟩
    have HO7 : Aside0 (w7.ownsRow z 37 2 (.slice A6 (k + (n - (k + 1))) c6) (k + (n - (k + 1))) ([] ++ rowE (Q.take k) ++ rowE (Q.drop (k + 1)))) := ⟨by rw [← hw7]; exact own_setCell HO6.out (p := ⟨b2, 1, none⟩) (fun e => by have h9 := own_base HO6.out _ e.symm; dsimp only at h9; have := HZB.out; omega) _⟩
    have HB7 : Aside0 (RowKit.Below b2 W w7) := ⟨by rw [← hw7]; exact Below.setCell (p := ⟨b2, 1, none⟩) (below_cat HB3.out (HB6.out.mono (by have := HZB.out; omega))) (Nat.le_refl _) _⟩
    rw [hw7]
    clear hb6 hw7
    have u0 : w7.cell? ⟨b2, 0, none⟩ = some (.int .i64 d) := (blk_cell HY2.out 0).trans rfl
    have u1 : w7.cell? ⟨b2, 1, none⟩ = some (.slice A6 (k + (n - (k + 1))) c6) := (blk_cell HY2.out 1).trans rfl
    have u2 : w7.cell? ⟨b2 + 1, 0, none⟩ = some (.int .i64 0) := (blk_cell HY4.out 0).trans rfl
    have u3 : w7.cell? ⟨b2 + 1, 1, none⟩ = some (.slice none 0 0) := (blk_cell HY4.out 1).trans rfl
    have u4 := blk_frozen HY4.out 0
    have u5 := blk_frozen HY4.out 1
    go_wp2_with fail
    refine bodyPost_ret (v := .tuple #[.agg #[.int .i64 d, .slice A6 (k + (n - (k + 1))) c6], .bool true]) (by simp [results, Try.results40, go_sem, u2, u3]) rfl ⟨⟨_, rfl, ?_⟩, ?_⟩
    · rw [HB2.out]
      have hl : (Q.take k ++ Q.drop (k + 1)).length = k + (n - (k + 1)) := by rw [List.length_append, List.length_take, List.length_drop, HN.out]; omega
      have hr : rowE (Q.take k ++ Q.drop (k + 1)) = [] ++ rowE (Q.take k) ++ rowE (Q.drop (k + 1)) := by rw [rowE_app, List.nil_append]
      show ((w7.setCell _ _).setCell _ _).ownsRow _ _ _ _ (Q.take k ++ Q.drop (k + 1)).length (rowE (Q.take k ++ Q.drop (k + 1)))
      rw [hl, hr]
      have h1 := own_less HO7.out (base := b2) (by have := HZB.out; omega)
      have hne : ∀ o : Nat, some (⟨b2 + 1, o, none⟩ : Addr).block ≠ (Value.slice A6 (k + (n - (k + 1))) c6).ownBlock := fun o e => by have := own_base HO7.out _ e.symm; have := HZB.out; dsimp only at *; omega
      exact own_setCell (own_setCell h1 (hne 0) _) (hne 1) _
    · rw [HB2.out]
      exact Below.setCell (p := ⟨b2 + 1, 1, none⟩) (Below.setCell (p := ⟨b2 + 1, 0, none⟩) HB7.out (by show b2 ≤ b2 + 1; omega) _) (by show b2 ≤ b2 + 1; omega) _
  · have hend' : (k : Int) + 1 < (c : Int) := by have := HNC.out; omega
    have HSD : Aside0 (SrcAt W3 (some ⟨g, (k + 1) * 2, none⟩) (Q.length - (k + 1)) (c - (k + 1)) (rowE (Q.drop (k + 1)))) := ⟨by have h1 := src_drop (c := c) (b := b) (W := W3) (g := g) (Q := Q) (by rw [HN.out]; exact HOWN.out) (k + 1) (by rw [HN.out]; omega) (c - (k + 1)); rw [add_at, Nat.zero_add] at h1; exact h1⟩
    rw [HN.out] at HSD
    have HST : Aside0 (SrcAt W3 (some ⟨g, 0, none⟩) k c (rowE (Q.take k))) := ⟨src_take (c := c) (b := b) (by rw [HN.out]; exact HOWN.out) k (by rw [HN.out]; omega) c⟩
    have HB0 : Aside0 (RowKit.Below z W3 W3) := ⟨Below.refl _ _⟩
    go_upto_region 6 with (at_builtin; refine wpList_append_src rfl _ _ rfl z (.slice none 0 0) 0 [] rfl (own_nil _ _ _ _) (some ⟨g, 0, none⟩) k c (rowE (Q.take k)) (by rfl) HST.out (HV3.out.sub (fun q hq => List.mem_of_mem_take hq)).one k (by omega) (by omega) (by rw [HZ.out]; exact Nat.le_refl _) ?_; intro A4 c4 w4 hown4 hg4; have HO4 := Aside0.mk hown4; have HB4 : Aside0 (RowKit.Below z W3 w4) := ⟨HB0.out.grown hg4 (by rw [HZ.out]; exact Nat.le_refl _) (fun j hj => by cases hj)⟩; clear hown4 hg4)
    have hb4 : RowKit.Below W3.heap.size W3 w4 := by rw [HZ.out]; exact HB4.out
    have HZ4 : Aside0 (z ≤ w4.heap.size) := ⟨by rw [← HZ.out]; exact hb4.size⟩
    have HS4 := Aside0.mk (HSD.out.below hb4)
    have p1b : w4.cell? ⟨b2, 1, none⟩ = some (.slice (some ⟨g, 0, none⟩) n c) := (blk_cell (blk_below HX2'.out hb4) 1).trans rfl
    clear hb4 p1
    go_upto_region 7 with (at_builtin; refine wpList_append_src rfl _ _ rfl z (.slice A4 k c4) k ([] ++ rowE (Q.take k)) (by rfl) HO4.out (some ⟨g, (k + 1) * 2, none⟩) (n - (k + 1)) (c - (k + 1)) (rowE (Q.drop (k + 1))) (by rfl) HS4.out (HV3.out.sub (fun q hq => List.mem_of_mem_drop hq)).one (k + (n - (k + 1))) rfl (by omega) HZ4.out ?_; intro A6 c6 w6 hown6 hg6; have HO6 := Aside0.mk hown6; have HB6 : Aside0 (RowKit.Below z W3 w6) := ⟨HB4.out.grown hg6 HZ4.out (fun j hj => own_base HO4.out j hj)⟩; clear hown6 hg6; have y0 : w6.cell? ⟨b2, 1, none⟩ = some (.slice (some ⟨g, 0, none⟩) n c) := (blk_cell (blk_below HX2'.out (by rw [HZ.out]; exact HB6.out)) 1).trans rfl; have y1 : w6.frozen? ⟨b2, 1, none⟩ = false := blk_frozen (blk_below HX2'.out (by rw [HZ.out]; exact HB6.out)) 1)
    clear y0 y1 p1b
    have hb6 : RowKit.Below W3.heap.size W3 w6 := by rw [HZ.out]; exact HB6.out
    obtain ⟨w7, hw7⟩ : ∃ w7, w6.setCell ⟨b2, 1, none⟩ (.slice A6 (k + (n - (k + 1))) c6) = w7 := ⟨_, rfl⟩
    have HY2 : Aside0 (w7.heap[b2]? = some (.cells #[.int .i64 d, .slice A6 (k + (n - (k + 1))) c6] 31 (0, 0))) := ⟨by rw [← hw7]; exact (blk_set (blk_below HX2'.out hb6) 1 _).trans rfl⟩
    have HY4 : Aside0 (w7.heap[b2 + 1]? = some (.cells #[.int .i64 0, .slice none 0 0] 31 (0, 0))) := ⟨by rw [← hw7]; exact blk_far (blk_below HX4'.out hb6) (p := ⟨b2, 1, none⟩) (by show b2 + 1 ≠ b2; omega) _⟩
    have HZB : Aside0 (b2 + 1 < z) := ⟨by rw [← HZ.out]; exact blk_lt HX4'.out⟩
    have HO7 : Aside0 (w7.ownsRow z 37 2 (.slice A6 (k + (n - (k + 1))) c6) (k + (n - (k + 1))) ([] ++ rowE (Q.take k) ++ rowE (Q.drop (k + 1)))) := ⟨by rw [← hw7]; exact own_setCell HO6.out (p := ⟨b2, 1, none⟩) (fun e => by have h9 := own_base HO6.out _ e.symm; dsimp only at h9; have := HZB.out; omega) _⟩
    have HB7 : Aside0 (RowKit.Below b2 W w7) := ⟨by rw [← hw7]; exact Below.setCell (p := ⟨b2, 1, none⟩) (below_cat HB3.out (HB6.out.mono (by have := HZB.out; omega))) (Nat.le_refl _) _⟩
    rw [hw7]
    clear hb6 hw7
    have u0 : w7.cell? ⟨b2, 0, none⟩ = some (.int .i64 d) := (blk_cell HY2.out 0).trans rfl
    have u1 : w7.cell? ⟨b2, 1, none⟩ = some (.slice A6 (k + (n - (k + 1))) c6) := (blk_cell HY2.out 1).trans rfl
    have u2 : w7.cell? ⟨b2 + 1, 0, none⟩ = some (.int .i64 0) := (blk_cell HY4.out 0).trans rfl
    have u3 : w7.cell? ⟨b2 + 1, 1, none⟩ = some (.slice none 0 0) := (blk_cell HY4.out 1).trans rfl
    have u4 := blk_frozen HY4.out 0
    have u5 := blk_frozen HY4.out 1
    go_wp2_with fail
    refine bodyPost_ret (v := .tuple #[.agg #[.int .i64 d, .slice A6 (k + (n - (k + 1))) c6], .bool true]) (by simp [results, Try.results40, go_sem, u2, u3]) rfl ⟨⟨_, rfl, ?_⟩, ?_⟩
    · rw [HB2.out]
      have hl : (Q.take k ++ Q.drop (k + 1)).length = k + (n - (k + 1)) := by rw [List.length_append, List.length_take, List.length_drop, HN.out]; omega
      have hr : rowE (Q.take k ++ Q.drop (k + 1)) = [] ++ rowE (Q.take k) ++ rowE (Q.drop (k + 1)) := by rw [rowE_app, List.nil_append]
      show ((w7.setCell _ _).setCell _ _).ownsRow _ _ _ _ (Q.take k ++ Q.drop (k + 1)).length (rowE (Q.take k ++ Q.drop (k + 1)))
      rw [hl, hr]
      have h1 := own_less HO7.out (base := b2) (by have := HZB.out; omega)
      have hne : ∀ o : Nat, some (⟨b2 + 1, o, none⟩ : Addr).block ≠ (Value.slice A6 (k + (n - (k + 1))) c6).ownBlock := fun o e => by have := own_base HO7.out _ e.symm; have := HZB.out; dsimp only at *; omega
      exact own_setCell (own_setCell h1 (hne 0) _) (hne 1) _
    · rw [HB2.out]
      exact Below.setCell (p := ⟨b2 + 1, 1, none⟩) (Below.setCell (p := ⟨b2 + 1, 0, none⟩) HB7.out (by show b2 ≤ b2 + 1; omega) _) (by show b2 ≤ b2 + 1; omega) _
structure RefGt (W : World) (A : Option Addr) (n c : Nat) (err : Int) (e : Ending) (w' : World) : Prop where
  ret : e = .returned (.tuple #[.slice A n c, .int .i64 err])
  below : Below W.heap.size W w'
set_option maxRecDepth 100000 in
set_option maxHeartbeats 4000000 in
theorem ref_get_no (W : World) (d : Int) (b : Nat) (A : Option Addr) (c : Nat) (Q : List E) (hown : W.ownsRow b 37 2 (.slice A Q.length c) Q.length (rowE Q)) (hv : VecsAt W Q) (hQ : Q.length ≤ 512) (id : Int) (hwas : fnd id (Q.map pt) = false) :
    Calls Try.prog 41 #[.agg #[.int .i64 d, .slice A Q.length c], .int .i64 id] W (RefGt W none 0 0 3) := by
  have hb1 := below_alloc (Below.refl W.heap.size W) (.cells #[.int .i64 d, .slice A Q.length c] 31)
  have HB1 := Aside0.mk hb1
  have hx2 := blk_new W (.cells #[.int .i64 d, .slice A Q.length c] 31)
  have HPC := Aside0.mk (place_any (W.alloc (.cells #[.int .i64 d, .slice A Q.length c] 31)) A c Q (row_C (own_keep hown hb1) (hv.below hb1) (by omega)) hQ id)
  rw [hwas] at HPC
  have p1 : (W.alloc (.cells #[.int .i64 d, .slice A Q.length c] 31)).cell? ⟨W.heap.size, 1, none⟩ = some (.slice A Q.length c) := (blk_cell hx2 1).trans rfl
  obtain ⟨k, hk⟩ : ∃ k, plc id (Q.map pt) = k := ⟨_, rfl⟩
  rw [hk] at HPC
  obtain ⟨n, hn⟩ : ∃ n, Q.length = n := ⟨_, rfl⟩
  rw [hn] at HPC HB1 p1
  rw [hn]
  clear hb1 hx2 hown hv hwas hk hn hQ
  go_enter Try.func41, Try.ntmps41
  go_wp2_with (go_at_call 27; refine HPC.out.mono ?_; rintro e w' ⟨rfl, hd⟩; obtain ⟨m2, rfl⟩ := hd.out; clear hd)
  go_ret2
  exact ⟨rfl, pw_below_drewN HB1.out m2⟩
set_option maxRecDepth 100000 in
set_option maxHeartbeats 4000000 in
theorem ref_get_yes (W : World) (d : Int) (b g c : Nat) (Q : List E) (hown : W.ownsRow b 37 2 (.slice (some ⟨g, 0, none⟩) Q.length c) Q.length (rowE Q)) (hv : VecsAt W Q) (hQ : Q.length ≤ 512) (id : Int) (hwas : fnd id (Q.map pt) = true) (hlt : plc id (Q.map pt) < Q.length) (Aq : Option Addr) (cq m : Nat) (he : (Q.getD (plc id (Q.map pt)) dE).2.2 = .slice Aq m cq) :
    Calls Try.prog 41 #[.agg #[.int .i64 d, .slice (some ⟨g, 0, none⟩) Q.length c], .int .i64 id] W (RefGt W Aq m cq 0) := by
  have hb1 := below_alloc (Below.refl W.heap.size W) (.cells #[.int .i64 d, .slice (some ⟨g, 0, none⟩) Q.length c] 31)
  have HB1 := Aside0.mk hb1
  have hx2 := blk_new W (.cells #[.int .i64 d, .slice (some ⟨g, 0, none⟩) Q.length c] 31)
  have HPC := Aside0.mk (place_any (W.alloc (.cells #[.int .i64 d, .slice (some ⟨g, 0, none⟩) Q.length c] 31)) _ c Q (row_C (own_keep hown hb1) (hv.below hb1) (by omega)) hQ id)
  rw [hwas] at HPC
  have p1 : (W.alloc (.cells #[.int .i64 d, .slice (some ⟨g, 0, none⟩) Q.length c] 31)).cell? ⟨W.heap.size, 1, none⟩ = some (.slice (some ⟨g, 0, none⟩) Q.length c) := (blk_cell hx2 1).trans rfl
  have hcell := own_cell (own_keep hown hb1) _ _ (rowE_at Q _ hlt).2
  rw [he] at hcell
  obtain ⟨k, hk⟩ : ∃ k, plc id (Q.map pt) = k := ⟨_, rfl⟩
  rw [hk] at HPC hcell hlt
  obtain ⟨n, hn⟩ : ∃ n, Q.length = n := ⟨_, rfl⟩
  rw [hn] at HPC HB1 p1 hcell hlt
  rw [hn]
  have hk0 : (0 : Int) ≤ (k : Int) := by omega
  have hkn : (k : Int) < (n : Int) := by omega
  clear hb1 hx2 hown hv hwas hk hn hQ he
  go_enter Try.func41, Try.ntmps41
  go_wp2_with (go_at_call 27; refine HPC.out.mono ?_; rintro e w' ⟨rfl, hd⟩; obtain ⟨m2, rfl⟩ := hd.out; clear hd)
  go_ret2
  exact ⟨rfl, pw_below_drewN HB1.out m2⟩
structure RefDropped (W0 W : World) (d : Int) (L : List (Int × List Int)) (was : Bool) (e : Ending) (w' : World) : Prop where
  ex : ∃ val, e = .returned (.tuple #[.agg #[.int .i64 d, val], .bool was]) ∧ RefAt W0 w' val L
  below : Below W.heap.size W w'
theorem fnd_lt {x : Int} {L : List (Int × List Int)} (h : fnd x L = true) : plc x L < L.length := by
  unfold fnd at h
  by_cases h1 : plc x L < L.length
  · exact h1
  · rw [List.drop_of_length_le (by omega)] at h
    cases h
theorem ref_drop (W0 W : World) (hW : Below W0.heap.size W0 W) (d : Int) (L : List (Int × List Int)) (val : Value) (h : RefAt W0 W val L) (hr : Rising L) (hf : L.length ≤ 512) (id : Int) :
    Calls Try.prog 40 #[.agg #[.int .i64 d, val], .int .i64 id] W (RefDropped W0 W d (dropL id L) (look L id).isSome) := by
  obtain ⟨Q, hown, hv, rfl⟩ := h
  have hvW := hv.below hW
  rw [List.length_map] at hf
  obtain ⟨A, c, rfl⟩ := own_slice hown
  have hd := drop_plc id hr
  rw [fnd_look id hr, hd]
  by_cases hw : fnd id (Q.map pt) = true
  · rw [if_pos hw, hw]
    have hlt := fnd_lt hw
    rw [List.length_map] at hlt
    have hform : ∃ g, A = some ⟨g, 0, none⟩ := by
      rcases hown.2 with ⟨e1, e2⟩ | ⟨g, cap, cur, e1, _⟩
      · injection e1 with _ e3 _; omega
      · injection e1 with e1 _ _; exact ⟨g, e1⟩
    obtain ⟨g, rfl⟩ := hform
    refine (ref_drop_yes W d 0 g c Q hown hvW hf id hw hlt).mono fun e w' hh => ?_
    obtain ⟨⟨val', g1, g2⟩, g3⟩ := hh
    refine ⟨⟨val', g1, ⟨_, own_less g2 (Nat.zero_le _), fun q hq => ?_, ?_⟩⟩, g3⟩
    · rcases List.mem_append.1 hq with hq | hq
      · exact hv q (List.mem_of_mem_take hq)
      · exact hv q (List.mem_of_mem_drop hq)
    · rw [List.map_append, List.map_take, List.map_drop]
  · rw [if_neg hw]
    rw [Bool.not_eq_true] at hw
    rw [hw]
    refine (ref_drop_no W d 0 A c Q hown hvW hf id hw).mono fun e w' hh => ?_
    exact ⟨⟨_, hh.ret, ⟨Q, own_keep hown hh.below, hv, rfl⟩⟩, hh.below⟩
/-- What Get answers: its vector, or that there is none. -/
structure RefGave (W : World) (r : Option (List Int)) (e : Ending) (w' : World) : Prop where
  ex : ∃ A c, e = .returned (.tuple #[.slice A (r.getD []).length c, .int .i64 (if r.isSome then 0 else 3)]) ∧ Kd.C (Kd.int .i64) w' A (r.getD []).length (r.getD []) ∧ (r.getD []).length ≤ c
  below : Below W.heap.size W w'
theorem ints_nil (W : World) : Kd.C (Kd.int .i64) W none 0 ([] : List Int) := ⟨rfl, by simp, fun h => by simp at h⟩
theorem ref_get (W0 W : World) (hW : Below W0.heap.size W0 W) (d : Int) (L : List (Int × List Int)) (val : Value) (h : RefAt W0 W val L) (hr : Rising L) (hf : L.length ≤ 512) (id : Int) :
    Calls Try.prog 41 #[.agg #[.int .i64 d, val], .int .i64 id] W (RefGave W (look L id)) := by
  obtain ⟨Q, hown, hv, rfl⟩ := h
  have hvW := hv.below hW
  rw [List.length_map] at hf
  obtain ⟨A, c, rfl⟩ := own_slice hown
  have hfl := fnd_look id hr
  by_cases hw : fnd id (Q.map pt) = true
  · have hlt := fnd_lt hw
    have hlt2 : plc id (Q.map pt) < Q.length := by rw [List.length_map] at hlt; exact hlt
    have hform : ∃ g, A = some ⟨g, 0, none⟩ := by
      rcases hown.2 with ⟨e1, e2⟩ | ⟨g, cap, cur, e1, _⟩
      · injection e1 with _ e3 _; omega
      · injection e1 with e1 _ _; exact ⟨g, e1⟩
    obtain ⟨g, rfl⟩ := hform
    have hgd : Q.getD (plc id (Q.map pt)) dE = Q[plc id (Q.map pt)] := by rw [List.getD_eq_getElem?_getD, List.getElem?_eq_getElem hlt2]; rfl
    obtain ⟨Aq, cq, e6, hroom, hCq⟩ := hvW _ (List.getElem_mem hlt2)
    have hlook : look (Q.map pt) id = some (Q[plc id (Q.map pt)]).2.1 := by
      have hk : (Q[plc id (Q.map pt)]).1 = id := by
        have h1 := hw
        unfold fnd at h1
        rw [List.drop_eq_getElem_cons hlt] at h1
        simp only [List.getElem_map] at h1
        exact beq_iff_eq.1 h1
      have hm : pt (Q[plc id (Q.map pt)]) ∈ Q.map pt := List.mem_map.2 ⟨_, List.getElem_mem hlt2, rfl⟩
      have h2 := look_of_mem hr (x := id) (v := (Q[plc id (Q.map pt)]).2.1) (by have h3 : pt (Q[plc id (Q.map pt)]) = (id, (Q[plc id (Q.map pt)]).2.1) := Prod.ext hk rfl; exact h3 ▸ hm)
      exact h2
    rw [hlook]
    refine (ref_get_yes W d 0 g c Q hown hvW hf id hw hlt2 Aq cq _ (by rw [hgd]; exact e6)).mono fun e w' hh => ?_
    exact ⟨⟨Aq, cq, hh.ret, Kd.C_below hCq hh.below, hroom⟩, hh.below⟩
  · rw [Bool.not_eq_true] at hw
    have hn : look (Q.map pt) id = none := by
      cases e : look (Q.map pt) id with
      | none => rfl
      | some x => rw [e, hw] at hfl; cases hfl
    rw [hn]
    refine (ref_get_no W d 0 A c Q hown hvW hf id hw).mono fun e w' hh => ?_
    exact ⟨⟨none, 0, hh.ret, ints_nil _, Nat.le_refl _⟩, hh.below⟩
theorem hold_get {W : World} {b0 g ma : Nat} {d : Int} {L : List (Int × List Int)} (h : HoldsD W b0 g ma d L) (id : Int) (hw : (Lit.int .i64 id).wf = true) :
    Calls Try.prog 25 #[.pointer (some ⟨g, 0, none⟩), .int .i64 id] W (RefGave W (look L id)) := by
  obtain ⟨mi, s, ht, hok, rfl, rfl, hm⟩ := h
  cases e : look s.L id with
  | none => exact (get_none W g ma mi s ht hok id hw e).mono fun e w' hh => ⟨⟨none, 0, hh.1, ints_nil _, Nat.le_refl _⟩, by rw [← hh.2]; exact Below.refl _ _⟩
  | some v =>
    refine (get_some W g ma mi s ht hok id hw v e).mono fun e w' hh => ?_
    obtain ⟨⟨A, c, e1, h1, h2⟩, hb⟩ := hh
    exact ⟨⟨A, c, e1, h1, h2⟩, hb⟩
end Go.Proofs.Ytealiaafdkhonaa.Vp
