/- chart.Done does what its Lean twin does: the way that answers. -/
import Derived.Test.YthnonapfkobdcaaDoorChB
import Derived.Test.YthnonapfkobdcaaDoorBase
namespace Go.Proofs.YthnonapfkobdcaaDoor.Ch
open Base Go.RowKit Go.Proofs.YthnonapfkobdcaaDoorW.PrintWords Go.Proofs.YthnonapfkobdcaaDoorW.PrintLast Go.Proofs.YthnonapfkobdcaaDoorW.PrintMore
set_option linter.unusedVariables false
set_option linter.unusedSimpArgs false

theorem info3 : (Tryd.prog.info? 3).map (fun i => (i.zero, i.size, i.bytes)) = some (some (.int .i64 0), 1, 8) := by kernel_rfl

theorem C_cells {w : World} {A : Option Addr} {n : Nat} {xs : List Int} (h : Kd.C (Kd.int .i64) w A n xs) (k : Nat) : ∀ b, A = some b → ∀ j u, ((xs.take k).map (Value.int .i64))[j]? = some u → w.cell? (b.add j) = some u := by
  intro b hb j u hu
  rw [List.getElem?_map] at hu
  obtain ⟨x, hx, rfl⟩ := Option.map_eq_some_iff.1 hu
  have hj : j < (xs.take k).length := (List.getElem?_eq_some_iff.1 hx).1
  have hj' : j < xs.length := by rw [List.length_take] at hj; omega
  obtain ⟨ad, e, hc⟩ := at_nat h j (by have := h.1; omega)
  rw [hb] at e
  cases e
  rw [hc]
  rw [List.getElem?_take_of_lt (by rw [List.length_take] at hj; omega)] at hx
  unfold rd
  rw [Int.toNat_natCast, List.getD_eq_getElem?_getD, hx]
  rfl

set_option maxRecDepth 100000 in
set_option maxHeartbeats 400000 in
theorem done_ok (ep : Int) (A : Option Addr) (c : Nat) (xs : List Int) (s : Nat) (f t : Int) (w : World) (hr : Kd.C (Kd.int .i64) w A xs.length xs) (hx : xs.length ≤ 9223372036854775807) (hcap : xs.length ≤ c)
  (hb : ckI ep xs = 0) (h1 : s < xs.length) (h2 : 0 ≤ t) (h3 : t < 8) (h4 : (t == f) = false) (h5 : (rd xs (s : Int) != f) = false) (h6 : (ep == 1099511627776) = false) :
    Calls Tryd.prog 28 #[.agg #[.int .i64 ep, .slice A xs.length c], .agg #[.int .i64 (s : Int), .int .i64 f, .int .i64 t]] w (Gives w (ep + 1) (xs.take s ++ [t] ++ xs.drop (s + 1)) 0) := by
  have HR := Aside0.mk hr
  clear hr
  have HB := Aside0.mk hb
  clear hb
  obtain ⟨ad, e1, hcell⟩ := at_nat HR.out s h1
  cases e1
  go_enter Tryd.func28, Tryd.ntmps28
  go_wp2_with (go_at_call 31; refine (check_calls ep _ c xs _ (Kd.C_below HR.out ((((Below.refl _ w).alloc (Nat.le_refl _) _).alloc (by simp) _).alloc (by simp; omega) _)) hx).mono ?_; rintro e w' ⟨rfl, hb⟩; rw [HB.out]; obtain ⟨hc, hf⟩ := bcell hb)
  have hcell' : w'.cell? (ad.add s) = some (.int .i64 (rd xs (s : Int))) := pw_cell_below (below_step ((((Below.refl _ w).alloc (Nat.le_refl _) _).alloc (by simp) _).alloc (by simp; omega) _) hb) hcell
  go_quiet (fail)
  go_wp2_with fail
  have hx16 : xs.length ≤ 16 := by have := HB.out; unfold ckI mayB at this; simp at this; omega
  obtain ⟨i0, hi0, hz0, hz1, hz2⟩ := info_parts info3
  have hz : w.heap.size + 3 ≤ w'.heap.size := by have := hb.size; simp at this; omega
  have HB2 := Aside0.mk (pw_below_drewN (below_step ((((Below.refl _ w).alloc (Nat.le_refl _) _).alloc (by simp) _).alloc (by simp; omega) _) hb) nq)
  have b1 : (w'.drewN nq).cell? ⟨w.heap.size, 0, none⟩ = some (.int .i64 ep) := by go_simp
  have b2 : (w'.drewN nq).cell? ⟨w.heap.size, 1, none⟩ = some (.slice (some ad) xs.length c) := by go_simp
  have b3 : (w'.drewN nq).cell? ⟨w.heap.size + 1, 0, none⟩ = some (.int .i64 (s : Int)) := by go_simp
  have b4 : (w'.drewN nq).cell? ⟨w.heap.size + 1, 2, none⟩ = some (.int .i64 t) := by go_simp
  have b5 : (w'.drewN nq).cell? ⟨w.heap.size + 1 + 1, 0, none⟩ = some (.int .i64 0) := by go_simp
  have b6 : (w'.drewN nq).cell? ⟨w.heap.size + 1 + 1, 1, none⟩ = some (.slice none 0 0) := by go_simp
  have f5 : (w'.drewN nq).frozen? ⟨w.heap.size + 1 + 1, 0, none⟩ = false := by go_simp
  have f6 : (w'.drewN nq).frozen? ⟨w.heap.size + 1 + 1, 1, none⟩ = false := by go_simp
  have hz' : w.heap.size + 3 ≤ (w'.drewN nq).heap.size := hz
  clear hb hc hf hcell' hz
  generalize w'.drewN nq = W at *
  have HR2 := Aside0.mk (Kd.C_below HR.out HB2.out)
  have hs' : (s : Int) ≤ (c : Int) := by omega
  have hs0 : (0 : Int) ≤ (s : Int) := by omega
  have h1' : (s : Int) < (xs.length : Int) := by omega
  go_region_held3 (fun w1 => w1.cell? ⟨w.heap.size, 1, none⟩ = some (.slice (some ad) xs.length c) ∧ w1.cell? ⟨w.heap.size + 1, 0, none⟩ = some (.int .i64 (s : Int)) ∧ w1.cell? ⟨w.heap.size + 1, 2, none⟩ = some (.int .i64 t))
    (first | go_keep | (go_split_ands; refine ⟨?_, ?_, ?_⟩ <;> (rw [hgrow.cell_far _ (by simp; omega) (by simp)]; assumption)))
    (((refine step_append_grows (by rfl) _ _ _ (by rfl) 3 i0 _ 1 8 Tryd.underlying22 hi0 hz0 hz1 hz2 rfl (by omega) (some ad) s s ((xs.take s).map (Value.int .i64)) (by rfl) (by simp) (by simp; omega) (by exact C_cells (Kd.C_below HR2.out (by repeat (first | exact Below.refl _ _ | apply below_alloc | apply below_drew1))) s) ⟨W.heap.size, 0, none⟩ 1 1 [.int .i64 t] (by rfl) (by rfl) (World.news_of_block (cs := #[.int .i64 t]) (t := 3) (fr := (0, 0)) (heap_alloc_new W _)) (by simp [Value.oneCell']) (by omega) (by unfold maxLen; omega) (by omega) ?_); intro v' w1 hown hgrow))
  have hs1 : IntKind.i64.wrap ((s : Int) + 1) = (s : Int) + 1 := IntWalk.i64_in _ (by omega)
  have hs2 : 0 ≤ (s : Int) + 1 := by omega
  have hs3 : (s : Int) + 1 ≤ (xs.length : Int) := by omega
  have hbW : Below W.heap.size W w1 := by
    have q := Below.grown (B := W.heap.size) (a := W) (w := W.drew.alloc (Obj.cells #[Value.int IntKind.i64 t] 3)) (by repeat (first | exact Below.refl _ _ | apply below_alloc | apply below_drew1)) hgrow (by simp) (by simp)
    exact q
  have c1 : w1.cell? ⟨w.heap.size, 0, none⟩ = some (.int .i64 ep) := pw_cell_below hbW b1
  have HB3 := Aside0.mk (below_step HB2.out hbW)
  have c5 : w1.cell? ⟨w.heap.size + 1 + 1, 0, none⟩ = some (.int .i64 0) := pw_cell_below hbW b5
  have c6 : w1.cell? ⟨w.heap.size + 1 + 1, 1, none⟩ = some (.slice none 0 0) := pw_cell_below hbW b6
  have g5 : w1.frozen? ⟨w.heap.size + 1 + 1, 0, none⟩ = false := (hbW.frozen (p := ⟨w.heap.size + 1 + 1, 0, none⟩) (by simp; omega)).trans f5
  have g6 : w1.frozen? ⟨w.heap.size + 1 + 1, 1, none⟩ = false := (hbW.frozen (p := ⟨w.heap.size + 1 + 1, 1, none⟩) (by simp; omega)).trans f6
  have HR3 := Aside0.mk (Kd.C_below HR2.out hbW)
  rename_i hh
  obtain ⟨c2, c3, c4⟩ := hh
  have hz1' : W.heap.size ≤ w1.heap.size := hbW.size
  have hown' : w1.ownsRow (W.heap.size + 1) 3 1 v' (s + 1) (nums .i64 (xs.take s ++ [t])) := by
    have e : (W.alloc (Obj.cells #[Value.int IntKind.i64 t] 3)).drew.heap.size = W.heap.size + 1 := by simp
    rw [e] at hown
    simpa [nums] using hown
  have hob : ∀ k, v'.ownBlock = some k → W.heap.size + 1 ≤ k := fun k hk => own_base hown' k hk
  have hsz1 : W.heap.size + 1 ≤ w1.heap.size := by have := hgrow.size; simpa using this
  clear hown hgrow b1 b2 b3 b4 b5 b6 f5 f6 HR2 HR hbW
  have hwe : IntKind.i64.wrap (ep + 1) = ep + 1 := by
    have := HB.out; unfold ckI mayB at this
    refine IntWalk.i64_in _ ?_
    simp at this; omega
  by_cases hcs : c = s + 1
  · subst hcs
    go_wp2_with fail
    go_region_held3 (fun w1 => w1.cell? ⟨w.heap.size, 0, none⟩ = some (.int .i64 ep) ∧ w1.cell? ⟨w.heap.size, 1, none⟩ = some (.slice (some ad) xs.length (s + 1)) ∧ w1.cell? ⟨w.heap.size + 1, 0, none⟩ = some (.int .i64 s))
      (first | (go_split_ands; refine ⟨?_, ?_, ?_⟩ <;> (rw [World.cell?_setCell_far _ _ _ _ (by dsimp only; omega), World.cell?_setCell_far _ _ _ _ (by dsimp only; omega)]; assumption)) | (go_split_ands; refine ⟨?_, ?_, ?_⟩ <;> assumption) | (go_split_ands; refine ⟨?_, ?_, ?_⟩ <;> (rw [hgrow.cell_far _ (by simp; omega) (fun hk => by have := hob _ hk.symm; simp at this; omega)]; assumption)))
      ((refine step_append_mine (by rfl) _ _ _ (by rfl) (W.heap.size + 1) 3 i0 _ 1 8 Tryd.underlying22 hi0 hz0 hz1 hz2 rfl (by omega) v' (s + 1) _ (by rfl) (by exact hown') ad (xs.length - (s + 1)) (s + 1 - (s + 1)) (nums .i64 (xs.drop (s + 1))) (by go_simp) (by simp [nums]) (by intro j u hu; rw [List.drop_of_length_le (by omega)] at hu; simp [nums] at hu) (nums_one _ _) xs.length (by omega) (by unfold maxLen; omega) (by omega) (by simp; omega) ?_; intro A2 cc w2 hown2 hgrow; have d5 : w2.cell? ⟨w.heap.size + 1 + 1, 0, none⟩ = some (.int .i64 0) := (hgrow.cell_far _ (by simp; omega) (fun hk => by have := hob _ hk.symm; simp at this; omega)).trans c5; have d6 : w2.cell? ⟨w.heap.size + 1 + 1, 1, none⟩ = some (.slice none 0 0) := (hgrow.cell_far _ (by simp; omega) (fun hk => by have := hob _ hk.symm; simp at this; omega)).trans c6; have e5 : w2.frozen? ⟨w.heap.size + 1 + 1, 0, none⟩ = false := (hgrow.frozen_far _ (by simp; omega) (fun hk => by have := hob _ hk.symm; simp at this; omega)).trans g5; have e6 : w2.frozen? ⟨w.heap.size + 1 + 1, 1, none⟩ = false := (hgrow.frozen_far _ (by simp; omega) (fun hk => by have := hob _ hk.symm; simp at this; omega)).trans g6))
    go_wp2
    have hl : xs.length = (xs.take s ++ [t] ++ xs.drop (s + 1)).length := by simp; omega
    have hown3 : w2.ownsRow (W.heap.size + 1) 3 1 (.slice A2 (xs.take s ++ [t] ++ xs.drop (s + 1)).length cc) (xs.take s ++ [t] ++ xs.drop (s + 1)).length (nums .i64 (xs.take s ++ [t] ++ xs.drop (s + 1))) := by
      rw [← hl, nums_append]; exact hown2
    rw [← hl] at hown3
    have hob2 : ∀ k, v'.ownBlock = some k → w.heap.size ≤ k := fun k hk => by have := hob k hk; omega
    have hbe : Below w.heap.size w w2 := (HB3.out.drew).grown hgrow (by have := HB3.out.size; simpa using this) hob2
    have hown4 := own_setCell (own_setCell hown3 (p := ⟨w.heap.size + 1 + 1, 0, none⟩) (fun hk => by have := own_base hown3 _ hk.symm; dsimp only at this; omega) (.int .i64 (ep + 1))) (p := ⟨w.heap.size + 1 + 1, 1, none⟩) (fun hk => by have := own_base hown3 _ hk.symm; dsimp only at this; omega) (.slice A2 xs.length cc)
    refine bodyPost_ret (v := .tuple #[.agg #[.int .i64 (ep + 1), .slice A2 xs.length cc], .int .i64 0]) (by simp [results, Tryd.results28, go_sem, d5, d6]) rfl ⟨⟨A2, cc, by rw [← hl], by rw [← hl]; exact own_le hown3, by rw [← hl]; exact Kd.C_of_reads (own_reads' hown4), fun a ha => by subst ha; have := own_base hown3 a.block rfl; have := HB3.out.size; have := hz'; omega⟩, ?_⟩
    exact below_set (below_set hbe (by omega)) (by omega)
  · go_wp2_with fail
    go_region_held3 (fun w1 => w1.cell? ⟨w.heap.size, 0, none⟩ = some (.int .i64 ep) ∧ w1.cell? ⟨w.heap.size, 1, none⟩ = some (.slice (some ad) xs.length c) ∧ w1.cell? ⟨w.heap.size + 1, 0, none⟩ = some (.int .i64 s))
      (first | (go_split_ands; refine ⟨?_, ?_, ?_⟩ <;> (rw [World.cell?_setCell_far _ _ _ _ (by dsimp only; omega), World.cell?_setCell_far _ _ _ _ (by dsimp only; omega)]; assumption)) | (go_split_ands; refine ⟨?_, ?_, ?_⟩ <;> assumption) | (go_split_ands; refine ⟨?_, ?_, ?_⟩ <;> (rw [hgrow.cell_far _ (by simp; omega) (fun hk => by have := hob _ hk.symm; simp at this; omega)]; assumption)))
      ((refine step_append_mine (by rfl) _ _ _ (by rfl) (W.heap.size + 1) 3 i0 _ 1 8 Tryd.underlying22 hi0 hz0 hz1 hz2 rfl (by omega) v' (s + 1) _ (by rfl) (by exact hown') (ad.add (s + 1)) (xs.length - (s + 1)) (c - (s + 1)) (nums .i64 (xs.drop (s + 1))) (by go_simp) (by simp [nums]) (by exact C_from (Kd.C_below HR3.out (by repeat (first | exact Below.refl _ _ | apply below_alloc | apply below_drew1))) (s + 1)) (nums_one _ _) xs.length (by omega) (by unfold maxLen; omega) (by omega) (by simp; omega) ?_; intro A2 cc w2 hown2 hgrow; have d5 : w2.cell? ⟨w.heap.size + 1 + 1, 0, none⟩ = some (.int .i64 0) := (hgrow.cell_far _ (by simp; omega) (fun hk => by have := hob _ hk.symm; simp at this; omega)).trans c5; have d6 : w2.cell? ⟨w.heap.size + 1 + 1, 1, none⟩ = some (.slice none 0 0) := (hgrow.cell_far _ (by simp; omega) (fun hk => by have := hob _ hk.symm; simp at this; omega)).trans c6; have e5 : w2.frozen? ⟨w.heap.size + 1 + 1, 0, none⟩ = false := (hgrow.frozen_far _ (by simp; omega) (fun hk => by have := hob _ hk.symm; simp at this; omega)).trans g5; have e6 : w2.frozen? ⟨w.heap.size + 1 + 1, 1, none⟩ = false := (hgrow.frozen_far _ (by simp; omega) (fun hk => by have := hob _ hk.symm; simp at this; omega)).trans g6))
    go_wp2
    have hl : xs.length = (xs.take s ++ [t] ++ xs.drop (s + 1)).length := by simp; omega
    have hown3 : w2.ownsRow (W.heap.size + 1) 3 1 (.slice A2 (xs.take s ++ [t] ++ xs.drop (s + 1)).length cc) (xs.take s ++ [t] ++ xs.drop (s + 1)).length (nums .i64 (xs.take s ++ [t] ++ xs.drop (s + 1))) := by
      rw [← hl, nums_append]; exact hown2
    rw [← hl] at hown3
    have hob2 : ∀ k, v'.ownBlock = some k → w.heap.size ≤ k := fun k hk => by have := hob k hk; omega
    have hbe : Below w.heap.size w w2 := (HB3.out.drew).grown hgrow (by have := HB3.out.size; simpa using this) hob2
    have hown4 := own_setCell (own_setCell hown3 (p := ⟨w.heap.size + 1 + 1, 0, none⟩) (fun hk => by have := own_base hown3 _ hk.symm; dsimp only at this; omega) (.int .i64 (ep + 1))) (p := ⟨w.heap.size + 1 + 1, 1, none⟩) (fun hk => by have := own_base hown3 _ hk.symm; dsimp only at this; omega) (.slice A2 xs.length cc)
    refine bodyPost_ret (v := .tuple #[.agg #[.int .i64 (ep + 1), .slice A2 xs.length cc], .int .i64 0]) (by simp [results, Tryd.results28, go_sem, d5, d6]) rfl ⟨⟨A2, cc, by rw [← hl], by rw [← hl]; exact own_le hown3, by rw [← hl]; exact Kd.C_of_reads (own_reads' hown4), fun a ha => by subst ha; have := own_base hown3 a.block rfl; have := HB3.out.size; have := hz'; omega⟩, ?_⟩
    exact below_set (below_set hbe (by omega)) (by omega)

end Go.Proofs.YthnonapfkobdcaaDoor.Ch
