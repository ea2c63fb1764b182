/- The reference's Done does what its Lean twin does: the way that answers. -/
import Derived.Test.YtahoeehjgbfhbaaRdA
import Derived.StillTailTactics
namespace Go.Proofs.Ytahoeehjgbfhbaa.Ch
open Base Go.RowKit Go.Proofs.YtahoeehjgbfhbaaW.PrintWords Go.Proofs.YtahoeehjgbfhbaaW.PrintLast Go.Proofs.YtahoeehjgbfhbaaW.PrintMore
set_option linter.unusedVariables false
set_option linter.unusedSimpArgs false

/-- How memory stands while the reference's Done gathers its nodes: the boxes of its arguments, its result's, and the chart's (block g), whose nodes own what has been gathered. -/
structure St (w W : World) (g : Nat) (ep : Int) (s t : Int) (A : Option Addr) (c : Nat) (xs : List Int) (v : Value) (l : List Int) : Prop where
  b1 : W.cell? ⟨w.heap.size, 0, none⟩ = some (.int .i64 ep)
  b2 : W.cell? ⟨w.heap.size, 1, none⟩ = some (.slice A xs.length c)
  b3 : W.cell? ⟨w.heap.size + 1, 0, none⟩ = some (.int .i64 s)
  b4 : W.cell? ⟨w.heap.size + 1, 2, none⟩ = some (.int .i64 t)
  box : W.heap[w.heap.size + 1 + 1]? = some (.cells #[.int .i64 0, .slice none 0 0] 24 (0, 0))
  out : W.heap[g]? = some (.cells #[.int .i64 (ep + 1), v] 24 (0, 0))
  own : W.ownsRow (g + 1) 3 1 v l.length (nums .i64 l)
  lt : w.heap.size + 1 + 1 < g
  below : Below w.heap.size w W
theorem St.drew {w W : World} {g : Nat} {ep s t : Int} {A : Option Addr} {c : Nat} {xs l : List Int} {v : Value} (h : St w W g ep s t A c xs v l) : St w W.drew g ep s t A c xs v l :=
  ⟨h.b1, h.b2, h.b3, h.b4, h.box, h.out, h.own, h.lt, h.below.drew⟩
theorem St.alloc {w W : World} {g : Nat} {ep s t : Int} {A : Option Addr} {c : Nat} {xs l : List Int} {v : Value} (h : St w W g ep s t A c xs v l) (o : Obj) : St w (W.alloc o) g ep s t A c xs v l :=
  have hb := below_alloc (Below.refl W.heap.size W) o
  ⟨pw_cell_below hb h.b1, pw_cell_below hb h.b2, pw_cell_below hb h.b3, pw_cell_below hb h.b4, blk_below h.box hb, blk_below h.out hb, h.own.alloc o, h.lt, below_alloc h.below o⟩
theorem St.grown {w W w2 : World} {g : Nat} {ep s t : Int} {A : Option Addr} {c : Nat} {xs l : List Int} {v : Value} (h : St w W g ep s t A c xs v l) (hg : W.grownBy w2 v.ownBlock) :
    w2.cell? ⟨w.heap.size, 0, none⟩ = some (.int .i64 ep) ∧ w2.cell? ⟨w.heap.size, 1, none⟩ = some (.slice A xs.length c) ∧ w2.cell? ⟨w.heap.size + 1, 0, none⟩ = some (.int .i64 s) ∧ w2.cell? ⟨w.heap.size + 1, 2, none⟩ = some (.int .i64 t) ∧
    w2.heap[w.heap.size + 1 + 1]? = some (.cells #[.int .i64 0, .slice none 0 0] 24 (0, 0)) ∧ w2.heap[g]? = some (.cells #[.int .i64 (ep + 1), v] 24 (0, 0)) ∧ Below w.heap.size w w2 := by
  have hv : ∀ k, k ≤ g → some k ≠ v.ownBlock := fun k hk e => by have := own_base h.own k e.symm; omega
  have hl := h.lt
  have hgw := blk_lt h.out
  refine ⟨hg.cell h.b1 (hv _ (by dsimp only; omega)), hg.cell h.b2 (hv _ (by dsimp only; omega)), hg.cell h.b3 (hv _ (by dsimp only; omega)), hg.cell h.b4 (hv _ (by dsimp only; omega)), blk_grown h.box hg (hv _ (by omega)), blk_grown h.out hg (hv _ (Nat.le_refl _)), h.below.grown hg h.below.size (fun k hk => ?_)⟩
  have := own_base h.own k hk; omega
theorem St.step {w W w2 : World} {g : Nat} {ep s t : Int} {A : Option Addr} {c : Nat} {xs l : List Int} {v : Value} (h : St w W g ep s t A c xs v l) (hg : W.grownBy w2 v.ownBlock) {v2 : Value} {l2 : List Int} {n : Nat} (hn : n = l2.length) {ys : List Value} (hys : ys = nums .i64 l2) (ho : w2.ownsRow (g + 1) 3 1 v2 n ys) :
    St w (w2.setCell ⟨g, 1, none⟩ v2) g ep s t A c xs v2 l2 := by
  subst hn hys
  obtain ⟨h1, h2, h3, h4, h5, h6, h7⟩ := h.grown hg
  have hl := h.lt
  have far : ∀ (p : Addr) (u : Value), p.block ≠ g → w2.cell? p = some u → (w2.setCell ⟨g, 1, none⟩ v2).cell? p = some u := fun p u hp hc => (World.cell?_setCell_far w2 _ _ _ (fun e => hp e.symm)).trans hc
  refine ⟨far _ _ (by dsimp only; omega) h1, far _ _ (by dsimp only; omega) h2, far _ _ (by dsimp only; omega) h3, far _ _ (by dsimp only; omega) h4, blk_far h5 (by dsimp only; omega) _, by simpa using blk_set h6 1 v2, own_setCell ho (fun e => by have := own_base ho _ e.symm; dsimp only at this; omega) _, hl, below_set h7 (by omega)⟩

set_option maxHeartbeats 800000 in
theorem rdone_ok (ep : Int) (A : Option Addr) (c : Nat) (xs : List Int) (s : Nat) (f t : Int) (w : World) (hr : Kd.C (Kd.int .i64) w A xs.length xs) (hx : xs.length ≤ 9223372036854775807) (hcap : xs.length ≤ c)
  (hb : ckI ep xs = 0) (h1 : s < xs.length) (h2 : 0 ≤ t) (h3 : t < 8) (h4 : (t == f) = false) (h5 : (rd xs (s : Int) != f) = false) (h6 : (ep == 1099511627776) = false) :
    Calls Try.prog 12 #[.agg #[.int .i64 ep, .slice A xs.length c], .agg #[.int .i64 (s : Int), .int .i64 f, .int .i64 t]] w (Gives w (ep + 1) (doneN xs s t) 0) := by
  have hx16 := ck_bounds hb
  have hwe : IntKind.i64.wrap (ep + 1) = ep + 1 := IntWalk.i64_in _ (by omega)
  have HR := Aside0.mk hr
  have HB := Aside0.mk hb
  have HCAP := Aside0.mk hcap
  have HX16 := Aside0.mk hx16
  clear hr hb hx16
  obtain ⟨ad, e1, hcell⟩ := at_nat HR.out s h1
  cases e1
  go_enter Try.func12, Try.ntmps12
  go_wp2_with (go_at_call 19; refine (PChartMoves.ploverref12_May.calls (xs.length + 1) ep _ c xs (ckI ep xs == 0) _ (Kd.C_below HR.out ((((Below.refl _ w).alloc (Nat.le_refl _) _).alloc (by simp) _).alloc (by simp; omega) _)) HCAP.out (by rw [may_f ep xs hx, may_ck])).mono ?_; rintro e w' ⟨rfl, hb⟩; rw [HB.out]; obtain ⟨hc, hf⟩ := bcell hb)
  have hcell' : w'.cell? (ad.add s) = some (.int .i64 (rd xs (s : Int))) := pw_cell_below (below_step ((((Below.refl _ w).alloc (Nat.le_refl _) _).alloc (by simp) _).alloc (by simp; omega) _) hb) hcell
  go_quiet (fail)
  obtain ⟨i0, hi0, hz0, hz1, hz2⟩ := info_parts info3
  have hz : w.heap.size + 3 ≤ (w'.drewN nq).heap.size := by have := hb.size; simp at this; simpa using this
  have HB2 := Aside0.mk (pw_below_drewN (below_step ((((Below.refl _ w).alloc (Nat.le_refl _) _).alloc (by simp) _).alloc (by simp; omega) _) hb) nq)
  have b1 : (w'.drewN nq).cell? ⟨w.heap.size, 0, none⟩ = some (.int .i64 ep) := by go_simp
  have b2 : (w'.drewN nq).cell? ⟨w.heap.size, 1, none⟩ = some (.slice (some ad) xs.length c) := by go_simp
  have b3 : (w'.drewN nq).cell? ⟨w.heap.size + 1, 0, none⟩ = some (.int .i64 (s : Int)) := by go_simp
  have b4 : (w'.drewN nq).cell? ⟨w.heap.size + 1, 2, none⟩ = some (.int .i64 t) := by go_simp
  have b5 : (w'.drewN nq).heap[w.heap.size + 1 + 1]? = some (.cells #[.int .i64 0, .slice none 0 0] 24 (0, 0)) := by
    show w'.heap[w.heap.size + 1 + 1]? = _
    rw [hb.block _ (by simp)]
    exact (by simpa using blk_new ((w.alloc (.cells #[.int .i64 ep, .slice (some ad) xs.length c] 24)).alloc (.cells #[.int .i64 (s : Int), .int .i64 f, .int .i64 t] 31)) (.cells #[.int .i64 0, .slice none 0 0] 24))
  clear hb hc hf hcell' hcell
  generalize w'.drewN nq = W at *
  clear w'
  go_wp2_with fail
  have hW1 := below_alloc (Below.refl W.heap.size W) (.cells #[.int .i64 (ep + 1), .slice none 0 0] 24)
  have HB3 := Aside0.mk (below_step HB2.out hW1)
  have S1 : St w (W.alloc (.cells #[.int .i64 (ep + 1), .slice none 0 0] 24)) W.heap.size ep (s : Int) t (some ad) c xs (.slice none 0 0) [] :=
    ⟨pw_cell_below hW1 b1, pw_cell_below hW1 b2, pw_cell_below hW1 b3, pw_cell_below hW1 b4, blk_below b5 hW1, blk_new _ _, own_nil _ _ _ _, by omega, HB3.out⟩
  clear b1 b2 b3 b4 b5 hW1 HB2
  generalize W.alloc (.cells #[.int .i64 (ep + 1), .slice none 0 0] 24) = W1 at *
  generalize W.heap.size = g at *
  have HS1 := Aside0.mk S1.drew
  have HR1 := Aside0.mk (Kd.C_below HR.out HB3.out.drew)
  have x0 : W1.cell? ⟨g, 1, none⟩ = some (.slice none 0 0) := (blk_cell S1.out 1).trans rfl
  have x1 := S1.b2
  have x2 := S1.b3
  have hs' : (s : Int) ≤ (c : Int) := by have := HCAP.out; omega
  have hs0 : (0 : Int) ≤ (s : Int) := by omega
  clear S1
  go_still_tail 7, (by kernel_rfl)
  change wpList _ _ _ _ _ W1.drew
  generalize W1.drew = W2 at *
  clear x0 x1 x2
  refine wpList_append_mine rfl _ _ _ rfl (g + 1) 3 i0 _ 1 8 Try.underlying22 hi0 hz0 hz1 hz2 rfl (by omega) (.slice none 0 0) 0 [] rfl (own_nil _ _ _ _) ad s c (nums .i64 (xs.take s)) rfl (by simp [nums]; omega) (C_cells HR1.out s ad rfl) (nums_one _ _) s (by omega) (by unfold maxLen; have := HX16.out; omega) (by have := HX16.out; omega) (blk_lt HS1.out.out) ?_
  intro A3 c3 w3 hown3 hgrow3
  obtain ⟨_, _, _, _, _, h6, _⟩ := HS1.out.grown hgrow3
  have y0 : w3.cell? ⟨g, 1, none⟩ = some (.slice none 0 0) := (blk_cell h6 1).trans rfl
  have y1 := blk_frozen h6 1
  have HS3 := Aside0.mk (HS1.out.step hgrow3 (l2 := xs.take s) (by simp; omega) (by simp) hown3)
  clear h6 hown3 hgrow3
  go_upto_region 9 with (fail)
  clear y0 y1
  generalize w3.setCell ⟨g, 1, none⟩ (Value.slice A3 s c3) = W3 at *
  have z0 : W3.cell? ⟨g, 1, none⟩ = some (.slice A3 s c3) := (blk_cell HS3.out.out 1).trans rfl
  have z1 := HS3.out.b4
  have HS4 := Aside0.mk (HS3.out.alloc (.cells #[.int .i64 t] 3))
  have hn4 : ∀ j u, (nums IntKind.i64 [t])[j]? = some u → (W3.alloc (.cells #[.int .i64 t] 3)).cell? ((⟨W3.heap.size, 0, none⟩ : Addr).add j) = some u := World.news_of_block (cs := #[.int .i64 t]) (t := 3) (fr := (0, 0)) (heap_alloc_new W3 _)
  have HN4 := Aside0.mk hn4
  clear hn4
  have hlt : (xs.take s).length = s := by simp; omega
  have HLT := Aside0.mk hlt
  clear hlt
  go_wp2_with (at_builtin; refine wpList_append_mine rfl _ _ _ rfl (g + 1) 3 i0 _ 1 8 Try.underlying22 hi0 hz0 hz1 hz2 rfl (by omega) (.slice A3 s c3) s (nums .i64 (xs.take s)) rfl (by have := HS4.out.own; rw [HLT.out] at this; exact this) ⟨W3.heap.size, 0, none⟩ 1 1 (nums .i64 [t]) rfl rfl HN4.out (nums_one _ _) (s + 1) rfl (by unfold maxLen; have := HX16.out; omega) (by have := HX16.out; omega) (blk_lt HS4.out.out) ?_; intro A5 c5 w5 hown5 hgrow5; obtain ⟨_, _, _, _, _, h6, _⟩ := HS4.out.grown hgrow5; have y0 : w5.cell? ⟨g, 1, none⟩ = some (.slice A3 s c3) := (blk_cell h6 1).trans rfl; have y1 := blk_frozen h6 1; have HS5 := Aside0.mk (HS4.out.step hgrow5 (l2 := xs.take s ++ [t]) (n := s + 1) (by simp; omega) (by simp [nums]) hown5); clear h6 hown5 hgrow5)
  clear z0 z1 HS3 HS4 HN4 y0 y1
  generalize w5.setCell ⟨g, 1, none⟩ (Value.slice A5 (s + 1) c5) = W5 at *
  have z2 : W5.cell? ⟨g, 1, none⟩ = some (.slice A5 (s + 1) c5) := (blk_cell HS5.out.out 1).trans rfl
  have z3 := HS5.out.b2
  have z4 := HS5.out.b3
  have HS6 := Aside0.mk HS5.out.drew
  have HR6 := Aside0.mk (Kd.C_below HR.out HS5.out.below.drew)
  have HL5 := Aside0.mk (show (xs.take s ++ [t]).length = s + 1 by simp; omega)
  have hs1 : IntKind.i64.wrap ((s : Int) + 1) = (s : Int) + 1 := IntWalk.i64_in _ (by have := HX16.out; omega)
  have hs2 : 0 ≤ (s : Int) + 1 := by omega
  have hs3 : (s : Int) + 1 ≤ (xs.length : Int) := by omega
  by_cases hcs : c = s + 1
  · subst hcs
    go_still_tail 8, (by kernel_rfl)
    change wpList _ _ _ _ _ W5.drew
    generalize W5.drew = W6 at *
    clear z2 z3 z4
    refine wpList_append_mine rfl _ _ _ rfl (g + 1) 3 i0 _ 1 8 Try.underlying22 hi0 hz0 hz1 hz2 rfl (by omega) (.slice A5 (s + 1) c5) (s + 1) (nums .i64 (xs.take s ++ [t])) (by rfl) (by have := HS6.out.own; rw [HL5.out] at this; exact this) ad (xs.length - (s + 1)) (s + 1 - (s + 1)) (nums .i64 (xs.drop (s + 1))) (by go_simp) (by simp [nums]) (by intro j u hu; rw [List.drop_of_length_le (by have := HCAP.out; omega)] at hu; simp [nums] at hu) (nums_one _ _) xs.length (by omega) (by unfold maxLen; have := HX16.out; omega) (by have := HX16.out; omega) (blk_lt HS6.out.out) ?_
    intro A7 c7 w7 hown7 hgrow7
    obtain ⟨_, _, _, _, _, h6', _⟩ := HS6.out.grown hgrow7
    have y0 : w7.cell? ⟨g, 1, none⟩ = some (.slice A5 (s + 1) c5) := (blk_cell h6' 1).trans rfl
    have y1 := blk_frozen h6' 1
    have HS7 := Aside0.mk (HS6.out.step hgrow7 (l2 := doneN xs s t) (n := xs.length) (doneN_length xs s t h1).symm (by simp [nums, doneN]) hown7)
    clear h6' hown7 hgrow7
    go_upto_region 11 with (fail)
    clear y0 y1
    generalize w7.setCell ⟨g, 1, none⟩ (Value.slice A7 xs.length c7) = W8 at *
    have u0 : W8.cell? ⟨g, 0, none⟩ = some (.int .i64 (ep + 1)) := (blk_cell HS7.out.out 0).trans rfl
    have u1 : W8.cell? ⟨g, 1, none⟩ = some (.slice A7 xs.length c7) := (blk_cell HS7.out.out 1).trans rfl
    have u2 : W8.cell? ⟨w.heap.size + 1 + 1, 0, none⟩ = some (.int .i64 0) := (blk_cell HS7.out.box 0).trans rfl
    have u3 : W8.cell? ⟨w.heap.size + 1 + 1, 1, none⟩ = some (.slice none 0 0) := (blk_cell HS7.out.box 1).trans rfl
    have u4 := blk_frozen HS7.out.box 0
    have u5 := blk_frozen HS7.out.box 1
    go_wp2_with fail
    have hlt := HS7.out.lt
    have hl := doneN_length xs s t h1
    have hown := HS7.out.own
    have hown4 := own_setCell (own_setCell hown (p := ⟨w.heap.size + 1 + 1, 0, none⟩) (fun hk => by have := own_base hown _ hk.symm; dsimp only at this; omega) (.int .i64 (ep + 1))) (p := ⟨w.heap.size + 1 + 1, 1, none⟩) (fun hk => by have := own_base hown _ hk.symm; dsimp only at this; omega) (.slice A7 xs.length c7)
    rw [hl] at hown hown4
    refine bodyPost_ret (v := .tuple #[.agg #[.int .i64 (ep + 1), .slice A7 xs.length c7], .int .i64 0]) (by simp [results, Try.results12, go_sem, u2, u3]) rfl ⟨⟨A7, c7, by rw [hl], by rw [hl]; exact own_le hown, by rw [hl]; exact Kd.C_of_reads (own_reads' hown4), fun a ha => by subst ha; have := own_base hown a.block rfl; omega⟩, ?_⟩
    exact below_set (below_set HS7.out.below (by omega)) (by omega)
  · have hcs' := hcs
    go_still_tail 8, (by kernel_rfl)
    change wpList _ _ _ _ _ W5.drew
    generalize W5.drew = W6 at *
    clear z2 z3 z4
    refine wpList_append_mine rfl _ _ _ rfl (g + 1) 3 i0 _ 1 8 Try.underlying22 hi0 hz0 hz1 hz2 rfl (by omega) (.slice A5 (s + 1) c5) (s + 1) (nums .i64 (xs.take s ++ [t])) (by rfl) (by have := HS6.out.own; rw [HL5.out] at this; exact this) (ad.add (s + 1)) (xs.length - (s + 1)) (c - (s + 1)) (nums .i64 (xs.drop (s + 1))) (by go_simp) (by simp [nums]) (C_from HR6.out (s + 1)) (nums_one _ _) xs.length (by omega) (by unfold maxLen; have := HX16.out; omega) (by have := HX16.out; omega) (blk_lt HS6.out.out) ?_
    intro A7 c7 w7 hown7 hgrow7
    obtain ⟨_, _, _, _, _, h6', _⟩ := HS6.out.grown hgrow7
    have y0 : w7.cell? ⟨g, 1, none⟩ = some (.slice A5 (s + 1) c5) := (blk_cell h6' 1).trans rfl
    have y1 := blk_frozen h6' 1
    have HS7 := Aside0.mk (HS6.out.step hgrow7 (l2 := doneN xs s t) (n := xs.length) (doneN_length xs s t h1).symm (by simp [nums, doneN]) hown7)
    clear h6' hown7 hgrow7
    go_upto_region 11 with (fail)
    clear y0 y1
    generalize w7.setCell ⟨g, 1, none⟩ (Value.slice A7 xs.length c7) = W8 at *
    have u0 : W8.cell? ⟨g, 0, none⟩ = some (.int .i64 (ep + 1)) := (blk_cell HS7.out.out 0).trans rfl
    have u1 : W8.cell? ⟨g, 1, none⟩ = some (.slice A7 xs.length c7) := (blk_cell HS7.out.out 1).trans rfl
    have u2 : W8.cell? ⟨w.heap.size + 1 + 1, 0, none⟩ = some (.int .i64 0) := (blk_cell HS7.out.box 0).trans rfl
    have u3 : W8.cell? ⟨w.heap.size + 1 + 1, 1, none⟩ = some (.slice none 0 0) := (blk_cell HS7.out.box 1).trans rfl
    have u4 := blk_frozen HS7.out.box 0
    have u5 := blk_frozen HS7.out.box 1
    go_wp2_with fail
    have hlt := HS7.out.lt
    have hl := doneN_length xs s t h1
    have hown := HS7.out.own
    have hown4 := own_setCell (own_setCell hown (p := ⟨w.heap.size + 1 + 1, 0, none⟩) (fun hk => by have := own_base hown _ hk.symm; dsimp only at this; omega) (.int .i64 (ep + 1))) (p := ⟨w.heap.size + 1 + 1, 1, none⟩) (fun hk => by have := own_base hown _ hk.symm; dsimp only at this; omega) (.slice A7 xs.length c7)
    rw [hl] at hown hown4
    refine bodyPost_ret (v := .tuple #[.agg #[.int .i64 (ep + 1), .slice A7 xs.length c7], .int .i64 0]) (by simp [results, Try.results12, go_sem, u2, u3]) rfl ⟨⟨A7, c7, by rw [hl], by rw [hl]; exact own_le hown, by rw [hl]; exact Kd.C_of_reads (own_reads' hown4), fun a ha => by subst ha; have := own_base hown a.block rfl; omega⟩, ?_⟩
    exact below_set (below_set HS7.out.below (by omega)) (by omega)

end Go.Proofs.Ytahoeehjgbfhbaa.Ch
