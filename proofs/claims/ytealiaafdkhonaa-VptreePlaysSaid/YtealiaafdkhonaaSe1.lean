/- Several texts in one: Sc, Sd, Se, Sf. -/
import Derived.Test.YtealiaafdkhonaaSq
namespace Go.Proofs.Ytealiaafdkhonaa.Vp
open Go.RowKit Go.Sort Mb Base Sq Go.Proofs.YtealiaafdkhonaaW.PrintWords Go.Proofs.YtealiaafdkhonaaW.PrintLast Go.Proofs.YtealiaafdkhonaaW.PrintMore
set_option linter.unusedVariables false
set_option linter.unusedSimpArgs false

/-- A point in a row: its number, its vector, the slice that is its vector. -/
abbrev E := Int × List Int × Value
def encE (q : E) : List Value := [.int .i64 q.1, q.2.2]
def rowE (Q : List E) : List Value := Q.flatMap encE
def dE : E := (0, [], .slice none 0 0)
theorem rowE_len (Q : List E) : (rowE Q).length = Q.length * 2 := by
  induction Q with
  | nil => rfl
  | cons x l ih => simp only [rowE, List.flatMap_cons, List.length_append, List.length_cons] at ih ⊢; rw [ih]; simp [encE]; omega
theorem rowE_at : ∀ (Q : List E) (j : Nat), j < Q.length → (rowE Q)[j * 2]? = some (.int .i64 (Q.getD j dE).1) ∧ (rowE Q)[j * 2 + 1]? = some (Q.getD j dE).2.2
  | x :: Q, 0, _ => ⟨rfl, rfl⟩
  | x :: Q, j + 1, h => by
    have ih := rowE_at Q j (by simpa using h)
    have e1 : (rowE (x :: Q))[(j + 1) * 2]? = (rowE Q)[j * 2]? := by
      show ([.int .i64 x.1, x.2.2] ++ rowE Q)[(j + 1) * 2]? = _
      rw [List.getElem?_append_right (by simp; omega)]; congr 1; simp; omega
    have e2 : (rowE (x :: Q))[(j + 1) * 2 + 1]? = (rowE Q)[j * 2 + 1]? := by
      show ([.int .i64 x.1, x.2.2] ++ rowE Q)[(j + 1) * 2 + 1]? = _
      rw [List.getElem?_append_right (by simp; omega)]; congr 1; simp; omega
    rw [e1, e2]
    simpa using ih
theorem rowE_set : ∀ (Q : List E) (j : Nat) (x : E), j < Q.length → rowE (Q.set j x) = ((rowE Q).set (j * 2) (.int .i64 x.1)).set (j * 2 + 1) x.2.2
  | y :: Q, 0, x, _ => rfl
  | y :: Q, j + 1, x, h => by
    have ih := rowE_set Q j x (by simpa using h)
    show [.int .i64 y.1, y.2.2] ++ rowE (Q.set j x) = _
    rw [ih]
    show _ = ((([.int .i64 y.1, y.2.2] ++ rowE Q).set ((j + 1) * 2) _).set ((j + 1) * 2 + 1) _)
    rw [show (j + 1) * 2 + 1 = (j * 2 + 1) + 1 + 1 by omega, show (j + 1) * 2 = j * 2 + 1 + 1 by omega]
    rfl

/-- The point from which all is measured: the variable nb that holds it, its node ng. -/
structure CtxAt (W : World) (nb ng : Nat) (nv : List Int) : Prop where
  box : W.heap[nb]? = some (.cells #[.pointer (some ⟨ng, 0, none⟩)] 65 (0, 0))
  node : ∃ id val r pi po, W.heap[ng]? = some (.cells #[id, val, r, pi, po] 104 (0, 0)) ∧ VecAt W W.heap.size val nv
  vec : isV nv = true
def OkE (W : World) (n : Nat) (q : E) : Prop := VecAt W W.heap.size q.2.2 q.2.1 ∧ isV q.2.1 = true ∧ q.2.1.length = n ∧ (Lit.int .i64 q.1).wf = true
/-- The block g begins with the cells of a row (behind them room may be). -/
def RowIs (W : World) (g : Nat) (Q : List E) : Prop := ∃ rest : List Value, W.heap[g]? = some (.cells (rowE Q ++ rest).toArray 37 (0, 0))
theorem RowIs.lt {W : World} {g : Nat} {Q : List E} (h : RowIs W g Q) : g < W.heap.size := by obtain ⟨_, h⟩ := h; exact blk_lt h
theorem RowIs.drew {W : World} {g : Nat} {Q : List E} (h : RowIs W g Q) : RowIs W.drew g Q := h
theorem RowIs.same {W W' : World} {g : Nat} {Q : List E} (h : RowIs W g Q) (hs : W'.heap[g]? = W.heap[g]?) : RowIs W' g Q := by obtain ⟨r, h⟩ := h; exact ⟨r, hs.trans h⟩
theorem RowIs.cell {W : World} {g : Nat} {Q : List E} (h : RowIs W g Q) (j : Nat) (hj : j < Q.length) : W.cell? ⟨g, j * 2, none⟩ = some (.int .i64 (Q.getD j dE).1) ∧ W.cell? ⟨g, j * 2 + 1, none⟩ = some (Q.getD j dE).2.2 := by
  obtain ⟨r, h⟩ := h
  have h1 := rowE_at Q j hj
  have hl := rowE_len Q
  have e1 : (rowE Q ++ r)[j * 2]? = (rowE Q)[j * 2]? := List.getElem?_append_left (by omega)
  have e2 : (rowE Q ++ r)[j * 2 + 1]? = (rowE Q)[j * 2 + 1]? := List.getElem?_append_left (by omega)
  refine ⟨(blk_cell h _).trans ?_, (blk_cell h _).trans ?_⟩
  · rw [List.getElem?_toArray, e1]; exact h1.1
  · rw [List.getElem?_toArray, e2]; exact h1.2
theorem RowIs.frozen {W : World} {g : Nat} {Q : List E} (h : RowIs W g Q) (o : Nat) : W.frozen? ⟨g, o, none⟩ = false := by obtain ⟨_, h⟩ := h; exact blk_frozen h o
theorem RowIs.set {W : World} {g : Nat} {Q : List E} (h : RowIs W g Q) (j : Nat) (hj : j < Q.length) (x : E) : RowIs ((W.setCell ⟨g, j * 2, none⟩ (.int .i64 x.1)).setCell ⟨g, j * 2 + 1, none⟩ x.2.2) g (Q.set j x) := by
  obtain ⟨r, h⟩ := h
  refine ⟨r, ?_⟩
  have h1 := blk_set (blk_set h (j * 2) (.int .i64 x.1)) (j * 2 + 1) x.2.2
  have hl := rowE_len Q
  rw [h1, rowE_set Q j x hj]
  simp only [List.setIfInBounds_toArray]
  rw [List.set_append_left _ _ (by omega), List.set_append_left _ _ (by rw [List.length_set]; omega)]
theorem RowIs.type {W : World} {g : Nat} {Q : List E} (h : RowIs W g Q) {cs : Array Value} {t : TypeId} (hg : W.heap[g]? = some (.cells cs t (0, 0))) : t = 37 := by
  obtain ⟨_, h⟩ := h
  rw [h] at hg
  injection hg with hg
  injection hg with _ hg
  exact hg.symm
structure SortAt (W : World) (nb ng : Nat) (nv : List Int) (g : Nat) (Q : List E) : Prop where
  row : RowIs W g Q
  ok : ∀ q ∈ Q, OkE W nv.length q
  ctx : CtxAt W nb ng nv
theorem CtxAt.turns {F : Nat → Prop} {W W' : World} {nb ng : Nat} {nv : List Int} (h : CtxAt W nb ng nv) (ht : Turns F W W') (hF : ∀ j, F j → ∀ cs t, W.heap[j]? = some (.cells cs t (0, 0)) → t = 37) : CtxAt W' nb ng nv := by
  obtain ⟨h1, ⟨id, val, r, pi, po, h2, h3⟩, h4⟩ := h
  have hn : ∀ j cs t, W.heap[j]? = some (.cells cs t (0, 0)) → t ≠ 37 → ¬ F j := fun j cs t hj ht' hf => ht' (hF j hf cs t hj)
  refine ⟨ht.keep h1 (hn _ _ _ h1 (by decide)), ⟨id, val, r, pi, po, ht.keep h2 (hn _ _ _ h2 (by decide)), ?_⟩, h4⟩
  exact (h3.keep (Kp.turns ht (fun j _ hf hh => by obtain ⟨cur, t, e, htt⟩ := hh; have := hF j hf cur t e; rcases htt with h | h <;> (rw [this] at h; exact absurd h (by decide))))).more ht.size
theorem OkE.turns {F : Nat → Prop} {W W' : World} {n : Nat} {q : E} (h : OkE W n q) (ht : Turns F W W') (hF : ∀ j, F j → ∀ cs t, W.heap[j]? = some (.cells cs t (0, 0)) → t = 37) : OkE W' n q :=
  ⟨(h.1.keep (Kp.turns ht (fun j _ hf hh => by obtain ⟨cur, t, e, htt⟩ := hh; have := hF j hf cur t e; rcases htt with h | h <;> (rw [this] at h; exact absurd h (by decide))))).more ht.size, h.2⟩
theorem SortAt.below {W W' : World} {nb ng : Nat} {nv : List Int} {g : Nat} {Q : List E} (h : SortAt W nb ng nv g Q) (hb : Below W.heap.size W W') : SortAt W' nb ng nv g Q := by
  have ht : Turns (fun _ => False) W W' := Turns.of_below hb
  exact ⟨h.row.same (hb.block g h.row.lt), fun q hq => (h.ok q hq).turns ht (fun _ hf => hf.elim), h.ctx.turns ht (fun _ hf => hf.elim)⟩
theorem SortAt.drew {W : World} {nb ng : Nat} {nv : List Int} {g : Nat} {Q : List E} (h : SortAt W nb ng nv g Q) : SortAt W.drew nb ng nv g Q := h.below (below_drew1 (Below.refl _ _))
theorem SortAt.lt {W : World} {nb ng : Nat} {nv : List Int} {g : Nat} {Q : List E} (h : SortAt W nb ng nv g Q) : g < W.heap.size := h.row.lt
theorem SortAt.mem {W : World} {nb ng : Nat} {nv : List Int} {g : Nat} {Q : List E} (h : SortAt W nb ng nv g Q) (j : Nat) (hj : j < Q.length) : OkE W nv.length (Q.getD j dE) := by
  refine h.ok _ ?_
  rw [List.getD_eq_getElem?_getD, List.getElem?_eq_getElem hj]
  exact List.getElem_mem hj
theorem SortAt.put {W W' : World} {nb ng : Nat} {nv : List Int} {g : Nat} {Q Q' : List E} (h : SortAt W nb ng nv g Q) (ht : Turns (fun j => j = g) W W') (hr : RowIs W' g Q') (hp : ∀ q ∈ Q', q ∈ Q) : SortAt W' nb ng nv g Q' := by
  have hF : ∀ j, j = g → ∀ cs t, W.heap[j]? = some (.cells cs t (0, 0)) → t = 37 := fun j e cs t hj => by
    subst e
    exact h.row.type hj
  exact ⟨hr, fun q hq => (h.ok q (hp q hq)).turns ht hF, h.ctx.turns ht hF⟩

/-- How far a point of the row is. -/
def keyE (nv : List Int) (q : E) : Int := distN nv q.2.1
theorem cmpI_neg (a b : Int) : Lib.compareInt a b < 0 ↔ a < b := by
  unfold Lib.compareInt
  by_cases h1 : a < b
  · simp [h1]
  · by_cases h2 : b < a <;> simp [h1, h2]
theorem slice_val {W : World} {b : Nat} {val : Value} {v : List Int} (h : VecAt W b val v) : ∃ A n c, val = .slice A n c := by
  obtain ⟨j, c, cur, rfl, _⟩ := h
  exact ⟨_, _, _, rfl⟩
set_option maxRecDepth 100000 in
set_option maxHeartbeats 2000000 in
theorem cmpE_calls (W : World) (nb ng : Nat) (nv : List Int) (hc : CtxAt W nb ng nv) (x y : E) (hx : OkE W nv.length x) (hy : OkE W nv.length y) :
    Calls Try.prog 54 #[.agg #[.int .i64 x.1, x.2.2], .agg #[.int .i64 y.1, y.2.2], .pointer (some ⟨nb, 0, none⟩)] W fun e w' => e = .returned (.int .i64 (Lib.compareInt (keyE nv x) (keyE nv y))) ∧ Below W.heap.size W w' := by
  obtain ⟨hbx, ⟨nid, nval, nr, npi, npo, hnd, hnvec⟩, hnv⟩ := hc
  obtain ⟨AN, cN, rfl, hCN, _⟩ := hnvec.form (by have := (isV_len hnv).2; omega)
  obtain ⟨AX, cX, exv, hCX, _⟩ := hx.1.form (by have := (isV_len hx.2.1).2; omega)
  obtain ⟨AY, cY, eyv, hCY, _⟩ := hy.1.form (by have := (isV_len hy.2.1).2; omega)
  rw [exv, eyv]
  have hb1 := below_alloc (below_alloc (Below.refl W.heap.size W) (.cells #[.int .i64 x.1, .slice AX x.2.1.length cX] 37)) (.cells #[.int .i64 y.1, .slice AY y.2.1.length cY] 37)
  have HDX := Aside0.mk (fun (W' : World) (hb : Below W.heap.size W W') => dist_calls AN AX cN cX nv x.2.1 W' (Kd.C_below hCN hb) (Kd.C_below hCX hb) hnv hx.2.1 hx.2.2.1)
  have HDY := Aside0.mk (fun (W' : World) (hb : Below W.heap.size W W') => dist_calls AN AY cN cY nv y.2.1 W' (Kd.C_below hCN hb) (Kd.C_below hCY hb) hnv hy.2.1 hy.2.2.1)
  obtain ⟨kx, hkx⟩ : ∃ kx, distN nv x.2.1 = kx := ⟨_, rfl⟩
  obtain ⟨ky, hky⟩ : ∃ ky, distN nv y.2.1 = ky := ⟨_, rfl⟩
  have HF : Aside0 (Lib.compareInt (keyE nv x) (keyE nv y) = Lib.compareInt kx ky) := ⟨by unfold keyE; rw [hkx, hky]⟩
  rw [hkx] at HDX
  rw [hky] at HDY
  rw [HF.out]
  obtain ⟨n0, hn0⟩ : ∃ n0, nv.length = n0 := ⟨_, rfl⟩
  obtain ⟨n1, hn1⟩ : ∃ n1, x.2.1.length = n1 := ⟨_, rfl⟩
  obtain ⟨n2, hn2⟩ : ∃ n2, y.2.1.length = n2 := ⟨_, rfl⟩
  obtain ⟨x1, hx1⟩ : ∃ x1, x.1 = x1 := ⟨_, rfl⟩
  obtain ⟨y1, hy1⟩ : ∃ y1, y.1 = y1 := ⟨_, rfl⟩
  rw [hn0] at HDX HDY hnd
  rw [hn1, hx1] at hb1
  rw [hn2, hy1] at hb1
  rw [hn1] at HDX
  rw [hn2] at HDY
  rw [hn1, hn2, hx1, hy1]
  obtain ⟨w1, hw1⟩ : ∃ w1, (W.alloc (.cells #[.int .i64 x1, .slice AX n1 cX] 37)).alloc (.cells #[.int .i64 y1, .slice AY n2 cY] 37) = w1 := ⟨_, rfl⟩
  have b2 : w1.drew.cell? ⟨W.heap.size, 1, none⟩ = some (.slice AX n1 cX) := (blk_cell (show w1.heap[W.heap.size]? = some (.cells #[.int .i64 x1, .slice AX n1 cX] 37 (0, 0)) by rw [← hw1]; exact blk_alloc (blk_new _ _) _) 1).trans rfl
  have b3 : w1.drew.cell? ⟨W.heap.size + 1, 1, none⟩ = some (.slice AY n2 cY) := (blk_cell (show w1.heap[W.heap.size + 1]? = some (.cells #[.int .i64 y1, .slice AY n2 cY] 37 (0, 0)) by rw [← hw1]; have := blk_new (W.alloc (.cells #[.int .i64 x1, .slice AX n1 cX] 37)) (.cells #[.int .i64 y1, .slice AY n2 cY] 37); simpa using this) 1).trans rfl
  rw [hw1] at hb1
  have HW1 := Aside0.mk hw1
  have b0 : w1.drew.cell? ⟨nb, 0, none⟩ = some (.pointer (some ⟨ng, 0, none⟩)) := pw_cell_below hb1 ((blk_cell hbx 0).trans rfl)
  have b1 : w1.drew.cell? ⟨ng, 1, none⟩ = some (.slice AN n0 cN) := pw_cell_below hb1 ((blk_cell hnd 1).trans rfl)
  have b4 := below_drew1 hb1
  have HB1 := Aside0.mk hb1
  clear hb1 hw1 hx hy hCN hCX hCY hbx hnd hnvec hkx hky hn0 hn1 hn2 hx1 hy1 exv eyv
  go_enter Try.func54, Try.ntmps54
  go_upto_region 1 with (fail)
  rw [HW1.out]
  go_region_held3 (fun w' => w'.cell? ⟨nb, 0, none⟩ = some (.pointer (some ⟨ng, 0, none⟩)) ∧ w'.cell? ⟨ng, 1, none⟩ = some (.slice AN n0 cN) ∧ w'.cell? ⟨W.heap.size, 1, none⟩ = some (.slice AX n1 cX) ∧ w'.cell? ⟨W.heap.size + 1, 1, none⟩ = some (.slice AY n2 cY) ∧ Below W.heap.size W w')
    (first | (go_split_ands; refine ⟨?_, ?_, ?_, ?_, ?_⟩ <;> assumption) | (go_split_ands; refine ⟨?_, ?_, ?_, ?_, ?_⟩ <;> (first | (refine pw_cell_below hb9 ?_; assumption) | (refine below_step ?_ hb9; assumption))) | (go_keep; done))
    (first | (go_at_call 35; ((with_reducible refine (HDX.out _ (by assumption)).mono ?_); rintro e w9 ⟨rfl, hb9⟩)) | (go_at_call 35; ((with_reducible refine (HDY.out _ (by first | assumption | exact below_step b4 hb9)).mono ?_); rintro e w9 ⟨rfl, hb9⟩)) | (go_at_call 49; refine (compare_calls2 _ _ _).mono ?_; rintro e w9 ⟨rfl, rfl⟩))
  all_goals (go_wp2_with fail; go_ret; rename_i hH9; exact ⟨rfl, hH9.2.2.2.2⟩)
end Go.Proofs.Ytealiaafdkhonaa.Vp

namespace Go.Proofs.Ytealiaafdkhonaa.Vp
open Go.RowKit Go.Sort Mb Base Sq Go.Proofs.YtealiaafdkhonaaW.PrintWords Go.Proofs.YtealiaafdkhonaaW.PrintLast Go.Proofs.YtealiaafdkhonaaW.PrintMore
set_option linter.unusedVariables false
set_option linter.unusedSimpArgs false
theorem add_ad {ad : Addr} {g : Nat} (h : ad = ⟨g, 0, none⟩) (k : Nat) : ad.add k = ⟨g, k, none⟩ := by
  subst h; unfold Addr.add; split <;> simp_all
theorem cell_row {W : World} {g : Nat} {Q : List E} (h : RowIs W g Q) {ad : Addr} (ha : ad = ⟨g, 0, none⟩) (j : Nat) (hj : j < Q.length) :
    W.cell? (ad.add (j * 2)) = some (.int .i64 (Q.getD j dE).1) ∧ W.cell? ⟨(ad.add (j * 2)).block, (ad.add (j * 2)).off + 1, none⟩ = some (Q.getD j dE).2.2 := by
  rw [add_ad ha]; exact h.cell j hj
theorem SortAt.cell_ad {W : World} {nb ng : Nat} {nv : List Int} {g : Nat} {Q : List E} (h : SortAt W nb ng nv g Q) {ad : Addr} (ha : ad = ⟨g, 0, none⟩) (j : Nat) (hj : j < Q.length) :
    W.cell? (ad.add (j * 2)) = some (.int .i64 (Q.getD j dE).1) ∧ W.cell? ⟨(ad.add (j * 2)).block, (ad.add (j * 2)).off + 1, none⟩ = some (Q.getD j dE).2.2 := cell_row h.row ha j hj
theorem frozen_ad {W : World} {g : Nat} {Q : List E} (h : RowIs W g Q) {ad : Addr} (ha : ad = ⟨g, 0, none⟩) (j : Nat) : W.frozen? (ad.add (j * 2)) = false ∧ W.frozen? ⟨(ad.add (j * 2)).block, (ad.add (j * 2)).off + 1, none⟩ = false := by
  rw [add_ad ha]; exact ⟨h.frozen _, h.frozen _⟩
theorem set_row_ad {W : World} {g : Nat} {Q : List E} (h : RowIs W g Q) {ad : Addr} (ha : ad = ⟨g, 0, none⟩) (j : Nat) (hj : j < Q.length) (x : E) :
    RowIs ((W.setCell (ad.add (j * 2)) (.int .i64 x.1)).setCell ⟨(ad.add (j * 2)).block, (ad.add (j * 2)).off + 1, none⟩ x.2.2) g (Q.set j x) := by
  rw [add_ad ha]; exact h.set j hj x
theorem turns_ad {W0 W : World} {g : Nat} {ad : Addr} (ha : ad = ⟨g, 0, none⟩) (h : Turns (fun j => j = g) W0 W) (j : Nat) (u v : Value) : Turns (fun j => j = g) W0 ((W.setCell (ad.add (j * 2)) u).setCell ⟨(ad.add (j * 2)).block, (ad.add (j * 2)).off + 1, none⟩ v) := by
  rw [add_ad ha]
  exact turns_put (turns_put h (p := ⟨g, j * 2, none⟩) rfl u) (p := ⟨g, j * 2 + 1, none⟩) rfl v
theorem second_cell {W : World} {p : Addr} {u v : Value} (h : W.cell? ⟨p.block, p.off + 1, none⟩ = some v) : (W.setCell p u).cell? ⟨p.block, p.off + 1, none⟩ = some v :=
  (World.cell?_setCell_other W p _ u (fun e => by have := congrArg Addr.off e; simp at this)).trans h
theorem swap_mem {Q : List E} {p q : Nat} (hp : p < Q.length) (hq : q < Q.length) : ∀ z ∈ swapL dE Q p q, z ∈ Q := fun z hz => (swap_perm Q hp hq).mem_iff.1 hz
/-- Both stores of an exchange are done. -/
theorem swapped {w wS : World} {nb ng : Nat} {nv : List Int} {g : Nat} {Q : List E} (h : SortAt w nb ng nv g Q) {p q : Nat} (hp : p < Q.length) (hq : q < Q.length) (ht : Turns (fun j => j = g) w wS) (hr : RowIs wS g ((Q.set p (Q.getD q dE)).set q (Q.getD p dE))) : SortAt wS nb ng nv g (swapL dE Q p q) :=
  h.put ht hr (swap_mem hp hq)
end Go.Proofs.Ytealiaafdkhonaa.Vp

namespace Go.Proofs.Ytealiaafdkhonaa.Vp
open Go.RowKit Go.Sort Mb Base Sq Go.Proofs.YtealiaafdkhonaaW.PrintWords Go.Proofs.YtealiaafdkhonaaW.PrintLast Go.Proofs.YtealiaafdkhonaaW.PrintMore
set_option linter.unusedVariables false
set_option linter.unusedSimpArgs false
noncomputable def so90_3.T : Bool × List (List Nat × List Nat) := rtab .any (opsOf Try.f90 3)
def so90_3.B : List Nat := [0, 0, 0, 6, 0, 0, 0, 96, 0, 0, 0, 1536, 3840, 7936, 0, 0, 0, 98304, 245760, 507904, 1048335, 2096911, 4194303, 8388607]
theorem so90_3.tab : rtab .any (opsOf Try.f90 3) = so90_3.T := rfl
theorem so90_3.bits : waitsOk so90_3.T.2 so90_3.B = true := by kernel_rfl
structure SortDone (W : World) (nb ng : Nat) (nv : List Int) (g : Nat) (Q : List E) (P : List E → Prop) (e : Ending) (w' : World) : Prop where
  ret : e = .returned (.tuple #[])
  ex : ∃ Q', SortAt w' nb ng nv g Q' ∧ P Q'
  turns : Turns (fun j => j = g) W w'

theorem swap_mid (P M R : List E) (x y : E) : swapL dE (P ++ x :: (M ++ y :: R)) P.length (P.length + 1 + M.length) = P ++ y :: (M ++ x :: R) := by
  have e1 : (P ++ x :: (M ++ y :: R)).getD P.length dE = x := by simp [List.getD_eq_getElem?_getD]
  have e2 : (P ++ x :: (M ++ y :: R)).getD (P.length + 1 + M.length) dE = y := by
    rw [List.getD_eq_getElem?_getD, List.getElem?_append_right (by omega), show P.length + 1 + M.length - P.length = M.length + 1 by omega, List.getElem?_cons_succ, List.getElem?_append_right (by omega)]
    simp
  unfold swapL
  rw [e1, e2, List.set_append_right _ _ (by omega), Nat.sub_self, List.set_cons_zero, List.set_append_right _ _ (by omega), show P.length + 1 + M.length - P.length = M.length + 1 by omega, List.set_cons_succ, List.set_append_right _ _ (by omega), Nat.sub_self, List.set_cons_zero]
theorem swap_step {X Y : List E} {P M R : List E} {n i : Nat} (hx : X.length = n) (hy : Y.length = n) (hi : i < n) :
    swapL dE (P ++ ((Y.take i ++ X.drop i) ++ (M ++ ((X.take i ++ Y.drop i) ++ R)))) (P.length + i) (P.length + n + M.length + i) = P ++ ((Y.take (i + 1) ++ X.drop (i + 1)) ++ (M ++ ((X.take (i + 1) ++ Y.drop (i + 1)) ++ R))) := by
  have hx' : i < X.length := by omega
  have hy' : i < Y.length := by omega
  have h := swap_mid (P ++ Y.take i) (X.drop (i + 1) ++ (M ++ X.take i)) (Y.drop (i + 1) ++ R) X[i] Y[i]
  rw [show (P ++ Y.take i).length = P.length + i by simp; omega, show P.length + i + 1 + (X.drop (i + 1) ++ (M ++ X.take i)).length = P.length + n + M.length + i by simp; omega] at h
  rw [List.drop_eq_getElem_cons hx', List.drop_eq_getElem_cons hy', List.take_succ_eq_append_getElem hx', List.take_succ_eq_append_getElem hy']
  simpa only [List.append_assoc, List.cons_append, List.nil_append] using h
set_option maxRecDepth 100000 in
set_option maxHeartbeats 4000000 in
theorem swapRange_calls (W : World) (nb ng : Nat) (nv : List Int) (g : Nat) (P X M Y R : List E) (n c : Nat) (fv : Value) (hx : X.length = n) (hy : Y.length = n) (h : SortAt W nb ng nv g (P ++ (X ++ (M ++ (Y ++ R))))) (N : Nat) (hN : (P ++ (X ++ (M ++ (Y ++ R)))).length = N) (hNb : N ≤ 1000000) :
    Calls Try.prog 90 #[.slice (some ⟨g, 0, none⟩) N c, .int .i64 (P.length : Nat), .int .i64 ((P.length + n + M.length : Nat) : Int), .int .i64 (n : Nat), fv] W (SortDone W nb ng nv g (P ++ (X ++ (M ++ (Y ++ R)))) (fun Q' => Q' = P ++ (Y ++ (M ++ (X ++ R))))) := by
  obtain ⟨ad, had⟩ : ∃ ad : Addr, ad = ⟨g, 0, none⟩ := ⟨_, rfl⟩
  rw [← had]
  have HAD := Aside0.mk had
  clear had
  have HN := Aside0.mk hN
  have hlen : P.length + n + M.length + n ≤ N := by simp [hx, hy] at hN; omega
  obtain ⟨a, ha⟩ : ∃ a, P.length = a := ⟨_, rfl⟩
  obtain ⟨b, hb⟩ : ∃ b, P.length + n + M.length = b := ⟨_, rfl⟩
  have HA := Aside0.mk ha
  have HB := Aside0.mk hb
  have hab : a + n ≤ b := by omega
  rw [hb] at hlen
  rw [hb, ha]
  have HX := Aside0.mk hx
  have HY := Aside0.mk hy
  have HSA0 := Aside0.mk h
  clear hN ha hb hx hy h
  go_enter Try.func90, Try.ntmps90
  go_wp2_with fail
  go_loopw [10] (fun z wr => ∃ i : Nat, z = .int .i64 i ∧ i ≤ n ∧ Aside0 (SortAt wr nb ng nv g (P ++ ((Y.take i ++ X.drop i) ++ (M ++ ((X.take i ++ Y.drop i) ++ R))))) ∧ Aside0 (Turns (fun j => j = g) W wr)) (fun z _ => n - (intOf z).toNat)
  case atStart => exact ⟨0, rfl, by omega, ⟨by simpa using HSA0.out⟩, ⟨Turns.rfl_ W⟩⟩
  case round =>
    obtain ⟨i, rfl, hin, HSAi, HTW⟩ := hrel
    by_cases hi : i < n
    · have hii : (i : Int) < (n : Int) := by omega
      obtain ⟨Q, hQ⟩ : ∃ Q, P ++ ((Y.take i ++ X.drop i) ++ (M ++ ((X.take i ++ Y.drop i) ++ R))) = Q := ⟨_, rfl⟩
      have HQ := Aside0.mk hQ
      have hQl : Q.length = N := by
        rw [← hQ, ← HN.out]; have := HX.out; have := HY.out; simp [List.length_take, List.length_drop]; omega
      have HSA : Aside0 (SortAt wr nb ng nv g Q) := ⟨by rw [← hQ]; exact HSAi.out⟩
      have hxl : a + i < Q.length := by omega
      have hyl : b + i < Q.length := by omega
      have HQL := Aside0.mk hQl
      have f1 : (0 : Int) ≤ (a : Int) + (i : Int) := by omega
      have f2 : (a : Int) + (i : Int) < (N : Int) := by omega
      have f3 : (0 : Int) ≤ (b : Int) + (i : Int) := by omega
      have f4 : (b : Int) + (i : Int) < (N : Int) := by omega
      have f5 : ((a : Int) + (i : Int)).toNat = a + i := by omega
      have f6 : ((b : Int) + (i : Int)).toNat = b + i := by omega
      have f7 : IntKind.i64.wrap ((a : Int) + (i : Int)) = (a : Int) + (i : Int) := IntWalk.i64_in _ (by omega)
      have f8 : IntKind.i64.wrap ((b : Int) + (i : Int)) = (b : Int) + (i : Int) := IntWalk.i64_in _ (by omega)
      clear HSAi hQ hQl
      go_upto_region 3 with (fail)
      obtain ⟨xv, hxv⟩ : ∃ xv, Q.getD (a + i) dE = xv := ⟨_, rfl⟩
      obtain ⟨yv, hyv⟩ : ∃ yv, Q.getD (b + i) dE = yv := ⟨_, rfl⟩
      have HXV := Aside0.mk hxv
      have HYV := Aside0.mk hyv
      obtain ⟨cx0, cx1⟩ := HSA.out.drew.cell_ad HAD.out (a + i) hxl
      obtain ⟨cy0, cy1⟩ := HSA.out.drew.cell_ad HAD.out (b + i) hyl
      obtain ⟨xA, xN, xC, hxs⟩ := slice_val (HSA.out.mem (a + i) hxl).1
      obtain ⟨yA, yN, yC, hys⟩ := slice_val (HSA.out.mem (b + i) hyl).1
      rw [hxv] at cx0 cx1 hxs
      rw [hyv] at cy0 cy1 hys
      rw [hxs] at cx1
      rw [hys] at cy1
      obtain ⟨x1, hx1⟩ : ∃ x1, xv.1 = x1 := ⟨_, rfl⟩
      obtain ⟨y1, hy1⟩ : ∃ y1, yv.1 = y1 := ⟨_, rfl⟩
      rw [hx1] at cx0
      rw [hy1] at cy0
      have HEX := Aside0.mk (⟨hx1, hxs⟩ : xv.1 = x1 ∧ xv.2.2 = .slice xA xN xC)
      have HEY := Aside0.mk (⟨hy1, hys⟩ : yv.1 = y1 ∧ yv.2.2 = .slice yA yN yC)
      have HRW := Aside0.mk HSA.out.row.drew
      have HTD : Aside0 (Turns (fun j => j = g) wr wr.drew) := ⟨Turns.drew (Turns.rfl_ _)⟩
      have HZ := Aside0.mk (frozen_ad HRW.out HAD.out (a + i))
      clear hxv hyv hx1 hy1 hxs hys
      refine start_ (n := 24) (S := fun w' => w'.cell? (ad.add ((a + i) * 2)) = some (.int .i64 x1) ∧ w'.cell? ⟨(ad.add ((a + i) * 2)).block, (ad.add ((a + i) * 2)).off + 1, none⟩ = some (.slice xA xN xC) ∧ w'.cell? (ad.add ((b + i) * 2)) = some (.int .i64 y1) ∧ w'.cell? ⟨(ad.add ((b + i) * 2)).block, (ad.add ((b + i) * 2)).off + 1, none⟩ = some (.slice yA yN yC)) (ds := [21, 23]) #[false, false, false, false, false, false, false, false, false, false, false, false, false, false, false, false, false, false, false, false, false, false, false, false] (by kernel_rfl) rfl rfl ⟨cx0, cx1, cy0, cy1⟩ (fun hHeld => ?_)
      refine with_tabW so90_3.tab so90_3.bits (fun HT_ HW_ => ?_)
      generalize hwD : wr.drew = wD at *
      refine pure_ (i := 0) (N := some 16) (v := ?_) (a' := ?_) #[true, false, false, false, false, false, false, false, false, false, false, false, false, false, false, false, false, false, false, false, false, false, false, false] rfl rfl (any_of HT_.out (by kernel_rfl)) (fun _ _ _ h => h) (Or.inl ⟨by rfl, ?_⟩) ?_ ?_
      rotate_left
      · intro w'
        go_simp
        with_reducible rfl
      rotate_left
      · simp only [Act.put, List.setIfInBounds_toArray, List.set_cons_zero, List.set_cons_succ, i64_w, i32_w]
        rfl
      refine pure_ (i := 1) (N := some 17) (v := ?_) (a' := ?_) #[true, true, false, false, false, false, false, false, false, false, false, false, false, false, false, false, false, false, false, false, false, false, false, false] rfl rfl (any_of HT_.out (by kernel_rfl)) (fun _ _ _ h => h) (Or.inl ⟨by rfl, ?_⟩) ?_ ?_
      rotate_left
      · intro w'
        go_simp
        with_reducible rfl
      rotate_left
      · simp only [Act.put, List.setIfInBounds_toArray, List.set_cons_zero, List.set_cons_succ, i64_w, i32_w]
        rfl
      refine pure_ (i := 2) (N := some 18) (v := ?_) (a' := ?_) #[true, true, true, false, false, false, false, false, false, false, false, false, false, false, false, false, false, false, false, false, false, false, false, false] rfl rfl (any_of HT_.out (by kernel_rfl)) (fun _ _ _ h => h) (Or.inl ⟨by rfl, ?_⟩) ?_ ?_
      rotate_left
      · intro w'
        go_simp
        with_reducible rfl
      rotate_left
      · simp only [Act.put, List.setIfInBounds_toArray, List.set_cons_zero, List.set_cons_succ, i64_w, i32_w]
        rfl
      refine pure_ (i := 3) (N := some 19) (v := ?_) (a' := ?_) #[true, true, true, true, false, false, false, false, false, false, false, false, false, false, false, false, false, false, false, false, false, false, false, false] rfl rfl (any_of HT_.out (by kernel_rfl)) (fun _ _ _ h => h) (Or.inl ⟨by rfl, ?_⟩) ?_ ?_
      rotate_left
      · intro w'
        go_simp
        with_reducible rfl
      rotate_left
      · simp only [Act.put, List.setIfInBounds_toArray, List.set_cons_zero, List.set_cons_succ, i64_w, i32_w]
        rfl
      refine pure_ (i := 4) (N := some 20) (v := ?_) (a' := ?_) #[true, true, true, true, true, false, false, false, false, false, false, false, false, false, false, false, false, false, false, false, false, false, false, false] rfl rfl (any_of HT_.out (by kernel_rfl)) (fun _ _ _ h => h) (Or.inl ⟨by rfl, ?_⟩) ?_ ?_
      rotate_left
      · intro w'
        go_simp
        with_reducible rfl
      rotate_left
      · simp only [Act.put, List.setIfInBounds_toArray, List.set_cons_zero, List.set_cons_succ, i64_w, i32_w]
        rfl
      refine pure_ (i := 5) (N := some 21) (v := ?_) (a' := ?_) #[true, true, true, true, true, true, false, false, false, false, false, false, false, false, false, false, false, false, false, false, false, false, false, false] rfl rfl (any_of HT_.out (by kernel_rfl)) (fun _ _ _ h => h) (Or.inl ⟨by rfl, ?_⟩) ?_ ?_
      rotate_left
      · intro w'
        go_simp
        with_reducible rfl
      rotate_left
      · simp only [Act.put, List.setIfInBounds_toArray, List.set_cons_zero, List.set_cons_succ, i64_w, i32_w]
        rfl
      refine pure_ (i := 6) (N := some 22) (v := ?_) (a' := ?_) #[true, true, true, true, true, true, true, false, false, false, false, false, false, false, false, false, false, false, false, false, false, false, false, false] rfl rfl (any_of HT_.out (by kernel_rfl)) (fun _ _ _ h => h) (Or.inl ⟨by rfl, ?_⟩) ?_ ?_
      rotate_left
      · intro w'
        go_simp
        with_reducible rfl
      rotate_left
      · simp only [Act.put, List.setIfInBounds_toArray, List.set_cons_zero, List.set_cons_succ, i64_w, i32_w]
        rfl
      refine pure_ (i := 7) (N := some 23) (v := ?_) (a' := ?_) #[true, true, true, true, true, true, true, true, false, false, false, false, false, false, false, false, false, false, false, false, false, false, false, false] rfl rfl (any_of HT_.out (by kernel_rfl)) (fun _ _ _ h => h) (Or.inl ⟨by rfl, ?_⟩) ?_ ?_
      rotate_left
      · intro w'
        go_simp
        with_reducible rfl
      rotate_left
      · simp only [Act.put, List.setIfInBounds_toArray, List.set_cons_zero, List.set_cons_succ, i64_w, i32_w]
        rfl
      refine pure_ (i := 8) (N := some 24) (v := ?_) (a' := ?_) #[true, true, true, true, true, true, true, true, true, false, false, false, false, false, false, false, false, false, false, false, false, false, false, false] rfl rfl (any_of HT_.out (by kernel_rfl)) (fun _ _ _ h => h) (Or.inl ⟨by rfl, ?_⟩) ?_ ?_
      rotate_left
      · intro w'
        go_simp
        with_reducible rfl
      rotate_left
      · simp only [Act.put, List.setIfInBounds_toArray, List.set_cons_zero, List.set_cons_succ, i64_w, i32_w]
        rfl
      refine pure_ (i := 9) (N := some 25) (v := ?_) (a' := ?_) #[true, true, true, true, true, true, true, true, true, true, false, false, false, false, false, false, false, false, false, false, false, false, false, false] rfl rfl (any_of HT_.out (by kernel_rfl)) (fun _ _ _ h => h) (Or.inl ⟨by rfl, ?_⟩) ?_ ?_
      rotate_left
      · intro w'
        go_simp
        with_reducible rfl
      rotate_left
      · simp only [Act.put, List.setIfInBounds_toArray, List.set_cons_zero, List.set_cons_succ, i64_w, i32_w]
        rfl
      refine pure_ (i := 10) (N := some 26) (v := ?_) (a' := ?_) #[true, true, true, true, true, true, true, true, true, true, true, false, false, false, false, false, false, false, false, false, false, false, false, false] rfl rfl (any_of HT_.out (by kernel_rfl)) (fun _ _ _ h => h) (Or.inl ⟨by rfl, ?_⟩) ?_ ?_
      rotate_left
      · intro w'
        go_simp
        with_reducible rfl
      rotate_left
      · simp only [Act.put, List.setIfInBounds_toArray, List.set_cons_zero, List.set_cons_succ, i64_w, i32_w]
        rfl
      refine pure_ (i := 11) (N := some 27) (v := ?_) (a' := ?_) #[true, true, true, true, true, true, true, true, true, true, true, true, false, false, false, false, false, false, false, false, false, false, false, false] rfl rfl (any_of HT_.out (by kernel_rfl)) (fun _ _ _ h => h) (Or.inl ⟨by rfl, ?_⟩) ?_ ?_
      rotate_left
      · intro w'
        go_simp
        with_reducible rfl
      rotate_left
      · simp only [Act.put, List.setIfInBounds_toArray, List.set_cons_zero, List.set_cons_succ, i64_w, i32_w]
        rfl
      refine pure_ (i := 12) (N := some 28) (v := ?_) (a' := ?_) #[true, true, true, true, true, true, true, true, true, true, true, true, true, false, false, false, false, false, false, false, false, false, false, false] rfl rfl (any_of HT_.out (by kernel_rfl)) (fun _ _ _ h => h) (Or.inl ⟨by rfl, ?_⟩) ?_ ?_
      rotate_left
      · intro w'
        go_simp
        with_reducible rfl
      rotate_left
      · simp only [Act.put, List.setIfInBounds_toArray, List.set_cons_zero, List.set_cons_succ, i64_w, i32_w]
        rfl
      refine pure_ (i := 14) (N := some 30) (v := ?_) (a' := ?_) #[true, true, true, true, true, true, true, true, true, true, true, true, true, false, true, false, false, false, false, false, false, false, false, false] rfl rfl (any_of HT_.out (by kernel_rfl)) (fun _ _ _ h => h) (Or.inl ⟨by rfl, ?_⟩) ?_ ?_
      rotate_left
      · intro w'
        go_simp
        with_reducible rfl
      rotate_left
      · simp only [Act.put, List.setIfInBounds_toArray, List.set_cons_zero, List.set_cons_succ, i64_w, i32_w]
        rfl
      refine pure_ (i := 15) (N := some 31) (v := ?_) (a' := ?_) #[true, true, true, true, true, true, true, true, true, true, true, true, true, false, true, true, false, false, false, false, false, false, false, false] rfl rfl (any_of HT_.out (by kernel_rfl)) (fun _ _ _ h => h) (Or.inl ⟨by rfl, ?_⟩) ?_ ?_
      rotate_left
      · intro w'
        go_simp
        with_reducible rfl
      rotate_left
      · simp only [Act.put, List.setIfInBounds_toArray, List.set_cons_zero, List.set_cons_succ, i64_w, i32_w]
        rfl
      refine pure_ (i := 16) (N := some 32) (v := ?_) (a' := ?_) #[true, true, true, true, true, true, true, true, true, true, true, true, true, false, true, true, true, false, false, false, false, false, false, false] rfl rfl (any_of HT_.out (by kernel_rfl)) (fun _ _ _ h => h) (Or.inl ⟨by rfl, ?_⟩) ?_ ?_
      rotate_left
      · intro w'
        go_simp
        with_reducible rfl
      rotate_left
      · simp only [Act.put, List.setIfInBounds_toArray, List.set_cons_zero, List.set_cons_succ, i64_w, i32_w]
        rfl
      refine pure_ (i := 17) (N := some 33) (v := ?_) (a' := ?_) #[true, true, true, true, true, true, true, true, true, true, true, true, true, false, true, true, true, true, false, false, false, false, false, false] rfl rfl (any_of HT_.out (by kernel_rfl)) (fun _ _ _ h => h) (Or.inl ⟨by rfl, ?_⟩) ?_ ?_
      rotate_left
      · intro w'
        go_simp
        with_reducible rfl
      rotate_left
      · simp only [Act.put, List.setIfInBounds_toArray, List.set_cons_zero, List.set_cons_succ, i64_w, i32_w]
        rfl
      refine pure_ (i := 18) (N := some 34) (v := ?_) (a' := ?_) #[true, true, true, true, true, true, true, true, true, true, true, true, true, false, true, true, true, true, true, false, false, false, false, false] rfl rfl (any_of HT_.out (by kernel_rfl)) (fun _ _ _ h => h) (Or.inl ⟨by rfl, ?_⟩) ?_ ?_
      rotate_left
      · intro w'
        go_simp
        with_reducible rfl
      rotate_left
      · simp only [Act.put, List.setIfInBounds_toArray, List.set_cons_zero, List.set_cons_succ, i64_w, i32_w]
        rfl
      refine take_ (i := 13) (N := some 29) (v := ?_) (a' := ?_) #[true, true, true, true, true, true, true, true, true, true, true, true, true, true, true, true, true, true, true, false, false, false, false, false] rfl rfl (take_ofW HT_.out HW_.out (by kernel_rfl)) (fun _ _ _ h => h) (Or.inl ⟨by rfl, ?_⟩) hHeld ?_ ?_
      rotate_left
      · rintro w' ⟨s0, s1, s2, s3⟩
        go_simp
        with_reducible rfl
      rotate_left
      · simp only [Act.put, List.setIfInBounds_toArray, List.set_cons_zero, List.set_cons_succ, i64_w, i32_w]
        rfl
      refine take_ (i := 19) (N := some 35) (v := ?_) (a' := ?_) #[true, true, true, true, true, true, true, true, true, true, true, true, true, true, true, true, true, true, true, true, false, false, false, false] rfl rfl (take_ofW HT_.out HW_.out (by kernel_rfl)) (fun _ _ _ h => h) (Or.inl ⟨by rfl, ?_⟩) hHeld ?_ ?_
      rotate_left
      · rintro w' ⟨s0, s1, s2, s3⟩
        go_simp
        with_reducible rfl
      rotate_left
      · simp only [Act.put, List.setIfInBounds_toArray, List.set_cons_zero, List.set_cons_succ, i64_w, i32_w]
        rfl
      refine pure_ (i := 20) (N := some 36) (v := ?_) (a' := ?_) #[true, true, true, true, true, true, true, true, true, true, true, true, true, true, true, true, true, true, true, true, true, false, false, false] rfl rfl (any_of HT_.out (by kernel_rfl)) (fun _ _ _ h => h) (Or.inl ⟨by rfl, ?_⟩) ?_ ?_
      rotate_left
      · intro w'
        go_simp
        with_reducible rfl
      rotate_left
      · simp only [Act.put, List.setIfInBounds_toArray, List.set_cons_zero, List.set_cons_succ, i64_w, i32_w]
        rfl
      refine last_ (i := 21) (N := none) #[true, true, true, true, true, true, true, true, true, true, true, true, true, true, true, true, true, true, true, true, true, true, false, false] rfl rfl (one_of HT_.out (by kernel_rfl)) (by decide) (fun K hK => ?_)
      obtain ⟨hz0, hz1⟩ := HZ.out
      obtain ⟨p0, p1, p2, p3⟩ := hHeld
      have p4 := second_cell (u := .int .i64 y1) p1
      refine skip_ (w1 := ?_) (by rfl) rfl ?_ ?_
      rotate_left
      · go_simp
        rfl
      have HR1 := Aside0.mk (set_row_ad HRW.out HAD.out (a + i) hxl yv)
      have HT1 := Aside0.mk (turns_ad HAD.out HTD.out (a + i) (.int .i64 yv.1) yv.2.2)
      rw [HEY.out.1, HEY.out.2] at HR1 HT1
      refine hK.out _ _ ?_
      clear hK K hz0 hz1 p0 p1 p2 p3 p4 HZ
      generalize hw1 : World.setCell (World.setCell wD _ _) _ _ = w1 at *
      clear hw1
      have HZ2 := Aside0.mk (frozen_ad HR1.out HAD.out (b + i))
      have HC2 := Aside0.mk (cell_row HR1.out HAD.out (b + i) (by rw [List.length_set]; exact hyl))
      refine pure_ (i := 22) (N := some 37) (v := ?_) (a' := ?_) #[true, true, true, true, true, true, true, true, true, true, true, true, true, true, true, true, true, true, true, true, true, true, true, false] rfl rfl (any_of HT_.out (by kernel_rfl)) (fun _ _ _ h => h) (Or.inl ⟨by rfl, ?_⟩) ?_ ?_
      rotate_left
      · intro w'
        go_simp
        with_reducible rfl
      rotate_left
      · simp only [Act.put, List.setIfInBounds_toArray, List.set_cons_zero, List.set_cons_succ, i64_w, i32_w]
        rfl
      refine last_ (i := 23) (N := none) #[true, true, true, true, true, true, true, true, true, true, true, true, true, true, true, true, true, true, true, true, true, true, true, true] rfl rfl (one_of HT_.out (by kernel_rfl)) (by decide) (fun K hK => ?_)
      obtain ⟨hz0, hz1⟩ := HZ2.out
      obtain ⟨p0, p1⟩ := HC2.out
      have p4 := second_cell (u := .int .i64 x1) p1
      refine skip_ (w1 := ?_) (by rfl) rfl ?_ ?_
      rotate_left
      · go_simp
        rfl
      have HR2 := Aside0.mk (set_row_ad HR1.out HAD.out (b + i) (by rw [List.length_set]; exact hyl) xv)
      have HT2 := Aside0.mk (turns_ad HAD.out HT1.out (b + i) (.int .i64 xv.1) xv.2.2)
      rw [HEX.out.1, HEX.out.2] at HR2 HT2
      refine hK.out _ _ ?_
      clear hK K hz0 hz1 p0 p1 p4 HZ2 HC2
      generalize hw2 : World.setCell (World.setCell w1 _ _) _ _ = wS at *
      clear hw2
      refine done_ (done_of HT_.out (by kernel_rfl)) ?_
      have HSW := Aside0.mk (swapped HSA.out hxl hyl HT2.out (by have := HR2.out; rw [← HYV.out, ← HXV.out] at this; exact this))
      have HSN : Aside0 (SortAt wS nb ng nv g (P ++ ((Y.take (i + 1) ++ X.drop (i + 1)) ++ (M ++ ((X.take (i + 1) ++ Y.drop (i + 1)) ++ R))))) := ⟨by
        have h1 := HSW.out
        rw [← HQ.out, ← HA.out, ← HB.out, swap_step HX.out HY.out hi] at h1
        exact h1⟩
      have HTN := Aside0.mk (HTW.out.trans_ HT2.out)
      clear f1 f2 f3 f4 f5 f6 f7 f8
      go_wp2_with fail
      go_roundw
      case rel => exact ⟨i + 1, by go_num, by omega, HSN, HTN⟩
      case measure => simp [intOf]; omega
    · obtain rfl : i = n := by omega
      have hii : ¬ (i : Int) < (i : Int) := by omega
      go_wp2_with fail
      refine bodyPost_end (results_none rfl _ _ _) rfl ?_
      exact ⟨rfl, ⟨_, HSAi.out, by have h1 := HX.out; have h2 := HY.out; rw [List.take_of_length_le (by omega), List.drop_of_length_le (by omega), List.take_of_length_le (by omega), List.drop_of_length_le (by omega)]; simp⟩, HTW.out⟩
end Go.Proofs.Ytealiaafdkhonaa.Vp

namespace Go.Proofs.Ytealiaafdkhonaa.Vp
open Go.RowKit Go.Sort Mb Base Sq Go.Proofs.YtealiaafdkhonaaW.PrintWords Go.Proofs.YtealiaafdkhonaaW.PrintLast Go.Proofs.YtealiaafdkhonaaW.PrintMore
set_option linter.unusedVariables false
set_option linter.unusedSimpArgs false

theorem swapRange_at (W : World) (nb ng : Nat) (nv : List Int) (g : Nat) (P X M Y R : List E) (n c : Nat) (fv : Value) (hx : X.length = n) (hy : Y.length = n) (N : Nat) (hN : (P ++ (X ++ (M ++ (Y ++ R)))).length = N) (hNb : N ≤ 1000000) (Q : List E) (hQ : Q = P ++ (X ++ (M ++ (Y ++ R)))) (h : SortAt W nb ng nv g Q)
    (p q k : Int) (hp : p = (P.length : Nat)) (hq : q = ((P.length + n + M.length : Nat) : Int)) (hk : k = (n : Nat)) (Q' : List E) (hQ' : Q' = P ++ (Y ++ (M ++ (X ++ R)))) :
    Calls Try.prog 90 #[.slice (some ⟨g, 0, none⟩) N c, .int .i64 p, .int .i64 q, .int .i64 k, fv] W (SortDone W nb ng nv g Q (fun Q2 => Q2 = Q')) := by
  subst hQ hp hq hk hQ'
  exact swapRange_calls W nb ng nv g P X M Y R n c fv hx hy h N hN hNb
set_option maxRecDepth 100000 in
set_option maxHeartbeats 4000000 in
theorem rotate_calls (W : World) (nb ng : Nat) (nv : List Int) (g : Nat) (P X Y R : List E) (c : Nat) (fv : Value) (hx : 1 ≤ X.length) (hy : 1 ≤ Y.length) (Q : List E) (hQ : Q = P ++ (X ++ (Y ++ R))) (h : SortAt W nb ng nv g Q) (N : Nat) (hN : Q.length = N) (hNb : N ≤ 1000000)
    (a m b : Int) (ha : a = (P.length : Nat)) (hm : m = ((P.length + X.length : Nat) : Int)) (hb : b = ((P.length + X.length + Y.length : Nat) : Int)) :
    Calls Try.prog 84 #[.slice (some ⟨g, 0, none⟩) N c, .int .i64 a, .int .i64 m, .int .i64 b, fv] W (SortDone W nb ng nv g Q (fun Q2 => Q2 = P ++ (Y ++ (X ++ R)))) := by
  obtain ⟨T, hT⟩ : ∃ T, P ++ (Y ++ (X ++ R)) = T := ⟨_, rfl⟩
  rw [hT]
  have hTl : T.length = N := by rw [← hT, ← hN, hQ]; simp; omega
  obtain ⟨i0, hi0⟩ : ∃ i0, X.length = i0 := ⟨_, rfl⟩
  obtain ⟨j0, hj0⟩ : ∃ j0, Y.length = j0 := ⟨_, rfl⟩
  obtain ⟨p0, hp0⟩ : ∃ p0, P.length = p0 := ⟨_, rfl⟩
  have hR : p0 + i0 + j0 ≤ N := by rw [← hN, hQ, ← hp0, ← hi0, ← hj0]; simp; omega
  rw [hi0] at hx hm hb
  rw [hj0] at hy hb
  rw [hp0] at ha hm hb
  obtain ⟨mm, hmm⟩ : ∃ mm, p0 + i0 = mm := ⟨_, rfl⟩
  rw [hmm] at hm hb
  have HINV : Aside0 (∃ P X Y R : List E, Q = P ++ (X ++ (Y ++ R)) ∧ X.length = i0 ∧ Y.length = j0 ∧ P.length + i0 = mm ∧ P ++ (Y ++ (X ++ R)) = T) := ⟨P, X, Y, R, hQ, hi0, hj0, by rw [hp0, hmm], hT⟩
  have hij : i0 ≤ mm ∧ mm + j0 ≤ N := by omega
  have HN := Aside0.mk hN
  have HSA0 := Aside0.mk h
  have g1 : m - a = (i0 : Int) := by omega
  have g2 : b - m = (j0 : Int) := by omega
  have HM := Aside0.mk hm
  have hm0 : 0 ≤ m := by omega
  have hm1 : m ≤ 1000000 := by omega
  obtain ⟨hij1, hij2⟩ := hij
  have hmN : m = (mm : Int) := hm
  clear hQ hT hTl hi0 hj0 hp0 hR hN h ha hb hm hmm
  subst hmN
  go_enter Try.func84, Try.ntmps84
  go_wp2_with fail
  go_loopw [10, 11] (fun z1 z2 wr => ∃ (i j : Nat) (Q' : List E), z1 = .int .i64 i ∧ z2 = .int .i64 j ∧ 1 ≤ i ∧ 1 ≤ j ∧ i ≤ mm ∧ mm + j ≤ N ∧ Aside0 (∃ P X Y R : List E, Q' = P ++ (X ++ (Y ++ R)) ∧ X.length = i ∧ Y.length = j ∧ P.length + i = mm ∧ P ++ (Y ++ (X ++ R)) = T) ∧ Aside0 (SortAt wr nb ng nv g Q') ∧ Aside0 (Q'.length = N) ∧ Aside0 (Turns (fun j => j = g) W wr)) (fun z1 z2 _ => (intOf z1).toNat + (intOf z2).toNat)
  case atStart => exact ⟨i0, j0, Q, rfl, rfl, hx, hy, by omega, by omega, HINV, HSA0, HN, ⟨Turns.rfl_ W⟩⟩
  case round =>
    obtain ⟨i, j, Q', rfl, rfl, hi1, hj1, him, hjm, HI, HS, HL, HT⟩ := hrel
    obtain ⟨P', X', Y', R', hQ', hX', hY', hP', hT'⟩ := HI.out
    by_cases hne : i = j
    · subst hne
      have hne2 : ((i : Int) != (i : Int)) = false := by simp
      have HC := Aside0.mk (swapRange_at wr nb ng nv g P' X' [] Y' R' i c fv hX' hY' N (by rw [← HL.out, hQ']; rfl) hNb Q' hQ' HS.out ((mm : Int) - (i : Int)) (mm : Int) (i : Int) (by omega) (by simp; omega) rfl T (by rw [← hT']; rfl))
      clear hQ' hX' hY' hP' hT'
      go_wp2_with (go_at_call 90; refine HC.out.mono ?_; rintro e w9 ⟨rfl, hex, ht9⟩; have HEX := Aside0.mk hex; have HT9 := Aside0.mk ht9; clear hex ht9)
      refine bodyPost_end (results_none rfl _ _ _) rfl ?_
      exact ⟨rfl, HEX.out, HT.out.trans_ HT9.out⟩
    · have hne2 : ((i : Int) != (j : Int)) = true := by rw [bne_iff_ne]; omega
      by_cases hgt : j < i
      · have hgt2 : (j : Int) < (i : Int) := by omega
        have HC := Aside0.mk (swapRange_at wr nb ng nv g P' (X'.take j) (X'.drop j) Y' R' j c fv (by rw [List.length_take]; omega) hY' N (by rw [← HL.out, hQ']; simp; omega) hNb Q' (by rw [hQ']; rw [← List.append_assoc (X'.take j), List.take_append_drop]) HS.out ((mm : Int) - (i : Int)) (mm : Int) (j : Int) (by omega) (by simp; omega) rfl _ rfl)
        have HI2 : Aside0 (∃ P X Y R : List E, P' ++ (Y' ++ (X'.drop j ++ (X'.take j ++ R'))) = P ++ (X ++ (Y ++ R)) ∧ X.length = i - j ∧ Y.length = j ∧ P.length + (i - j) = mm ∧ P ++ (Y ++ (X ++ R)) = T) :=
          ⟨P' ++ Y', X'.drop j, X'.take j, R', by simp, by rw [List.length_drop]; omega, by rw [List.length_take]; omega, by simp; omega, by rw [← hT', List.append_assoc, ← List.append_assoc (X'.take j), List.take_append_drop]⟩
        have HL2 : Aside0 ((P' ++ (Y' ++ (X'.drop j ++ (X'.take j ++ R')))).length = N) := ⟨by rw [← HL.out, hQ']; simp; omega⟩
        have g3 : (i : Int) - (j : Int) = ((i - j : Nat) : Int) := by omega
        have HG3 := Aside0.mk g3
        clear hQ' hX' hY' hP' hT' hne g3
        go_wp2_with (go_at_call 90; refine HC.out.mono ?_; rintro e w9 ⟨rfl, ⟨Q9, hs9, rfl⟩, ht9⟩; have HS9 := Aside0.mk hs9; have HT9 := Aside0.mk ht9; clear hs9 ht9)
        go_roundw
        case rel => exact ⟨i - j, j, _, by rw [HG3.out], rfl, by omega, hj1, by omega, hjm, HI2, HS9, HL2, ⟨HT.out.trans_ HT9.out⟩⟩
        case measure => simp [intOf]; omega
      · have hgt2 : ¬ (j : Int) < (i : Int) := by omega
        have HC := Aside0.mk (swapRange_at wr nb ng nv g P' X' (Y'.take (j - i)) (Y'.drop (j - i)) R' i c fv hX' (by rw [List.length_drop]; omega) N (by rw [← HL.out, hQ']; simp; omega) hNb Q' (by rw [hQ']; rw [← List.append_assoc (Y'.take (j - i)), List.take_append_drop]) HS.out ((mm : Int) - (i : Int)) ((mm : Int) + (j : Int) - (i : Int)) (i : Int) (by omega) (by simp; omega) rfl _ rfl)
        have HI2 : Aside0 (∃ P X Y R : List E, P' ++ (Y'.drop (j - i) ++ (Y'.take (j - i) ++ (X' ++ R'))) = P ++ (X ++ (Y ++ R)) ∧ X.length = i ∧ Y.length = j - i ∧ P.length + i = mm ∧ P ++ (Y ++ (X ++ R)) = T) :=
          ⟨P', Y'.drop (j - i), Y'.take (j - i), X' ++ R', by simp, by rw [List.length_drop]; omega, by rw [List.length_take]; omega, hP', by rw [← hT', ← List.append_assoc (Y'.take (j - i)), List.take_append_drop]⟩
        have HL2 : Aside0 ((P' ++ (Y'.drop (j - i) ++ (Y'.take (j - i) ++ (X' ++ R')))).length = N) := ⟨by rw [← HL.out, hQ']; simp; omega⟩
        have g3 : (j : Int) - (i : Int) = ((j - i : Nat) : Int) := by omega
        have HG3 := Aside0.mk g3
        clear hQ' hX' hY' hP' hT' g3
        go_wp2_with (go_at_call 90; refine HC.out.mono ?_; rintro e w9 ⟨rfl, ⟨Q9, hs9, rfl⟩, ht9⟩; have HS9 := Aside0.mk hs9; have HT9 := Aside0.mk ht9; clear hs9 ht9)
        go_roundw
        case rel => exact ⟨i, j - i, _, rfl, by rw [HG3.out], hi1, by omega, him, by omega, HI2, HS9, HL2, ⟨HT.out.trans_ HT9.out⟩⟩
        case measure => simp [intOf]; omega
end Go.Proofs.Ytealiaafdkhonaa.Vp
