/- Several texts in one: Sv, Op, Lp, Ho, Pr. -/
import Derived.Test.YtealiaafdkhonaaPk1
import Derived.Test.YtealiaafdkhonaaX0
import Derived.Test.YtealiaafdkhonaaProg
import Derived.OpenShut
import Derived.ProofKit
import Derived.Deep.Strs
import Derived.Test.YtealiaafdkhonaaPt
import Derived.Test.YtealiaafdkhonaaTd1
namespace Go.Proofs.Ytealiaafdkhonaa.Vp
open Go.RowKit Go.Sort Go.Proofs.YtealiaafdkhonaaW.PrintWords
set_option linter.unusedVariables false
set_option linter.unusedSimpArgs false
theorem best_one {lim : Int} {X : List (Int × Int)} {y : Int × Int} (hy : y ∈ X) (hl : y.2 ≤ lim) (hmin : ∀ z ∈ X, z.2 ≤ lim → hlt z y = false) : best 1 lim X = [y] := by
  unfold best
  have hF : y ∈ X.filter fun x => decide (x.2 ≤ lim) := List.mem_filter.2 ⟨hy, by simpa using hl⟩
  have hp := isort_perm (X.filter fun x => decide (x.2 ≤ lim))
  have hs := isort_sorted (X.filter fun x => decide (x.2 ≤ lim))
  have hy2 := hp.mem_iff.2 hF
  cases h : isort (X.filter fun x => decide (x.2 ≤ lim)) with
  | nil => rw [h] at hy2; cases hy2
  | cons z r =>
    rw [h] at hy2 hs hp
    have hz := List.mem_filter.1 (hp.mem_iff.1 (List.mem_cons_self (a := z) (l := r)))
    have h1 := hmin z hz.1 (by simpa using hz.2)
    have h2 : hlt y z = false := by
      rcases List.mem_cons.1 hy2 with rfl | hr
      · exact hlt_irr _
      · exact (List.pairwise_cons.1 hs).1 y hr
    rw [hle_anti h1 h2]
    rfl
def wd (p : Int × Int) : List Int := [p.1 % 256, p.2 % 256]
def at2 (l : List (Int × Int)) (k : Nat) : List Int := wd (l.getD k (0, 0))
def rowsL (l : List (Int × Int)) (n : Nat) : List (Int × List Int) := (List.range n).map fun (k : Nat) => ((k : Int), at2 l k)
theorem rows_succ (l : List (Int × Int)) (n : Nat) : rowsL l (n + 1) = rowsL l n ++ [((n : Int), at2 l n)] := by
  unfold rowsL
  rw [List.range_succ, List.map_append]
  rfl
theorem rows_len (l : List (Int × Int)) (n : Nat) : (rowsL l n).length = n := by simp [rowsL]
theorem rows_lt {l : List (Int × Int)} {n : Nat} {p : Int × List Int} (hp : p ∈ rowsL l n) : ∃ k : Nat, k < n ∧ p = ((k : Int), at2 l k) := by
  obtain ⟨k, hk, rfl⟩ := List.mem_map.1 hp
  exact ⟨k, List.mem_range.1 hk, rfl⟩
theorem put_end {x : Int} {v : List Int} : ∀ {L : List (Int × List Int)}, (∀ p ∈ L, p.1 < x) → putL x v L = L ++ [(x, v)]
  | [], _ => rfl
  | p :: L, h => by
    unfold putL
    rw [if_pos (h p (by simp)), put_end (fun q hq => h q (List.mem_cons_of_mem _ hq))]
    rfl
theorem rows_put (l : List (Int × Int)) (n : Nat) : putL (n : Int) (at2 l n) (rowsL l n) = rowsL l (n + 1) := by
  rw [rows_succ, put_end]
  intro p hp
  obtain ⟨k, hk, rfl⟩ := rows_lt hp
  show (k : Int) < (n : Int)
  omega
theorem rows_look (l : List (Int × Int)) (n : Nat) : look (rowsL l n) (n : Int) = none := by
  cases h : look (rowsL l n) (n : Int) with
  | none => rfl
  | some v =>
    obtain ⟨k, hk, e⟩ := rows_lt (look_mem h)
    injection e with e1 _
    omega
theorem at2_ok (l : List (Int × Int)) (k : Nat) : isV (at2 l k) = true ∧ (at2 l k).length = 2 := by
  refine ⟨?_, rfl⟩
  unfold at2 wd isV oddB
  simp
  omega
theorem gap_zero {x y : Int} : 0 ≤ gap x y ∧ (gap x y = 0 ↔ x = y) := by
  unfold gap
  split <;> constructor <;> first | omega | (constructor <;> intro h <;> omega)
theorem dist2 (p q : Int × Int) : distN (wd p) (wd q) = 0 + gap (p.1 % 256) (q.1 % 256) + gap (p.2 % 256) (q.2 % 256) := by
  unfold distN wd
  simp [distTo, YtealiaafdkhonaaW.PrintWords.rd]
theorem dist2_zero (p q : Int × Int) : 0 ≤ distN (wd p) (wd q) ∧ (distN (wd p) (wd q) ≤ 0 ↔ wd p = wd q) := by
  have h1 := @gap_zero (p.1 % 256) (q.1 % 256)
  have h2 := @gap_zero (p.2 % 256) (q.2 % 256)
  rw [dist2]
  refine ⟨by omega, ⟨fun h => ?_, fun h => ?_⟩⟩
  · have e1 := h1.2.1 (by omega)
    have e2 := h2.2.1 (by omega)
    unfold wd
    rw [e1, e2]
  · unfold wd at h
    injection h with e1 h
    injection h with e2 _
    have := h1.2.2 e1
    have := h2.2.2 e2
    omega
/-- Of those ahead of j that stand where i stands, m is not behind; nor behind i. -/
structure FirstAt (l : List (Int × Int)) (i j m : Nat) : Prop where
  le : m ≤ i
  same : at2 l m = at2 l i
  lo : ∀ k, k < j → at2 l k = at2 l i → m ≤ k
theorem FirstAt.start (l : List (Int × Int)) (i : Nat) : FirstAt l i 0 i := ⟨Nat.le_refl _, rfl, fun k hk => by omega⟩
theorem FirstAt.skip {l : List (Int × Int)} {i j m : Nat} (h : FirstAt l i j m) (hn : at2 l j ≠ at2 l i) : FirstAt l i (j + 1) m :=
  ⟨h.le, h.same, fun k hk e => by
    by_cases e2 : k = j
    · subst e2; exact absurd e hn
    · exact h.lo k (by omega) e⟩
theorem FirstAt.step {l : List (Int × Int)} {i j m : Nat} (h : FirstAt l i j m) (hj : j < i) (hn : at2 l j = at2 l i) : FirstAt l i (j + 1) (Min.min m j) := by
  refine ⟨by have := h.le; omega, ?_, fun k hk e => ?_⟩
  · by_cases h1 : m ≤ j
    · rw [Nat.min_eq_left h1]; exact h.same
    · rw [Nat.min_eq_right (by omega)]; exact hn
  · by_cases e2 : k = j
    · subst e2; omega
    · have := h.lo k (by omega) e; omega
theorem self_best {l : List (Int × Int)} {n i m : Nat} (hi : i < n) (h : FirstAt l i i m) : best 1 0 (hits (rowsL l n) (at2 l i)) = [((m : Int), 0)] := by
  have hm := h.le
  have hd : ∀ k, 0 ≤ distN (at2 l i) (at2 l k) ∧ (distN (at2 l i) (at2 l k) ≤ 0 ↔ at2 l i = at2 l k) := fun k => dist2_zero _ _
  have hmem : ∀ z ∈ hits (rowsL l n) (at2 l i), ∃ k : Nat, k < n ∧ z = ((k : Int), distN (at2 l i) (at2 l k)) := by
    intro z hz
    obtain ⟨p, hp, rfl⟩ := List.mem_map.1 hz
    obtain ⟨k, hk, rfl⟩ := rows_lt hp
    exact ⟨k, hk, rfl⟩
  have hz0 : distN (at2 l i) (at2 l m) = 0 := by
    have := (hd m).2.2 h.same.symm
    have := (hd m).1
    omega
  refine best_one ?_ (Int.le_refl _) ?_
  · refine List.mem_map.2 ⟨((m : Int), at2 l m), List.mem_map.2 ⟨m, List.mem_range.2 (by omega), rfl⟩, ?_⟩
    show ((m : Int), distN (at2 l i) (at2 l m)) = ((m : Int), 0)
    rw [hz0]
  · intro z hz hle
    obtain ⟨k, hk, rfl⟩ := hmem z hz
    have e := (hd k).2.1 hle
    have hmk : m ≤ k := by
      by_cases h1 : k < i
      · exact h.lo k h1 e.symm
      · omega
    have := (hd k).1
    unfold hlt
    simp
    have hle' : distN (at2 l i) (at2 l k) ≤ 0 := hle
    omega
end Go.Proofs.Ytealiaafdkhonaa.Vp

namespace Go.Proofs.Ytealiaafdkhonaa.Op
open Go.RowKit Go.WideShapes Go.ChangeShapes Go.Proofs.YtealiaafdkhonaaW.PrintWords Go.Proofs.YtealiaafdkhonaaW.PrintLast Go.Proofs.YtealiaafdkhonaaW.PrintMore
set_option linter.unusedVariables false
set_option linter.unusedSimpArgs false

theorem list_of {α : Type} (P : Nat → α → Prop) : ∀ n, (∀ i, i < n → ∃ x, P i x) → ∃ xs : List α, xs.length = n ∧ ∀ i x, xs[i]? = some x → P i x
  | 0, _ => ⟨[], rfl, fun i x h => by simp at h⟩
  | n + 1, h => by
    obtain ⟨xs, h1, h2⟩ := list_of P n (fun i hi => h i (by omega))
    obtain ⟨x, hx⟩ := h n (by omega)
    refine ⟨xs ++ [x], by simp [h1], fun i y hy => ?_⟩
    by_cases hi : i < n
    · rw [List.getElem?_append_left (by omega)] at hy; exact h2 i y hy
    · by_cases e : i = n
      · rw [List.getElem?_append_right (by omega)] at hy
        rw [e, h1] at hy
        simp at hy
        rw [e, ← hy]; exact hx
      · rw [List.getElem?_eq_none (by simp; omega)] at hy; cases hy

section
variable {P : Program} {H : Type} {enc : TypeId × Value → H} {W : World} {base : Nat} {spare : Nat → Bool} {held : Bool} {t e : TypeId} {fuel : Nat} {v : Value} {y : DataW H × List MemPlace} {r : Reach} {b0 : Nat} {d : DataW H} {p : List MemPlace}

/-- A slice of elements of whatever kind, wherever it lies. -/
theorem open_row {α : Type} {R : α → List Value → Prop} {sz : Nat} (ht : P.underlying t = some (.slice e)) (hc : P.cellsOf e = sz)
    (hE : ∀ (f : Nat) (cs : List Value) (z : DataW H × List MemPlace), cs.length = sz → DataW.trod enc P W base spare held f e cs = some z → ∃ x, R x cs)
    (h : DataW.trod enc P W base spare held fuel t [v] = some y) : ∃ A cap l, v = .slice A l.length cap ∧ ReadsRow R sz W A l.length l ∧ l.length ≤ cap := by
  rcases DataW.trod_slice ht h with ⟨h0, _⟩ | ⟨a, len, cap, elems, rest, n, _, h1, _, hb, hl, hm, hlen, hel, _, _⟩
  · simp at h0
    exact ⟨none, 0, [], h0, ⟨rfl, by simp, fun h => by simp at h⟩, Nat.le_refl _⟩
  · simp at h1
    obtain ⟨xs, hx1, hx2⟩ := list_of (fun i (x : α) => ∃ c : List Value, c.length = sz ∧ R x c ∧ ∀ j u, c[j]? = some u → W.cell? (a.add (i * sz + j)) = some u) len (fun i hi => by
      have hh := hel i hi
      rw [List.getElem?_eq_getElem (by omega), Option.bind_eq_some_iff] at hh
      obtain ⟨cs, hcs, hz⟩ := hh
      obtain ⟨_, hcl, hcell⟩ := World.cells?_some hcs
      rw [hc] at hcl
      obtain ⟨x, hx⟩ := hE n cs _ hcl hz
      refine ⟨x, cs, hcl, hx, fun j u hu => ?_⟩
      have hj : j < sz := by have := (List.getElem?_eq_some_iff.1 hu).1; omega
      have := hcell j (by rw [hc]; exact hj)
      rw [hu, hc, Addr.add_add] at this
      exact this)
    refine ⟨some a, cap, xs, by rw [hx1]; exact h1, ⟨rfl, by unfold maxLen at hm; omega, fun _ => ⟨a, rfl, hx2⟩⟩, by omega⟩

theorem open_row_top {α : Type} {R : α → List Value → Prop} {sz : Nat} (ht : P.underlying t = some (.slice e)) (hc : P.cellsOf e = sz)
    (hE : ∀ (f : Nat) (cs : List Value) (z : DataW H × List MemPlace), cs.length = sz → DataW.trod enc P W base spare held f e cs = some z → ∃ x, R x cs)
    (hv : Value.okWide P W r b0 t v) (h : DataW.Trod enc P W base spare held t v d p) : ∃ A cap l, v = .slice A l.length cap ∧ ReadsRow R sz W A l.length l ∧ l.length ≤ cap := by
  obtain ⟨a, len, cap, rfl⟩ := okWide_slice ht hv
  obtain ⟨f, hf⟩ := h
  exact open_row ht hc hE (show DataW.trod enc P W base spare held f t [.slice a len cap] = some _ from hf)

/-- A whole number of its kind. -/
def I1 (x : Int) (cs : List Value) : Prop := cs = [.int .i64 x] ∧ (Lit.int .i64 x).wf = true
theorem el_int (he : P.underlying e = some (.int .i64)) (f : Nat) (cs : List Value) (z : DataW H × List MemPlace) (_ : cs.length = 1) (h : DataW.trod enc P W base spare held f e cs = some z) : ∃ x, I1 x cs := by
  obtain ⟨m, hcs, _, hw⟩ := DataW.trod_int he h
  exact ⟨m, hcs, hw⟩
/-- Two, an array. -/
def I2 (x : Int × Int) (cs : List Value) : Prop := cs = [.int .i64 x.1, .int .i64 x.2] ∧ (Lit.int .i64 x.1).wf = true ∧ (Lit.int .i64 x.2).wf = true
theorem el_arr2 {i : TypeId} (he : P.underlying e = some (.array 2 i)) (hi : P.underlying i = some (.int .i64)) (hci : P.cellsOf i = 1) (f : Nat) (cs : List Value) (z : DataW H × List MemPlace) (hl : cs.length = 2) (h : DataW.trod enc P W base spare held f e cs = some z) : ∃ x, I2 x cs := by
  obtain ⟨xs, m, _, _, _, hn, hx⟩ := DataW.trod_array he h
  match cs, hl with
  | [c0, c1], _ =>
    have h0 := hx 0 (by omega)
    have h1 := hx 1 (by omega)
    rw [List.getElem?_eq_getElem (by omega)] at h0 h1
    simp only [hci] at h0 h1
    obtain ⟨a0, e0, _, w0⟩ := DataW.trod_int hi h0
    obtain ⟨a1, e1, _, w1⟩ := DataW.trod_int hi h1
    simp at e0 e1
    subst e0; subst e1
    exact ⟨(a0, a1), rfl, w0, w1⟩
/-- Three, a record. -/
def I3 (x : Int × Int × Int) (cs : List Value) : Prop := cs = [.int .i64 x.1, .int .i64 x.2.1, .int .i64 x.2.2] ∧ (Lit.int .i64 x.1).wf = true ∧ (Lit.int .i64 x.2.1).wf = true ∧ (Lit.int .i64 x.2.2).wf = true
theorem el_rec3 {f0 f1 f2 : Field} (he : P.underlying e = some (.struct #[f0, f1, f2])) (hi0 : P.underlying f0.type = some (.int .i64)) (hi1 : P.underlying f1.type = some (.int .i64)) (hi2 : P.underlying f2.type = some (.int .i64)) (o0 : f0.offset = 0) (o1 : f1.offset = 1) (o2 : f2.offset = 2)
    (hc0 : P.cellsOf f0.type = 1) (hc1 : P.cellsOf f1.type = 1) (hc2 : P.cellsOf f2.type = 1)
    (f : Nat) (cs : List Value) (z : DataW H × List MemPlace) (hl : cs.length = 3) (h : DataW.trod enc P W base spare held f e cs = some z) : ∃ x, I3 x cs := by
  obtain ⟨y0, y1, y2, m, _, _, h0, h1, h2⟩ := Go.Deep.trod_struct3 he h
  match cs, hl with
  | [c0, c1, c2], _ =>
    simp only [o0, o1, o2, hc0, hc1, hc2] at h0 h1 h2
    obtain ⟨a0, e0, _, w0⟩ := DataW.trod_int hi0 h0
    obtain ⟨a1, e1, _, w1⟩ := DataW.trod_int hi1 h1
    obtain ⟨a2, e2, _, w2⟩ := DataW.trod_int hi2 h2
    simp at e0 e1 e2
    subst e0; subst e1; subst e2
    exact ⟨(a0, a1, a2), rfl, w0, w1, w2⟩

theorem row_ints {W : World} {A : Option Addr} {l : List Int} (h : ReadsRow I1 1 W A l.length l) : Kd.C (Kd.int .i64) W A l.length l ∧ ∀ x ∈ l, (Lit.int .i64 x).wf = true := by
  constructor
  · refine Kd.C_of_reads (d := (0 : Int)) ⟨rfl, h.2.1, fun hn => ?_⟩
    obtain ⟨a, rfl, ha⟩ := h.2.2 hn
    refine ⟨a, rfl, fun j hj => ?_⟩
    obtain ⟨c, hc, ⟨rfl, _⟩, hx⟩ := ha j _ (List.getElem?_eq_getElem hj)
    have := hx 0 (.int .i64 l[j]) rfl
    rw [Nat.mul_one, Nat.add_zero] at this
    rw [this, List.getD_eq_getElem?_getD, List.getElem?_eq_getElem hj]; rfl
  · intro x hx
    obtain ⟨i, hi⟩ := List.getElem?_of_mem hx
    have hp : 0 < l.length := by have := (List.getElem?_eq_some_iff.1 hi).1; omega
    obtain ⟨a, _, ha⟩ := h.2.2 hp
    obtain ⟨c, _, ⟨_, hw⟩, _⟩ := ha i x hi
    exact hw
end
end Go.Proofs.Ytealiaafdkhonaa.Op

namespace Go.Proofs.Ytealiaafdkhonaa.Vp
open Go.RowKit Go.Sort
set_option linter.unusedVariables false
set_option linter.unusedSimpArgs false
theorem isort_filter (p : Int × Int → Bool) (X : List (Int × Int)) : isort (X.filter p) = (isort X).filter p :=
  sorted_eq (isort_sorted _) (List.Pairwise.filter p (isort_sorted X)) ((isort_perm _).trans ((isort_perm X).filter p).symm)
theorem best_eq (k : Nat) (lim : Int) (X : List (Int × Int)) : best k lim X = ((isort X).filter fun x => decide (x.2 ≤ lim)).take k := by unfold best; rw [isort_filter]
theorem best_all {k : Nat} {lim : Int} {X : List (Int × Int)} (h : ∀ x ∈ X, x.2 ≤ lim) : best k lim X = (isort X).take k := by
  unfold best
  rw [List.filter_eq_self.2 (fun x hx => by simpa using h x hx)]
theorem best_length {k : Nat} {lim : Int} {X : List (Int × Int)} (h : ∀ x ∈ X, x.2 ≤ lim) : (best k lim X).length = min k X.length := by
  rw [best_all h, List.length_take, (isort_perm X).length_eq]
theorem best_sorted (k : Nat) (lim : Int) (X : List (Int × Int)) : Sorted (best k lim X) := by
  unfold best
  exact (isort_sorted _).sublist (List.take_sublist _ _)
theorem sorted_snd {l : List (Int × Int)} (h : Sorted l) {i j : Nat} (hi : i ≤ j) (hj : j < l.length) : (l[i]'(by omega)).2 ≤ l[j].2 := by
  by_cases e : i = j
  · subst e; exact Int.le_refl _
  · exact hle_snd (List.pairwise_iff_getElem.1 h i j (by omega) hj (by omega))
theorem filter_none {l : List (Int × Int)} {p : Int × Int → Bool} (h : ∀ x ∈ l, p x = false) : l.filter p = [] := List.filter_eq_nil_iff.2 (fun x hx => by simp [h x hx])
/-- The farthest one's distance as the limit. -/
theorem best_far {k m : Nat} {lim : Int} {X : List (Int × Int)} (h : ∀ x ∈ X, x.2 ≤ lim) (hm : (best k lim X).length = m + 1) : best k ((best k lim X)[m]'(by omega)).2 X = best k lim X := by
  obtain ⟨l, hl⟩ : ∃ l, best k lim X = l := ⟨_, rfl⟩
  have hs := best_sorted k lim X
  simp only [hl] at hm hs ⊢
  obtain ⟨far, hfar⟩ : ∃ far, (l[m]'(by omega)).2 = far := ⟨_, rfl⟩
  rw [hfar]
  rw [best_all h] at hl
  have hlk : l.length ≤ k := by rw [← hl, List.length_take]; omega
  have hself : l.filter (fun x => decide (x.2 ≤ far)) = l := List.filter_eq_self.2 (fun x hx => by
    obtain ⟨i, hi, rfl⟩ := List.mem_iff_getElem.1 hx
    have := sorted_snd hs (i := i) (j := m) (by omega) (by omega)
    rw [hfar] at this
    simpa using this)
  rw [best_eq, ← List.take_append_drop k (isort X), hl, List.filter_append, hself]
  by_cases hk : k ≤ l.length
  · rw [List.take_append_of_le_length hk, List.take_of_length_le (by omega)]
  · have : (isort X).drop k = [] := by
      have := hl
      have h2 : l.length = min k (isort X).length := by rw [← hl, List.length_take]
      exact List.drop_of_length_le (by omega)
    rw [this]
    simp only [List.filter_nil, List.append_nil]
    exact List.take_of_length_le hlk
/-- One less. -/
theorem best_less {k m : Nat} {lim : Int} {X : List (Int × Int)} (h : ∀ x ∈ X, x.2 ≤ lim) (hm : (best k lim X).length = m + 1) : best k (((best k lim X)[m]'(by omega)).2 - 1) X = (best k lim X).filter (fun x => decide (x.2 ≤ ((best k lim X)[m]'(by omega)).2 - 1)) := by
  obtain ⟨l, hl⟩ : ∃ l, best k lim X = l := ⟨_, rfl⟩
  simp only [hl] at hm ⊢
  obtain ⟨far, hfar⟩ : ∃ far, (l[m]'(by omega)).2 = far := ⟨_, rfl⟩
  rw [hfar]
  rw [best_all h] at hl
  have hS := isort_sorted X
  have hlk : l.length ≤ k := by rw [← hl, List.length_take]; omega
  have hrest : ((isort X).drop k).filter (fun x => decide (x.2 ≤ far - 1)) = [] := filter_none (fun x hx => by
    obtain ⟨i, hi, rfl⟩ := List.mem_iff_getElem.1 hx
    rw [List.length_drop] at hi
    have h1 := sorted_snd hS (i := m) (j := k + i) (by omega) (by omega)
    have h2 : (isort X)[m]'(by omega) = l[m]'(by omega) := by simp only [← hl, List.getElem_take]
    rw [h2, hfar] at h1
    rw [List.getElem_drop]
    simp
    omega)
  rw [best_eq, ← List.take_append_drop k (isort X), hl, List.filter_append, hrest, List.append_nil]
  exact List.take_of_length_le (Nat.le_trans (List.length_filter_le _ _) hlk)
theorem filter_take {l : List (Int × Int)} (hs : Sorted l) {far : Int} {s : Nat} (h1 : s ≤ l.length) (h2 : ∀ i (hi : i < l.length), i < s → l[i].2 < far) (h3 : ∀ (hi : s < l.length), far ≤ l[s].2) : l.filter (fun x => decide (x.2 ≤ far - 1)) = l.take s := by
  have e1 : (l.take s).filter (fun x => decide (x.2 ≤ far - 1)) = l.take s := List.filter_eq_self.2 (fun x hx => by
    obtain ⟨i, hi, rfl⟩ := List.mem_iff_getElem.1 hx
    rw [List.length_take] at hi
    have := h2 i (by omega) (by omega)
    rw [List.getElem_take]
    simp
    omega)
  have e2 : (l.drop s).filter (fun x => decide (x.2 ≤ far - 1)) = [] := filter_none (fun x hx => by
    obtain ⟨i, hi, rfl⟩ := List.mem_iff_getElem.1 hx
    rw [List.length_drop] at hi
    have h4 := sorted_snd hs (i := s) (j := s + i) (by omega) (by omega)
    have h5 := h3 (by omega)
    rw [List.getElem_drop]
    simp
    omega)
  have := List.filter_append (p := fun x : Int × Int => decide (x.2 ≤ far - 1)) (l.take s) (l.drop s)
  rw [List.take_append_drop, e1, e2, List.append_nil] at this
  exact this
theorem dist_far {a b : List Int} (ha : isV a = true) (hb : isV b = true) (hl : b.length = a.length) (h2 : a.length ≤ 16) : 0 ≤ distN a b ∧ distN a b ≤ 68719476720 := by
  have := distTo_range ha hb hl a.length (Nat.le_refl _)
  unfold distN
  omega
end Go.Proofs.Ytealiaafdkhonaa.Vp

namespace Go.Proofs.Ytealiaafdkhonaa.Vp
open Go.RowKit Go.Sort Mb Base Go.Proofs.YtealiaafdkhonaaW.PrintWords Go.Proofs.YtealiaafdkhonaaW.PrintLast Go.Proofs.YtealiaafdkhonaaW.PrintMore
set_option linter.unusedVariables false
set_option linter.unusedSimpArgs false
set_option maxRecDepth 100000 in
set_option maxHeartbeats 4000000 in
theorem put_full (W : World) (g ma mi : Nat) (s : TS) (h : TreeAt W g ma mi s) (hok : TSok s) (id : Int) (hw : (Lit.int .i64 id).wf = true) (A : Option Addr) (c : Nat) (v : List Int) (hC : Kd.C (Kd.int .i64) W A v.length v) (hv : isV v = true) (hl : (v.length : Int) = s.dim)
    (hwas : look s.L id = none) (hfull : s.L.length = 512) :
    Calls Try.prog 15 #[.pointer (some ⟨g, 0, none⟩), .agg #[.int .i64 id, .slice A v.length c]] W fun e w' => e = .returned (.tuple #[.bool false, .int .i64 2]) ∧ Below W.heap.size W w' := by
  have hd := hok.d1
  have hb1 := below_alloc (Below.refl W.heap.size W) (.cells #[.int .i64 id, .slice A v.length c] 37)
  have HPB := Aside0.mk (blk_new W (.cells #[.int .i64 id, .slice A v.length c] 37))
  have HT1 := Aside0.mk (h.below hb1)
  have HB1 := Aside0.mk hb1
  have HC1 := Aside0.mk (Kd.C_below hC hb1)
  have HCK := Aside0.mk (fun (W' : World) (hr : Kd.C (Kd.int .i64) W' A v.length v) => check_calls A c v s.dim W' hr)
  rw [show ckV v s.dim = 0 from if_pos ⟨hv, hl⟩] at HCK
  obtain ⟨root, f, ni, q1, q2, q3, q4, q5, q6, q7⟩ := HT1.out.ex
  have m0 : (W.alloc (.cells #[.int .i64 id, .slice A v.length c] 37)).cell? ⟨g, 0, none⟩ = some (.int .i64 s.dim) := (blk_cell q1 0).trans rfl
  have HM2 : Aside0 ((W.alloc (.cells #[.int .i64 id, .slice A v.length c] 37)).cell? ⟨g, 2, none⟩ = some (.map (some ma))) := ⟨(blk_cell q1 2).trans rfl⟩
  have hfn : f id = none := by
    have := q6 id
    rw [hwas] at this
    cases e : f id with
    | none => rfl
    | some x => rw [e] at this; cases this
  have lk2 := fun m : Nat => (((q2.drewN m).drew).look_ok law Try.underlying3 Try.underlying66 (zero23 _) id hw)
  rw [hfn] at lk2
  have hlen2 := fun (m : Nat) ty => ((q2.drewN m).drew).len Try.underlying66 ty
  have HLK2 := Aside0.mk lk2
  rw [hfull] at hlen2
  have HLEN2 := Aside0.mk hlen2
  have p1 : (W.alloc (.cells #[.int .i64 id, .slice A v.length c] 37)).cell? ⟨W.heap.size, 1, none⟩ = some (.slice A v.length c) := (blk_cell HPB.out 1).trans rfl
  have hsz : W.heap.size < (W.alloc (.cells #[.int .i64 id, .slice A v.length c] 37)).heap.size := by simp
  have HSZ := Aside0.mk hsz
  obtain ⟨vn, hvn⟩ : ∃ vn, v.length = vn := ⟨_, rfl⟩
  obtain ⟨dim, hdim⟩ : ∃ dim, s.dim = dim := ⟨_, rfl⟩
  rw [hvn] at HC1 HCK HPB HB1 HT1 HM2 HLK2 HLEN2 HSZ p1 m0
  rw [hdim] at m0 HCK hd
  rw [hvn]
  obtain ⟨pb, hpb⟩ : ∃ pb, W.heap.size = pb := ⟨_, rfl⟩
  have HPBE := Aside0.mk hpb
  obtain ⟨wA, hwA⟩ : ∃ wA, W.alloc (.cells #[.int .i64 id, .slice A vn c] 37) = wA := ⟨_, rfl⟩
  have HWA := Aside0.mk hwA
  rw [hwA] at HC1 HPB HB1 HT1 HM2 HLK2 HLEN2 HSZ p1 m0
  rw [hpb] at HPB p1 HSZ
  have HCQ : Aside0 (∀ m, Calls Try.prog 29 #[.slice A vn c, .int .i64 dim] (wA.drewN m) fun e w' => e = .returned (.int .i64 0) ∧ w' = wA.drewN m) := ⟨fun m => (HCK.out (wA.drewN m) (Kd.C_below HC1.out (pw_below_drewN (Below.refl _ _) m))).mono fun _ _ h => ⟨h.1, h.2.symm⟩⟩
  clear q1 q2 q3 q4 q5 q6 q7 hwA lk2 hlen2 hfn hb1 hsz hvn hdim h hw hwas hC hpb hfull hl hv hok
  go_enter Try.func15, Try.ntmps15
  go_upto_region 3 with (rw [HWA.out]; go_at_call 28; refine (given_calls g dim hd _ m0).mono ?_; rintro e w' ⟨rfl, rfl⟩)
  simp only [HPBE.out]
  go_quiet ((go_at_call 29; exact Calls.quiet_of_same (HCQ.out _)))

  go_upto_region 6 with (fail)
  have m2 : (wA.drewN nq).drew.cell? ⟨g, 2, none⟩ = some (.map (some ma)) := HM2.out
  have p0 : (wA.drewN nq).drew.cell? ⟨pb, 0, none⟩ = some (.int .i64 id) := (blk_cell HPB.out 0).trans rfl
  have lk : (Instr.lookup 66 (.map (some ma)) (.int .i64 id) true).run Try.prog (wA.drewN nq).drew = .ok (.tuple #[.slice none 0 0, .bool false]) (wA.drewN nq).drew := HLK2.out nq
  have HLENB := Aside0.mk (HLEN2.out nq)
  have HBB : Aside0 (RowKit.Below W.heap.size W (wA.drewN nq).drew) := ⟨below_drew1 (pw_below_drewN HB1.out nq)⟩
  clear p1 m0
  refine start_ (n := 12) (S := fun w' => w'.cell? ⟨g, 2, none⟩ = some (.map (some ma)) ∧ w'.cell? ⟨pb, 0, none⟩ = some (.int .i64 id) ∧ (Instr.lookup 66 (.map (some ma)) (.int .i64 id) true).run Try.prog w' = .ok (.tuple #[.slice none 0 0, .bool false]) w') (ds := []) #[false, false, false, false, false, false, false, false, false, false, false, false] (by kernel_rfl) rfl rfl ⟨m2, p0, lk⟩ (fun hHeld => ?_)
  refine with_tabW pu6.tab pu6.bits (fun HT_ HW_ => ?_)
  generalize (wA.drewN nq).drew = wB at *
  refine pure_ (i := 0) (N := some 23) (v := ?_) (a' := ?_) #[true, false, false, false, false, false, false, false, false, false, false, false] rfl rfl (any_of HT_.out (by kernel_rfl)) (fun _ _ _ h => h) (Or.inl ⟨by rfl, ?_⟩) ?_ ?_
  rotate_left
  · intro w'
    go_simp
    with_reducible rfl
  rotate_left
  · simp only [Act.put, List.setIfInBounds_toArray, List.set_cons_zero, List.set_cons_succ, i64_w, i32_w]
    rfl
  refine pure_ (i := 1) (N := some 24) (v := ?_) (a' := ?_) #[true, true, false, false, false, false, false, false, false, false, false, false] rfl rfl (any_of HT_.out (by kernel_rfl)) (fun _ _ _ h => h) (Or.inl ⟨by rfl, ?_⟩) ?_ ?_
  rotate_left
  · intro w'
    go_simp
    with_reducible rfl
  rotate_left
  · simp only [Act.put, List.setIfInBounds_toArray, List.set_cons_zero, List.set_cons_succ, i64_w, i32_w]
    rfl
  refine pure_ (i := 2) (N := some 25) (v := ?_) (a' := ?_) #[true, true, true, false, false, false, false, false, false, false, false, false] rfl rfl (any_of HT_.out (by kernel_rfl)) (fun _ _ _ h => h) (Or.inl ⟨by rfl, ?_⟩) ?_ ?_
  rotate_left
  · intro w'
    go_simp
    with_reducible rfl
  rotate_left
  · simp only [Act.put, List.setIfInBounds_toArray, List.set_cons_zero, List.set_cons_succ, i64_w, i32_w]
    rfl
  refine pure_ (i := 4) (N := some 27) (v := ?_) (a' := ?_) #[true, true, true, false, true, false, false, false, false, false, false, false] rfl rfl (any_of HT_.out (by kernel_rfl)) (fun _ _ _ h => h) (Or.inl ⟨by rfl, ?_⟩) ?_ ?_
  rotate_left
  · intro w'
    go_simp
    with_reducible rfl
  rotate_left
  · simp only [Act.put, List.setIfInBounds_toArray, List.set_cons_zero, List.set_cons_succ, i64_w, i32_w]
    rfl
  refine take_ (i := 3) (N := some 26) (v := ?_) (a' := ?_) #[true, true, true, true, true, false, false, false, false, false, false, false] rfl rfl (take_ofW HT_.out HW_.out (by kernel_rfl)) (fun _ _ _ h => h) (Or.inl ⟨by rfl, ?_⟩) hHeld ?_ ?_
  rotate_left
  · rintro w' ⟨s0, s1, s2⟩
    go_simp
    with_reducible rfl
  rotate_left
  · simp only [Act.put, List.setIfInBounds_toArray, List.set_cons_zero, List.set_cons_succ, i64_w, i32_w]
    rfl
  refine take_ (i := 5) (N := some 28) (v := ?_) (a' := ?_) #[true, true, true, true, true, true, false, false, false, false, false, false] rfl rfl (take_ofW HT_.out HW_.out (by kernel_rfl)) (fun _ _ _ h => h) (Or.inl ⟨by rfl, ?_⟩) hHeld ?_ ?_
  rotate_left
  · rintro w' ⟨s0, s1, s2⟩
    go_simp
    with_reducible rfl
  rotate_left
  · simp only [Act.put, List.setIfInBounds_toArray, List.set_cons_zero, List.set_cons_succ, i64_w, i32_w]
    rfl
  refine take_ (i := 6) (N := some 29) (v := ?_) (a' := ?_) #[true, true, true, true, true, true, true, false, false, false, false, false] rfl rfl (take_ofW HT_.out HW_.out (by kernel_rfl)) (fun _ _ _ h => h) (Or.inl ⟨by rfl, ?_⟩) hHeld ?_ ?_
  rotate_left
  · rintro w' ⟨s0, s1, s2⟩
    go_simp
    with_reducible rfl
  rotate_left
  · simp only [Act.put, List.setIfInBounds_toArray, List.set_cons_zero, List.set_cons_succ, i64_w, i32_w]
    rfl
  refine pure_ (i := 7) (N := some 22) (v := ?_) (a' := ?_) #[true, true, true, true, true, true, true, true, false, false, false, false] rfl rfl (any_of HT_.out (by kernel_rfl)) (fun _ _ _ h => h) (Or.inl ⟨by rfl, ?_⟩) ?_ ?_
  rotate_left
  · intro w'
    go_simp
    with_reducible rfl
  rotate_left
  · simp only [Act.put, List.setIfInBounds_toArray, List.set_cons_zero, List.set_cons_succ, i64_w, i32_w]
    rfl
  refine pure_ (i := 8) (N := some 30) (v := ?_) (a' := ?_) #[true, true, true, true, true, true, true, true, true, false, false, false] rfl rfl (any_of HT_.out (by kernel_rfl)) (fun _ _ _ h => h) (Or.inl ⟨by rfl, ?_⟩) ?_ ?_
  rotate_left
  · intro w'
    go_simp
    with_reducible rfl
  rotate_left
  · simp only [Act.put, List.setIfInBounds_toArray, List.set_cons_zero, List.set_cons_succ, i64_w, i32_w]
    rfl
  refine pure_ (i := 9) (N := some 31) (v := ?_) (a' := ?_) #[true, true, true, true, true, true, true, true, true, true, false, false] rfl rfl (any_of HT_.out (by kernel_rfl)) (fun _ _ _ h => h) (Or.inl ⟨by rfl, ?_⟩) ?_ ?_
  rotate_left
  · intro w'
    go_simp
    with_reducible rfl
  rotate_left
  · simp only [Act.put, List.setIfInBounds_toArray, List.set_cons_zero, List.set_cons_succ, i64_w, i32_w]
    rfl
  refine pure_ (i := 10) (N := some 7) (v := ?_) (a' := ?_) #[true, true, true, true, true, true, true, true, true, true, true, false] rfl rfl (any_of HT_.out (by kernel_rfl)) (fun _ _ _ h => h) (Or.inl ⟨by rfl, ?_⟩) ?_ ?_
  rotate_left
  · intro w'
    go_simp
    with_reducible rfl
  rotate_left
  · simp only [Act.put, List.setIfInBounds_toArray, List.set_cons_zero, List.set_cons_succ, i64_w, i32_w]
    rfl
  refine pure_ (i := 11) (N := some 8) (v := ?_) (a' := ?_) #[true, true, true, true, true, true, true, true, true, true, true, true] rfl rfl (any_of HT_.out (by kernel_rfl)) (fun _ _ _ h => h) (Or.inl ⟨by rfl, ?_⟩) ?_ ?_
  rotate_left
  · intro w'
    go_simp
    with_reducible rfl
  rotate_left
  · simp only [Act.put, List.setIfInBounds_toArray, List.set_cons_zero, List.set_cons_succ, i64_w, i32_w]
    rfl
  refine done_ (done_of HT_.out (by kernel_rfl)) ?_
  have hlenB := HLENB.out
  go_wp2_with fail
  go_ret2
  exact ⟨rfl, HBB.out⟩
theorem look_drop (x : Int) : ∀ (L : List (Int × List Int)) (y : Int), look (dropL x L) y = if y = x then none else look L y
  | [], y => by simp [dropL, look_nil]
  | p :: L, y => by
    have ih := look_drop x L y
    unfold dropL at ih ⊢
    by_cases h : p.1 = x
    · rw [List.filter_cons_of_neg (by simp [h]), ih, look_cons]
      by_cases e : y = x
      · rw [if_pos e, if_pos e]
      · rw [if_neg e, if_neg e, if_neg (by omega)]
    · rw [List.filter_cons_of_pos (by simp [h]), look_cons, ih, look_cons]
      by_cases e : y = x
      · rw [if_pos e, if_pos e, if_neg (by omega)]
      · rw [if_neg e, if_neg e]
theorem drop_same {x : Int} {L : List (Int × List Int)} (h : look L x = none) : dropL x L = L := by
  induction L with
  | nil => rfl
  | cons p L ih =>
    rw [look_cons] at h
    by_cases e : p.1 = x
    · rw [if_pos e] at h; cases h
    · rw [if_neg e] at h
      unfold dropL
      rw [List.filter_cons_of_pos (by simp [e])]
      exact congrArg _ (ih h)
theorem drop_len (x : Int) : ∀ (L : List (Int × List Int)), Rising L → (dropL x L).length = if (look L x).isSome then L.length - 1 else L.length
  | [], _ => rfl
  | p :: L, hr => by
    have hr' := List.pairwise_cons.1 hr
    have ih := drop_len x L hr'.2
    rw [look_cons]
    by_cases e : p.1 = x
    · rw [if_pos e]
      have hn : look L x = none := by
        cases h : look L x with
        | none => rfl
        | some v => have := hr'.1 _ (look_mem h); simp only [] at this; omega
      have h1 : dropL x (p :: L) = dropL x L := by unfold dropL; rw [List.filter_cons_of_neg (by simp [e])]
      rw [h1, drop_same hn]
      rfl
    · rw [if_neg e]
      have h1 : dropL x (p :: L) = p :: dropL x L := by unfold dropL; rw [List.filter_cons_of_pos (by simp [e])]
      rw [h1, List.length_cons, ih]
      split
      · rename_i h2
        have : 0 < L.length := by
          cases L with
          | nil => cases h2
          | cons => simp
        simp only [List.length_cons]
        omega
      · rfl
theorem tree_dropped {w9 wS : World} {g ma mi : Nat} {s : TS} {root : Value} {f : Int → Option Value} {ni : Nat} (h : TreeAt w9 g ma mi s)
    (q1 : w9.heap[g]? = some (.cells #[.int .i64 s.dim, root, .map (some ma), .map (some mi)] 69 (0, 0))) (q2 : IMap Try.prog 3 w9 ma f s.L.length) (q3 : IMap Try.prog 3 w9 mi (inV s.inn) ni) (q4 : ni ≤ 512) (q5 : NodeAt w9 w9.heap.size s.T root) (q6 : ∀ x, (f x).isSome = (look s.L x).isSome)
    (q7 : ∀ x val, f x = some val → ∃ v, look s.L x = some v ∧ VecAt w9 w9.heap.size val v) (hr : Rising s.L) (id : Int) (ht : Turns (fun j => j = ma) w9 wS) (hm : IMap Try.prog 3 wS ma (upd f id none) (if (f id).isSome then s.L.length - 1 else s.L.length)) :
    TreeAt wS g ma mi ⟨s.dim, dropL id s.L, s.inn, s.T⟩ := by
  obtain ⟨_, n1, n2, n3⟩ := h
  have hk : Kp w9.heap.size w9 wS := Kp.turns ht (fun j _ hj => by subst hj; exact imap_soft q2)
  refine ⟨⟨root, upd f id none, ni, ht.keep q1 n1, ?_, q3.move (ht.block mi q3.lt (Ne.symm n3)), q4, (q5.keep hk).more ht.size, fun x => ?_, fun x val' hx => ?_⟩, n1, n2, n3⟩
  · have := drop_len id s.L hr
    rw [← q6 id] at this
    show IMap Try.prog 3 wS ma _ (dropL id s.L).length
    rw [this]
    exact hm
  · show (upd f id none x).isSome = (look (dropL id s.L) x).isSome
    rw [look_drop]
    unfold upd
    split
    · rfl
    · exact q6 x
  · show ∃ v', look (dropL id s.L) x = some v' ∧ _
    rw [look_drop]
    unfold upd at hx
    split at hx
    · cases hx
    · rename_i e
      rw [if_neg e]
      obtain ⟨v', h1, h2⟩ := q7 x val' hx
      exact ⟨v', h1, (h2.keep hk).more ht.size⟩
set_option maxRecDepth 100000 in
set_option maxHeartbeats 4000000 in
theorem drop_ok (W : World) (g ma mi : Nat) (s : TS) (h : TreeAt W g ma mi s) (hok : TSok s) (id : Int) (hw : (Lit.int .i64 id).wf = true) (was : Bool) (hwas : (look s.L id).isSome = was) :
    Calls Try.prog 23 #[.pointer (some ⟨g, 0, none⟩), .int .i64 id] W (Took W g ma mi s.dim (dropL id s.L) (.bool was)) := by
  have hd := hok.d1
  have HT := Aside0.mk h
  have HOK := Aside0.mk hok
  obtain ⟨root, f, ni, q1, q2, q3, q4, q5, q6, q7⟩ := h.ex
  have c0 := h.dimc
  have c2 := h.allc
  have HC3 := Aside0.mk h.insc
  have lk := q2.look_ok law Try.underlying3 Try.underlying66 (zero23 _) id hw
  rw [q6 id, hwas] at lk
  have HW := Aside0.mk hw
  have HM2 := Aside0.mk q2
  have HQ := Aside0.mk (And.intro q1 (And.intro q3 (And.intro q4 (And.intro q5 (And.intro q6 q7)))))
  obtain ⟨z, hz⟩ : ∃ z, (f id).getD (.slice none 0 0) = z := ⟨_, rfl⟩
  rw [hz] at lk
  have HN := Aside0.mk h.2
  clear q1 q2 q3 q4 q5 q6 q7 hok h hw hz hwas
  go_enter Try.func23, Try.ntmps23
  go_upto_region 5 with (first | (go_at_call 28; refine (given_calls g s.dim (by omega) _ c0).mono ?_; rintro e w' ⟨rfl, rfl⟩) | (at_delete; refine wpList_drop_imap rfl _ _ rfl law Try.underlying3 Try.underlying66 rfl HM2.out id rfl HW.out ?_; intro w1 hm1 ht1; have HM3 := Aside0.mk hm1; have HT3 := Aside0.mk (turned_block ht1); clear hm1 ht1))
  have HD1 := Aside0.mk (tree_dropped HT.out HQ.out.1 HM2.out HQ.out.2.1 HQ.out.2.2.1 HQ.out.2.2.2.1 HQ.out.2.2.2.2.1 HQ.out.2.2.2.2.2 HOK.out.rise id HT3.out HM3.out)
  obtain ⟨⟨root9, f9, ni9, q1, q2, q3, q4, q5, q6, q7⟩, _, _, _⟩ := HD1.out
  have c3 := HD1.out.insc
  have HQ9 := Aside0.mk (And.intro q1 (And.intro q2 (And.intro q3 (And.intro q4 (And.intro q5 (And.intro q6 q7))))))
  clear q1 q2 q3 q4 q5 q6 q7 c0 c2 lk
  go_upto_region 6 with (at_delete; refine wpList_drop_imap rfl _ _ rfl law Try.underlying3 Try.underlying67 rfl HQ9.out.2.2.1 id rfl HW.out ?_; intro w2 hm2 ht2; have HM4 := Aside0.mk hm2; have HT4 := Aside0.mk (turned_block ht2); clear hm2 ht2)
  have HD2 := Aside0.mk (tree_outed HD1.out HQ9.out.1 HQ9.out.2.1 HQ9.out.2.2.1 HQ9.out.2.2.2.1 HQ9.out.2.2.2.2.1 HQ9.out.2.2.2.2.2.1 HQ9.out.2.2.2.2.2.2 id HT4.out HM4.out)
  have HTI := Aside0.mk (tidies_all _ g ma mi _ HD2.out (HOK.out.drop id))
  clear c3
  go_wp2_with (go_at_call 31; refine HTI.out.mono ?_; rintro e w5 ⟨rfl, hx5, ht5⟩; have HX5 := Aside0.mk hx5; have HT5 := Aside0.mk ht5; clear hx5 ht5)
  go_ret
  obtain ⟨mi', s', h3, h4, h5⟩ := HX5.out
  obtain ⟨h7, h8, h9⟩ := Tidy.ok h4 (HOK.out.drop id)
  have t3 := HT3.out.wide (G := fun j => j = g ∨ j = ma ∨ j = mi) (fun j hj => .inr (.inl hj))
  have t4 := HT4.out.wide (G := fun j => j = g ∨ j = ma ∨ j = mi) (fun j hj => .inr (.inr hj))
  refine ⟨rfl, ⟨mi', s', h3, h7, h8, h9, ?_⟩, (t3.trans_ t4).trans_ HT5.out⟩
  rcases h5 with e | e
  · exact .inl e
  · exact .inr (Nat.le_trans (Nat.le_trans t3.size t4.size) e)
theorem get_none (W : World) (g ma mi : Nat) (s : TS) (h : TreeAt W g ma mi s) (hok : TSok s) (id : Int) (hw : (Lit.int .i64 id).wf = true) (hwas : look s.L id = none) :
    Calls Try.prog 25 #[.pointer (some ⟨g, 0, none⟩), .int .i64 id] W fun e w' => e = .returned (.tuple #[.slice none 0 0, .int .i64 3]) ∧ W = w' := by
  have hd := hok.d1
  obtain ⟨root, f, ni, q1, q2, q3, q4, q5, q6, q7⟩ := h.ex
  have c0 := h.dimc
  have c2 := h.allc
  have lk := q2.look_ok law Try.underlying3 Try.underlying66 (zero23 _) id hw
  rw [q6 id, hwas] at lk
  obtain ⟨z, hz⟩ : ∃ z, (f id).getD (.slice none 0 0) = z := ⟨_, rfl⟩
  rw [hz] at lk
  clear q1 q2 q3 q4 q5 q6 q7 hok h hw hz hwas
  go_enter Try.func25, Try.ntmps25
  go_wp2_with (go_at_call 28; refine (given_calls g s.dim (by omega) _ c0).mono ?_; rintro e w' ⟨rfl, rfl⟩)
  go_ret2
  exact ⟨rfl, rfl⟩
structure GotV (W : World) (v : List Int) (e : Ending) (w' : World) : Prop where
  ex : ∃ A c, e = .returned (.tuple #[.slice A v.length c, .int .i64 0]) ∧ Kd.C (Kd.int .i64) w' A v.length v ∧ v.length ≤ c
  below : Below W.heap.size W w'
theorem get_some (W : World) (g ma mi : Nat) (s : TS) (h : TreeAt W g ma mi s) (hok : TSok s) (id : Int) (hw : (Lit.int .i64 id).wf = true) (v : List Int) (hwas : look s.L id = some v) :
    Calls Try.prog 25 #[.pointer (some ⟨g, 0, none⟩), .int .i64 id] W (GotV W v) := by
  have hd := hok.d1
  have hv : isV v = true ∧ _ := hok.vecs _ (look_mem hwas)
  have hlen := isV_len hv.1
  obtain ⟨root, f, ni, q1, q2, q3, q4, q5, q6, q7⟩ := h.ex
  have c0 := h.dimc
  have c2 := h.allc
  have lk := q2.look_ok law Try.underlying3 Try.underlying66 (zero23 _) id hw
  have hs := q6 id
  rw [hwas] at hs
  obtain ⟨val, hval⟩ : ∃ val, f id = some val := by
    cases e : f id with
    | none => rw [e] at hs; cases hs
    | some x => exact ⟨x, rfl⟩
  obtain ⟨v', e1, hva⟩ := q7 id val hval
  rw [hwas] at e1
  cases e1
  obtain ⟨A, c, rfl, hC, _⟩ := hva.form (by omega)
  rw [hval] at lk
  have HCL := Aside0.mk (clone_calls A c v W hC hlen.1 (by omega))
  obtain ⟨vn, hvn⟩ : ∃ vn, v.length = vn := ⟨_, rfl⟩
  have HVN := Aside0.mk hvn
  have HLEN := Aside0.mk hlen
  rw [hvn] at lk HCL
  clear q1 q2 q3 q4 q5 q6 q7 hok h hw hwas hs hval hva hC hlen hvn hv
  go_enter Try.func25, Try.ntmps25
  go_wp2_with (first | (go_at_call 28; refine (given_calls g s.dim (by omega) _ c0).mono ?_; rintro e w' ⟨rfl, rfl⟩) | (go_at_call 30; refine HCL.out.mono ?_; rintro e w5 ⟨⟨val5, rfl, hv5⟩, hb5⟩; have HV5 := Aside0.mk hv5; have HB5 := Aside0.mk hb5; clear hv5 hb5))
  go_ret2
  obtain ⟨A', c', rfl, hC', _⟩ := HV5.out.form (by have := HLEN.out; omega)
  exact ⟨⟨A', c', rfl, hC', HV5.out.room⟩, HB5.out⟩
theorem row_vec {W : World} {A : Option Addr} {n c : Nat} {v : List Int} {b : Nat} (h : VecAt W b (.slice A n c) v) (hl : v.length ≤ 9223372036854775807) : n = v.length ∧ Kd.C (Kd.int .i64) W A v.length v ∧ v.length ≤ c ∧ ∀ ad, A = some ad → ad.block < b := by
  obtain ⟨A', c', e, h1, h2⟩ := h.form hl
  injection e with e1 e2 e3
  subst e1
  exact ⟨e2, h1, h.room, h2⟩
theorem below_alloc0 {b : Nat} {w : World} (hb : b ≤ w.heap.size) (o : Obj) : Below b w (w.alloc o) := (below_alloc (Below.refl w.heap.size w) o).mono hb
/-- A tree of d numbers that holds L, of the law's own. -/
def HoldsD (W : World) (b0 g ma : Nat) (d : Int) (L : List (Int × List Int)) : Prop := ∃ mi s, TreeAt W g ma mi s ∧ TSok s ∧ s.L = L ∧ s.dim = d ∧ b0 ≤ mi ∧ b0 ≤ g ∧ b0 ≤ ma
theorem HoldsD.below {W W' : World} {b0 g ma : Nat} {d : Int} {L : List (Int × List Int)} (h : HoldsD W b0 g ma d L) (hb : Below W.heap.size W W') : HoldsD W' b0 g ma d L := by
  obtain ⟨mi, s, h1, h2⟩ := h
  exact ⟨mi, s, h1.below hb, h2⟩
theorem HoldsD.few {W : World} {b0 g ma : Nat} {d : Int} {L : List (Int × List Int)} (h : HoldsD W b0 g ma d L) : L.length ≤ 512 := by
  obtain ⟨mi, s, h1, h2, rfl, _⟩ := h
  exact h2.few
theorem HoldsD.rise {W : World} {b0 g ma : Nat} {d : Int} {L : List (Int × List Int)} (h : HoldsD W b0 g ma d L) : Rising L := by
  obtain ⟨mi, s, h1, h2, rfl, _⟩ := h
  exact h2.rise
theorem HoldsD.vecs {W : World} {b0 g ma : Nat} {d : Int} {L : List (Int × List Int)} (h : HoldsD W b0 g ma d L) : ∀ p ∈ L, isV p.2 = true ∧ (p.2.length : Int) = d ∧ (Lit.int .i64 p.1).wf = true := by
  obtain ⟨mi, s, h1, h2, rfl, rfl, _⟩ := h
  exact h2.vecs
theorem HoldsD.dims {W : World} {b0 g ma : Nat} {d : Int} {L : List (Int × List Int)} (h : HoldsD W b0 g ma d L) : 1 ≤ d ∧ d ≤ 16 := by
  obtain ⟨mi, s, h1, h2, _, rfl, _⟩ := h
  exact ⟨h2.d1, h2.d2⟩
theorem HoldsD.lt {W : World} {b0 g ma : Nat} {d : Int} {L : List (Int × List Int)} (h : HoldsD W b0 g ma d L) : b0 ≤ W.heap.size := by
  obtain ⟨mi, s, h1, _, _, _, _, h3, _⟩ := h
  have := h1.lt.1
  omega
structure DoneH (W : World) (b0 g ma : Nat) (d : Int) (L : List (Int × List Int)) (v : Value) (e : Ending) (w' : World) : Prop where
  ret : e = .returned v
  holds : HoldsD w' b0 g ma d L
  below : Below b0 W w'
theorem done_of_took {W : World} {b0 g ma mi : Nat} {d : Int} {L : List (Int × List Int)} {v : Value} {e : Ending} {w' : World} (hmi : b0 ≤ mi) (hg : b0 ≤ g) (hma : b0 ≤ ma) (hb : b0 ≤ W.heap.size) (h : Took W g ma mi d L v e w') : DoneH W b0 g ma d L v e w' := by
  obtain ⟨e1, ⟨mi', s', t1, t2, t3, t4, t5⟩, tu⟩ := h
  exact ⟨e1, ⟨mi', s', t1, t2, t3, t4, by omega, hg, hma⟩, belowB_turns (Below.refl _ _) tu (fun j hj => by rcases hj with rfl | rfl | rfl <;> assumption) hb⟩
/-- What Put answers, and what there is then. -/
def putR (d : Int) (L : List (Int × List Int)) (id : Int) (v : List Int) : Bool × Int × List (Int × List Int) :=
  if ckV v d = 0 then (if (look L id).isSome = true ∨ L.length < 512 then ((look L id).isSome, 0, putL id v L) else (false, 2, L)) else (false, 50, L)
theorem ck_cases (v : List Int) (d : Int) : (isV v = true ∧ (v.length : Int) = d ∧ ckV v d = 0) ∨ ckV v d = 50 := by
  unfold ckV
  split
  · rename_i h; exact .inl ⟨h.1, h.2, rfl⟩
  · exact .inr rfl
theorem hold_put {W : World} {b0 g ma : Nat} {d : Int} {L : List (Int × List Int)} (h : HoldsD W b0 g ma d L) (id : Int) (hw : (Lit.int .i64 id).wf = true) (A : Option Addr) (c : Nat) (v : List Int) (hC : Kd.C (Kd.int .i64) W A v.length v) :
    Calls Try.prog 15 #[.pointer (some ⟨g, 0, none⟩), .agg #[.int .i64 id, .slice A v.length c]] W (DoneH W b0 g ma d (putR d L id v).2.2 (.tuple #[.bool (putR d L id v).1, .int .i64 (putR d L id v).2.1])) := by
  have hb := h.lt
  obtain ⟨mi, s, ht, hok, rfl, rfl, hm, hg, hma⟩ := h
  rcases ck_cases v s.dim with ⟨h1, h2, h3⟩ | h3
  · unfold putR
    rw [if_pos h3]
    by_cases hf : (look s.L id).isSome = true ∨ s.L.length < 512
    · rw [if_pos hf]
      exact (put_ok W g ma mi s ht hok id hw A c v hC h1 h2 _ rfl hf).mono fun e w' hh => done_of_took hm hg hma hb hh
    · rw [if_neg hf]
      have hn : look s.L id = none := by
        cases e : look s.L id with
        | none => rfl
        | some x => exact absurd (.inl (by rw [e]; rfl)) hf
      refine (put_full W g ma mi s ht hok id hw A c v hC h1 h2 hn ?_).mono fun e w' hh => ⟨hh.1, ⟨mi, s, ht.below hh.2, hok, rfl, rfl, hm, hg, hma⟩, hh.2.mono hb⟩
      have := hok.few
      have : ¬ s.L.length < 512 := fun e => hf (.inr e)
      omega
  · unfold putR
    rw [if_neg (by rw [h3]; decide)]
    have hd := hok.d1
    exact (put_bad W g ma mi s ht (by omega) id A c v hC h3).mono fun e w' hh => ⟨hh.1, ⟨mi, s, ht.below hh.2, hok, rfl, rfl, hm, hg, hma⟩, hh.2.mono hb⟩
theorem hold_make {W : World} {b0 g ma : Nat} {d : Int} {L : List (Int × List Int)} (h : HoldsD W b0 g ma d L) : Calls Try.prog 18 #[.pointer (some ⟨g, 0, none⟩)] W (DoneH W b0 g ma d L (.int .i64 0)) := by
  have hb := h.lt
  obtain ⟨mi, s, ht, hok, rfl, rfl, hm, h1, h2⟩ := h
  refine (make_calls W g ma mi s ht hok).mono ?_
  rintro e w' ⟨e1, ⟨mi', T, t1, t2, t3⟩, tu⟩
  exact ⟨e1, ⟨mi', _, t1, hok.built t2.1 t2.2.1 t2.2.2, rfl, rfl, by omega, h1, h2⟩, belowB_turns (Below.refl _ _) tu (fun j hj => by rcases hj with rfl | rfl | rfl <;> assumption) hb⟩
theorem hold_drop {W : World} {b0 g ma : Nat} {d : Int} {L : List (Int × List Int)} (h : HoldsD W b0 g ma d L) (id : Int) (hw : (Lit.int .i64 id).wf = true) :
    Calls Try.prog 23 #[.pointer (some ⟨g, 0, none⟩), .int .i64 id] W (DoneH W b0 g ma d (dropL id L) (.bool (look L id).isSome)) := by
  have hb := h.lt
  obtain ⟨mi, s, ht, hok, rfl, rfl, hm, hg, hma⟩ := h
  exact (drop_ok W g ma mi s ht hok id hw _ rfl).mono fun e w' hh => done_of_took hm hg hma hb hh
theorem hold_len {W : World} {b0 g ma : Nat} {d : Int} {L : List (Int × List Int)} (h : HoldsD W b0 g ma d L) : Calls Try.prog 20 #[.pointer (some ⟨g, 0, none⟩)] W fun e w' => e = .returned (.int .i64 L.length) ∧ W = w' := by
  obtain ⟨mi, s, ht, hok, rfl, rfl, hm, hg, hma⟩ := h
  have hd := hok.d1
  exact len_calls W g ma mi s ht (by omega)
structure TopD (W : World) (b0 g ma : Nat) (d : Int) (L : List (Int × List Int)) (l : List (Int × Int)) (e : Ending) (w' : World) : Prop where
  ex : ∃ A c, e = .returned (.tuple #[.slice A l.length c, .int .i64 0]) ∧ w'.ownsRow W.heap.size 49 2 (.slice A l.length c) l.length (prs l)
  holds : HoldsD w' b0 g ma d L
  below : Below W.heap.size W w'
theorem hold_top {W : World} {b0 g ma : Nat} {d : Int} {L : List (Int × List Int)} (h : HoldsD W b0 g ma d L) (V : Option Addr) (vc : Nat) (v : List Int) (hC : Kd.C (Kd.int .i64) W V v.length v) (hvb : ∀ ad, V = some ad → ad.block < W.heap.size) (hv : isV v = true) (hvd : (v.length : Int) = d) (k : Nat) (hk1 : 1 ≤ k) (hk2 : k ≤ 64) (limit : Int) :
    Calls Try.prog 17 #[.pointer (some ⟨g, 0, none⟩), .slice V v.length vc, .int .i64 (k : Int), .int .i64 limit] W (TopD W b0 g ma d L (best k limit (hits L v))) := by
  obtain ⟨mi, s, ht, hok, rfl, rfl, hm⟩ := h
  exact (top_ok W g ma mi s ht hok V vc v hC hvb hv hvd k hk1 hk2 limit).mono fun e w' hh => ⟨hh.ex, ⟨mi, s, ht.below hh.below, hok, rfl, rfl, hm⟩, hh.below⟩
structure PointsD (W : World) (b0 g ma : Nat) (d : Int) (L : List (Int × List Int)) (e : Ending) (w' : World) : Prop where
  done : PointsDone W d.toNat L e w'
  holds : HoldsD w' b0 g ma d L
theorem hold_points {W : World} {b0 g ma : Nat} {d : Int} {L : List (Int × List Int)} (h : HoldsD W b0 g ma d L) : Calls Try.prog 22 #[.pointer (some ⟨g, 0, none⟩)] W (PointsD W b0 g ma d L) := by
  obtain ⟨mi, s, ht, hok, rfl, rfl, hm⟩ := h
  exact (points_ok W g ma mi s ht hok).mono fun e w' hh => ⟨hh, ⟨mi, s, ht.below hh.below, hok, rfl, rfl, hm⟩⟩
structure NewD (W : World) (d : Int) (e : Ending) (w' : World) : Prop where
  ex : ∃ g ma, e = .returned (.tuple #[.pointer (some ⟨g, 0, none⟩), .int .i64 0]) ∧ HoldsD w' W.heap.size g ma d []
  below : Below W.heap.size W w'
theorem hold_new (d : Int) (h1 : 1 ≤ d) (h2 : d ≤ 16) (W : World) : Calls Try.prog 11 #[.int .i64 d] W (NewD W d) :=
  (new_calls d h1 h2 W).mono fun e w' hh => by
    obtain ⟨⟨g, ma, mi, rfl, ht, hg1, hg2, hg3⟩, hb⟩ := hh
    exact ⟨⟨g, ma, rfl, ⟨mi, _, ht, TSok.new h1 h2, rfl, rfl, hg3, hg1, hg2⟩⟩, hb⟩
end Go.Proofs.Ytealiaafdkhonaa.Vp

namespace Go.Proofs.Ytealiaafdkhonaa.Vp
open Go.RowKit Go.Sort Mb Base Go.WideShapes Go.ChangeShapes Go.Proofs.YtealiaafdkhonaaW.PrintWords Go.Proofs.YtealiaafdkhonaaW.PrintLast Go.Proofs.YtealiaafdkhonaaW.PrintMore
set_option linter.unusedVariables false
set_option linter.unusedSimpArgs false
/-- A point, as its cells read. -/
def RP (W : World) (x : Int × List Int) (cs : List Value) : Prop := ∃ A c, cs = [.int .i64 x.1, .slice A x.2.length c] ∧ x.2.length ≤ c ∧ Kd.C (Kd.int .i64) W A x.2.length x.2 ∧ (Lit.int .i64 x.1).wf = true
theorem at_pt {W : World} {A : Option Addr} {l : List (Int × List Int)} (h : ReadsRow (RP W) 2 W A l.length l) (k : Nat) (hk : k < l.length) : ∃ ad A1 c1, A = some ad ∧ W.cell? (ad.add (k * 2)) = some (.int .i64 l[k].1) ∧ W.cell? ⟨(ad.add (k * 2)).block, (ad.add (k * 2)).off + 1, none⟩ = some (.slice A1 l[k].2.length c1) ∧ l[k].2.length ≤ c1 ∧ Kd.C (Kd.int .i64) W A1 l[k].2.length l[k].2 ∧ (Lit.int .i64 l[k].1).wf = true := by
  obtain ⟨ad, e, hc⟩ := h.2.2 (by omega)
  obtain ⟨c, _, ⟨A1, c1, rfl, h1, h2, h3⟩, hx⟩ := hc k _ (List.getElem?_eq_getElem hk)
  exact ⟨ad, A1, c1, e, hx 0 _ rfl, by have := hx 1 _ rfl; rw [← Addr.add_add] at this; exact this, h1, h2, h3⟩
section
variable {P : Program} {H : Type} {enc : TypeId × Value → H} {W : World} {base : Nat} {spare : Nat → Bool} {held : Bool} {e : TypeId}
theorem el_pt {f0 f1 : Field} {i : TypeId} (he : P.underlying e = some (.struct #[f0, f1])) (h0 : P.underlying f0.type = some (.int .i64)) (h1 : P.underlying f1.type = some (.slice i)) (hi : P.underlying i = some (.int .i64)) (o0 : f0.offset = 0) (o1 : f1.offset = 1) (c0 : P.cellsOf f0.type = 1) (c1 : P.cellsOf f1.type = 1) (ci : P.cellsOf i = 1)
    (f : Nat) (cs : List Value) (z : DataW H × List MemPlace) (hl : cs.length = 2) (h : DataW.trod enc P W base spare held f e cs = some z) : ∃ x, RP W x cs := by
  obtain ⟨y0, y1, m, _, _, g0, g1⟩ := trod_struct2 he h
  match cs, hl with
  | [u0, u1], _ =>
    simp only [o0, o1, c0, c1] at g0 g1
    obtain ⟨a0, e0, _, w0⟩ := DataW.trod_int h0 g0
    obtain ⟨A, c, l, e1, hC, hc⟩ := open_ints_C h1 hi ci (show DataW.trod enc P W base spare held m f1.type [u1] = some y1 from g1)
    simp at e0
    subst e0; subst e1
    exact ⟨(a0, l), A, c, rfl, hc, hC, w0⟩
end
/-- What there is behind some points put in. -/
def putsL (d : Int) (ps : List (Int × List Int)) : List (Int × List Int) := ps.foldl (fun L p => (putR d L p.1 p.2).2.2) []
theorem puts_snoc (d : Int) (l : List (Int × List Int)) (i : Nat) (h : i < l.length) : putsL d (l.take (i + 1)) = (putR d (putsL d (l.take i)) l[i].1 l[i].2).2.2 := by
  unfold putsL
  rw [List.take_succ_eq_append_getElem h, List.foldl_append]
  rfl
end Go.Proofs.Ytealiaafdkhonaa.Vp
