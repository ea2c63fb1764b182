/- What comes in, opened: slices of numbers, of pairs, of records, as lists. -/
import Derived.Test.YtncmkcdnlcmiaaaWMore
import Derived.Test.YtncmkcdnlcmiaaaProg
import Derived.OpenShut
import Derived.ProofKit
import Derived.Deep.Strs
namespace Go.Proofs.Ytncmkcdnlcmiaaa.Op
open Go.RowKit Go.WideShapes Go.ChangeShapes Go.Proofs.YtncmkcdnlcmiaaaW.PrintWords Go.Proofs.YtncmkcdnlcmiaaaW.PrintLast Go.Proofs.YtncmkcdnlcmiaaaW.PrintMore
set_option linter.unusedVariables false
set_option linter.unusedSimpArgs false

theorem list_of {α : Type} (P : Nat → α → Prop) : ∀ n, (∀ i, i < n → ∃ x, P i x) → ∃ xs : List α, xs.length = n ∧ ∀ i x, xs[i]? = some x → P i x
  | 0, _ => ⟨[], rfl, fun i x h => by simp at h⟩
  | n + 1, h => by
    obtain ⟨xs, h1, h2⟩ := list_of P n (fun i hi => h i (by omega))
    obtain ⟨x, hx⟩ := h n (by omega)
    refine ⟨xs ++ [x], by simp [h1], fun i y hy => ?_⟩
    by_cases hi : i < n
    · rw [List.getElem?_append_left (by omega)] at hy; exact h2 i y hy
    · by_cases e : i = n
      · rw [List.getElem?_append_right (by omega)] at hy
        rw [e, h1] at hy
        simp at hy
        rw [e, ← hy]; exact hx
      · rw [List.getElem?_eq_none (by simp; omega)] at hy; cases hy

section
variable {P : Program} {H : Type} {enc : TypeId × Value → H} {W : World} {base : Nat} {spare : Nat → Bool} {held : Bool} {t e : TypeId} {fuel : Nat} {v : Value} {y : DataW H × List MemPlace} {r : Reach} {b0 : Nat} {d : DataW H} {p : List MemPlace}

/-- A slice of elements of whatever kind, wherever it lies. -/
theorem open_row {α : Type} {R : α → List Value → Prop} {sz : Nat} (ht : P.underlying t = some (.slice e)) (hc : P.cellsOf e = sz)
    (hE : ∀ (f : Nat) (cs : List Value) (z : DataW H × List MemPlace), cs.length = sz → DataW.trod enc P W base spare held f e cs = some z → ∃ x, R x cs)
    (h : DataW.trod enc P W base spare held fuel t [v] = some y) : ∃ A cap l, v = .slice A l.length cap ∧ ReadsRow R sz W A l.length l ∧ l.length ≤ cap := by
  rcases DataW.trod_slice ht h with ⟨h0, _⟩ | ⟨a, len, cap, elems, rest, n, _, h1, _, hb, hl, hm, hlen, hel, _, _⟩
  · simp at h0
    exact ⟨none, 0, [], h0, ⟨rfl, by simp, fun h => by simp at h⟩, Nat.le_refl _⟩
  · simp at h1
    obtain ⟨xs, hx1, hx2⟩ := list_of (fun i (x : α) => ∃ c : List Value, c.length = sz ∧ R x c ∧ ∀ j u, c[j]? = some u → W.cell? (a.add (i * sz + j)) = some u) len (fun i hi => by
      have hh := hel i hi
      rw [List.getElem?_eq_getElem (by omega), Option.bind_eq_some_iff] at hh
      obtain ⟨cs, hcs, hz⟩ := hh
      obtain ⟨_, hcl, hcell⟩ := World.cells?_some hcs
      rw [hc] at hcl
      obtain ⟨x, hx⟩ := hE n cs _ hcl hz
      refine ⟨x, cs, hcl, hx, fun j u hu => ?_⟩
      have hj : j < sz := by have := (List.getElem?_eq_some_iff.1 hu).1; omega
      have := hcell j (by rw [hc]; exact hj)
      rw [hu, hc, Addr.add_add] at this
      exact this)
    refine ⟨some a, cap, xs, by rw [hx1]; exact h1, ⟨rfl, by unfold maxLen at hm; omega, fun _ => ⟨a, rfl, hx2⟩⟩, by omega⟩

theorem open_row_top {α : Type} {R : α → List Value → Prop} {sz : Nat} (ht : P.underlying t = some (.slice e)) (hc : P.cellsOf e = sz)
    (hE : ∀ (f : Nat) (cs : List Value) (z : DataW H × List MemPlace), cs.length = sz → DataW.trod enc P W base spare held f e cs = some z → ∃ x, R x cs)
    (hv : Value.okWide P W r b0 t v) (h : DataW.Trod enc P W base spare held t v d p) : ∃ A cap l, v = .slice A l.length cap ∧ ReadsRow R sz W A l.length l ∧ l.length ≤ cap := by
  obtain ⟨a, len, cap, rfl⟩ := okWide_slice ht hv
  obtain ⟨f, hf⟩ := h
  exact open_row ht hc hE (show DataW.trod enc P W base spare held f t [.slice a len cap] = some _ from hf)

/-- A whole number of its kind. -/
def I1 (x : Int) (cs : List Value) : Prop := cs = [.int .i64 x] ∧ (Lit.int .i64 x).wf = true
theorem el_int (he : P.underlying e = some (.int .i64)) (f : Nat) (cs : List Value) (z : DataW H × List MemPlace) (_ : cs.length = 1) (h : DataW.trod enc P W base spare held f e cs = some z) : ∃ x, I1 x cs := by
  obtain ⟨m, hcs, _, hw⟩ := DataW.trod_int he h
  exact ⟨m, hcs, hw⟩
/-- Two, an array. -/
def I2 (x : Int × Int) (cs : List Value) : Prop := cs = [.int .i64 x.1, .int .i64 x.2] ∧ (Lit.int .i64 x.1).wf = true ∧ (Lit.int .i64 x.2).wf = true
theorem el_arr2 {i : TypeId} (he : P.underlying e = some (.array 2 i)) (hi : P.underlying i = some (.int .i64)) (hci : P.cellsOf i = 1) (f : Nat) (cs : List Value) (z : DataW H × List MemPlace) (hl : cs.length = 2) (h : DataW.trod enc P W base spare held f e cs = some z) : ∃ x, I2 x cs := by
  obtain ⟨xs, m, _, _, _, hn, hx⟩ := DataW.trod_array he h
  match cs, hl with
  | [c0, c1], _ =>
    have h0 := hx 0 (by omega)
    have h1 := hx 1 (by omega)
    rw [List.getElem?_eq_getElem (by omega)] at h0 h1
    simp only [hci] at h0 h1
    obtain ⟨a0, e0, _, w0⟩ := DataW.trod_int hi h0
    obtain ⟨a1, e1, _, w1⟩ := DataW.trod_int hi h1
    simp at e0 e1
    subst e0; subst e1
    exact ⟨(a0, a1), rfl, w0, w1⟩
/-- Three, a record. -/
def I3 (x : Int × Int × Int) (cs : List Value) : Prop := cs = [.int .i64 x.1, .int .i64 x.2.1, .int .i64 x.2.2] ∧ (Lit.int .i64 x.1).wf = true ∧ (Lit.int .i64 x.2.1).wf = true ∧ (Lit.int .i64 x.2.2).wf = true
theorem el_rec3 {f0 f1 f2 : Field} (he : P.underlying e = some (.struct #[f0, f1, f2])) (hi0 : P.underlying f0.type = some (.int .i64)) (hi1 : P.underlying f1.type = some (.int .i64)) (hi2 : P.underlying f2.type = some (.int .i64)) (o0 : f0.offset = 0) (o1 : f1.offset = 1) (o2 : f2.offset = 2)
    (hc0 : P.cellsOf f0.type = 1) (hc1 : P.cellsOf f1.type = 1) (hc2 : P.cellsOf f2.type = 1)
    (f : Nat) (cs : List Value) (z : DataW H × List MemPlace) (hl : cs.length = 3) (h : DataW.trod enc P W base spare held f e cs = some z) : ∃ x, I3 x cs := by
  obtain ⟨y0, y1, y2, m, _, _, h0, h1, h2⟩ := Go.Deep.trod_struct3 he h
  match cs, hl with
  | [c0, c1, c2], _ =>
    simp only [o0, o1, o2, hc0, hc1, hc2] at h0 h1 h2
    obtain ⟨a0, e0, _, w0⟩ := DataW.trod_int hi0 h0
    obtain ⟨a1, e1, _, w1⟩ := DataW.trod_int hi1 h1
    obtain ⟨a2, e2, _, w2⟩ := DataW.trod_int hi2 h2
    simp at e0 e1 e2
    subst e0; subst e1; subst e2
    exact ⟨(a0, a1, a2), rfl, w0, w1, w2⟩

theorem row_ints {W : World} {A : Option Addr} {l : List Int} (h : ReadsRow I1 1 W A l.length l) : Kd.C (Kd.int .i64) W A l.length l ∧ ∀ x ∈ l, (Lit.int .i64 x).wf = true := by
  constructor
  · refine Kd.C_of_reads (d := (0 : Int)) ⟨rfl, h.2.1, fun hn => ?_⟩
    obtain ⟨a, rfl, ha⟩ := h.2.2 hn
    refine ⟨a, rfl, fun j hj => ?_⟩
    obtain ⟨c, hc, ⟨rfl, _⟩, hx⟩ := ha j _ (List.getElem?_eq_getElem hj)
    have := hx 0 (.int .i64 l[j]) rfl
    rw [Nat.mul_one, Nat.add_zero] at this
    rw [this, List.getD_eq_getElem?_getD, List.getElem?_eq_getElem hj]; rfl
  · intro x hx
    obtain ⟨i, hi⟩ := List.getElem?_of_mem hx
    have hp : 0 < l.length := by have := (List.getElem?_eq_some_iff.1 hi).1; omega
    obtain ⟨a, _, ha⟩ := h.2.2 hp
    obtain ⟨c, _, ⟨_, hw⟩, _⟩ := ha i x hi
    exact hw
end
end Go.Proofs.Ytncmkcdnlcmiaaa.Op
