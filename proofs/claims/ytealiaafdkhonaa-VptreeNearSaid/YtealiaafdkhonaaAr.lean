/- What comes in, opened: a slice of numbers, an array of two. -/
import Derived.Test.YtealiaafdkhonaaBase
import Derived.WideKeyArr2
import Derived.Lib.SmallJoins
import Derived.OpenShut
namespace Go.Proofs.Ytealiaafdkhonaa.Ch
open Go.RowKit Go.Joins Go.WideShapes Go.ChangeShapes Go.Proofs.YtealiaafdkhonaaW.PrintWords Go.Proofs.YtealiaafdkhonaaW.PrintLast Go.Proofs.YtealiaafdkhonaaW.PrintMore
set_option linter.unusedVariables false
theorem open_ints_top {P : Program} {H : Type} {enc : TypeId × Value → H} {W : World} {base : Nat} {spare : Nat → Bool} {held : Bool} {r : Reach} {b0 : Nat} {t e : TypeId} {v : Value} {d : DataW H} {p : List MemPlace} (ht : P.underlying t = some (.slice e)) (he : P.underlying e = some (.int .i64)) (hc : P.cellsOf e = 1)
    (hv : Value.okWide P W r b0 t v) (h : DataW.Trod enc P W base spare held t v d p) : ∃ A cap l, v = .slice A l.length cap ∧ Kd.C (Kd.int .i64) W A l.length l ∧ l.length ≤ cap := by
  obtain ⟨a, len, cap, rfl⟩ := okWide_slice ht hv
  obtain ⟨f, hf⟩ := h
  exact Base.open_ints_C ht he hc (show DataW.trod enc P W base spare held f t [.slice a len cap] = some _ from hf)
theorem two_of {cs : Array Value} (h : cs.size = 2) : ∃ a b, cs = #[a, b] := by
  obtain ⟨l⟩ := cs
  match l, h with
  | [a, b], _ => exact ⟨a, b, rfl⟩
theorem open_arr2 {H : Type} {enc : TypeId × Value → H} {P : Program} {w : World} {base : Nat} {spare : Nat → Bool} {held : Bool} {r : Reach} {b0 : Nat} {t e : TypeId} {q : IntKind} {v : Value} {d : DataW H} {p : List MemPlace} (hs : P.underlying t = some (.array 2 e)) (he : P.underlying e = some (.int q)) (hce : P.cellsOf e = 1) (hct : P.cellsOf t = 2)
    (hv : Value.okWide P w r b0 t v) (h : DataW.Trod enc P w base spare held t v d p) : ∃ a0 a1 : Int, v = .agg #[.int q a0, .int q a1] := by
  simp only [Value.okWide, hs] at hv
  obtain ⟨cs, rfl, h2, _⟩ := hv
  obtain ⟨c0, c1, rfl⟩ := two_of (h2.trans hct)
  obtain ⟨fuel, hf⟩ := h
  cases fuel with
  | zero => simp [DataW.trod] at hf
  | succ m =>
    rw [DataW.trod_step] at hf
    unfold DataW.trodStep at hf
    simp only [hs, Value.cells] at hf
    rw [if_pos (by rw [hct]; rfl)] at hf
    simp only [Option.map_eq_some_iff, hce] at hf
    obtain ⟨ys, hy, _⟩ := hf
    rw [show List.range 2 = [0, 1] from rfl, List.mapM_cons, List.mapM_cons] at hy
    simp only [bind, Option.bind_eq_some_iff] at hy
    obtain ⟨y0, h0, z1, ⟨y1, h1, _⟩, _⟩ := hy
    obtain ⟨a0, e0, _, _⟩ := DataW.trod_int he h0
    obtain ⟨a1, e1, _, _⟩ := DataW.trod_int he h1
    simp at e0 e1
    subst e0; subst e1
    exact ⟨a0, a1, rfl⟩
end Go.Proofs.Ytealiaafdkhonaa.Ch
