/- An array of three ints, opened. -/
import Derived.Test.YtncmkcdnlcmiaaaProg
import Derived.WideKeyArr2
import Derived.Lib.SmallJoins
namespace Go.Proofs.Ytncmkcdnlcmiaaa.Wh
open Go.RowKit Go.Joins
theorem open_arr3 {H : Type} {enc : TypeId × Value → H} {P : Program} {w : World} {base : Nat} {spare : Nat → Bool} {held : Bool} {r : Reach} {b0 : Nat} {t e : TypeId} {q : IntKind} {v : Value} {d : DataW H} {p : List MemPlace} (hs : P.underlying t = some (.array 3 e)) (he : P.underlying e = some (.int q)) (hce : P.cellsOf e = 1) (hct : P.cellsOf t = 3)
    (hv : Value.okWide P w r b0 t v) (h : DataW.Trod enc P w base spare held t v d p) : ∃ a0 a1 a2 : Int, v = .agg #[.int q a0, .int q a1, .int q a2] := by
  simp only [Value.okWide, hs] at hv
  obtain ⟨cs, rfl, h2, _⟩ := hv
  obtain ⟨c0, c1, c2, rfl⟩ := array3 (h2.trans hct)
  obtain ⟨fuel, hf⟩ := h
  cases fuel with
  | zero => simp [DataW.trod] at hf
  | succ m =>
    rw [DataW.trod_step] at hf
    unfold DataW.trodStep at hf
    simp only [hs, Value.cells] at hf
    rw [if_pos (by rw [hct]; rfl)] at hf
    simp only [Option.map_eq_some_iff, hce] at hf
    obtain ⟨ys, hy, _⟩ := hf
    rw [show List.range 3 = [0, 1, 2] from rfl, List.mapM_cons, List.mapM_cons, List.mapM_cons] at hy
    simp only [bind, Option.bind_eq_some_iff] at hy
    obtain ⟨y0, h0, z1, ⟨y1, h1, z2, ⟨y2, h2, _⟩, _⟩, _⟩ := hy
    obtain ⟨a0, e0, _, _⟩ := DataW.trod_int he h0
    obtain ⟨a1, e1, _, _⟩ := DataW.trod_int he h1
    obtain ⟨a2, e2, _, _⟩ := DataW.trod_int he h2
    simp at e0 e1 e2
    subst e0; subst e1; subst e2
    exact ⟨a0, a1, a2, rfl⟩
end Go.Proofs.Ytncmkcdnlcmiaaa.Wh
