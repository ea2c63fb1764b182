/- Two trees beside each other. -/
import Derived.Test.YtealiaafdkhonaaHo1
import Derived.Test.YtealiaafdkhonaaPq
namespace Go.Proofs.Ytealiaafdkhonaa.Vp
open Go.RowKit Go.Sort Mb Base Go.Proofs.YtealiaafdkhonaaW.PrintWords Go.Proofs.YtealiaafdkhonaaW.PrintLast Go.Proofs.YtealiaafdkhonaaW.PrintMore
set_option linter.unusedVariables false
set_option linter.unusedSimpArgs false
section
variable {W W' : World} {b0 ga maa gb mab : Nat} {d : Int} {La Lb : List (Int × List Int)}
theorem tree_other {g ma mi : Nat} {s : TS} (h : TreeAt W g ma mi s) {j : Nat} {cur : Array Value} {t : TypeId} (hj : W.heap[j]? = some (.cells cur t (0, 0))) (ht : t ≠ 69) : ¬ (j = g ∨ j = ma ∨ j = mi) := by
  obtain ⟨⟨root, f, ni, h1, h2, h3, _⟩, _⟩ := h
  rintro (rfl | rfl | rfl)
  · rw [hj] at h1
    injection h1 with h1
    injection h1 with _ h1
    exact ht h1
  · obtain ⟨es, clock, h4⟩ := imap_obj h2
    rw [hj] at h4
    injection h4 with h4
    cases h4
  · obtain ⟨es, clock, h4⟩ := imap_obj h3
    rw [hj] at h4
    injection h4 with h4
    cases h4
end
/-- The points that a tree answers, as they read later. -/
theorem points_read {W : World} {L : List (Int × List Int)} {n : Nat} {e : Ending} {w' : World} (h : PointsDone W n L e w') (hL : L.length ≤ 512) : ∃ A c, e = .returned (.slice A L.length c) ∧ Kd.C PVptreeNear.k37 w' A L.length (L.map s37) ∧ L.length ≤ c := by
  obtain ⟨⟨A, c, Q, e1, hq, ho, hok, hL2⟩, _⟩ := h
  rw [← hq] at ho
  have := points_C ho hok (by omega)
  rw [hL2, hq] at this
  exact ⟨A, c, e1, this⟩
end Go.Proofs.Ytealiaafdkhonaa.Vp
