/- The reference's New. -/
import Derived.Test.YtealiaafdkhonaaNr
namespace Go.Proofs.Ytealiaafdkhonaa.Vp
open Go.RowKit Go.Sort Mb Base Go.Proofs.YtealiaafdkhonaaW.PrintWords Go.Proofs.YtealiaafdkhonaaW.PrintLast Go.Proofs.YtealiaafdkhonaaW.PrintMore
set_option linter.unusedVariables false
set_option linter.unusedSimpArgs false
theorem ref_new (d : Int) (h1 : 1 ≤ d) (h2 : d ≤ 16) (W : World) : Calls Try.prog 13 #[.int .i64 d] W fun e w' => e = .returned (.tuple #[.agg #[.int .i64 d, .slice none 0 0], .int .i64 0]) ∧ Below W.heap.size W w' := by
  have g1 : ¬ d < 1 := by omega
  have g2 : ¬ 16 < d := by omega
  go_enter Try.func13, Try.ntmps13
  go_wp2_with fail
  refine bodyPost_ret (v := .tuple #[.agg #[.int .i64 d, .slice none 0 0], .int .i64 0]) (by simp [results, Try.results13, go_sem]) rfl ⟨rfl, ?_⟩
  exact below_alloc (Below.refl _ _) _
theorem ref_new_no (d : Int) (h1 : d < 1 ∨ 16 < d) (W : World) : Calls Try.prog 13 #[.int .i64 d] W fun e w' => e = .returned (.tuple #[.agg #[.int .i64 0, .slice none 0 0], .int .i64 1]) ∧ Below W.heap.size W w' := by
  by_cases g1 : d < 1
  · go_enter Try.func13, Try.ntmps13
    go_wp2_with fail
    refine bodyPost_ret (v := .tuple #[.agg #[.int .i64 0, .slice none 0 0], .int .i64 1]) (by simp [results, Try.results13, go_sem]) rfl ⟨rfl, ?_⟩
    exact below_alloc (Below.refl _ _) _
  · have g2 : 16 < d := by omega
    go_enter Try.func13, Try.ntmps13
    go_wp2_with fail
    refine bodyPost_ret (v := .tuple #[.agg #[.int .i64 0, .slice none 0 0], .int .i64 1]) (by simp [results, Try.results13, go_sem]) rfl ⟨rfl, ?_⟩
    exact below_alloc (Below.refl _ _) _
end Go.Proofs.Ytealiaafdkhonaa.Vp
