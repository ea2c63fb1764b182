/- slices.Insert at hits, whatever the road. -/
import Derived.Test.YtealiaafdkhonaaIg
namespace Go.Proofs.Ytealiaafdkhonaa.Vp
open Go.RowKit Go.Sort Go.Proofs.YtealiaafdkhonaaW.PrintWords Go.Proofs.YtealiaafdkhonaaW.PrintLast Go.Proofs.YtealiaafdkhonaaW.PrintMore
set_option linter.unusedVariables false
set_option linter.unusedSimpArgs false

theorem insert_calls (B : Nat) (A : Option Addr) (c : Nat) (l : List (Int × Int)) (i : Nat) (h : Int × Int) (vb vc : Nat) (w : World) (how : w.ownsRow B 49 2 (.slice A l.length c) l.length (prs l)) (hi : i ≤ l.length) (hl : l.length ≤ 1000) (hB : B ≤ w.heap.size)
    (hv : w.heap[vb]? = some (.cells #[.int .i64 h.1, .int .i64 h.2] 49 (0, 0))) (hne : (Value.slice A l.length c).ownBlock ≠ some vb) :
    Calls Try.prog 50 #[.slice A l.length c, .int .i64 i, .slice (some ⟨vb, 0, none⟩) 1 vc] w (InsDone B (l.take i ++ h :: l.drop i) (fun k => (Value.slice A l.length c).ownBlock = some k) w) := by
  rcases Nat.lt_or_eq_of_le hi with h1 | h1
  · have hA : ∃ g, A = some ⟨g, 0, none⟩ := by
      rcases how.2 with ⟨e1, e2⟩ | ⟨g', cap, cur, e1, _⟩
      · omega
      · injection e1 with e1; exact ⟨g', e1⟩
    obtain ⟨g, rfl⟩ := hA
    have hF : (fun k => (Value.slice (some ⟨g, 0, none⟩) l.length c).ownBlock = some k) = (fun k => k = g) := by
      funext k
      exact propext ⟨fun e => by injection e with e; exact e.symm, fun e => by rw [e]; rfl⟩
    rw [hF]
    by_cases hr : l.length + 1 ≤ c
    · exact insert_shift B g c l i h vb vc w how hr h1 hl hv (fun e => hne (by rw [e]; rfl))
    · exact insert_grow B g c l i h vb vc w how (by omega) h1 hl hB hv
  · subst h1
    rw [List.take_length, List.drop_length]
    exact insert_end B A c l h vb vc w how hl hB hv
end Go.Proofs.Ytealiaafdkhonaa.Vp
