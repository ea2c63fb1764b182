/- Only: whatever comes, and a value that a text is. -/
import Derived.Test.YtjhalgoondljgaaDoorTk
namespace Go.Proofs.YtjhalgoondljgaaDoor.Re
open Go.RowKit Go.Lib Go.Proofs.YtjhalgoondljgaaDoorW.PrintWords Go.Proofs.YtjhalgoondljgaaDoorW.PrintLast Go.Proofs.YtjhalgoondljgaaDoorW.PrintMore Base
set_option linter.unusedVariables false
set_option linter.unusedSimpArgs false

def OnlyDone (N : Prop) (Q : V → Nat → Prop) (s : ByteArray) (w : World) (e : Ending) (w' : World) : Prop :=
  Below w.heap.size w w' ∧ (((N ∨ ∃ v c, Q v c ∧ c < s.size) ∧ ∃ er : Int, ¬ er = 0 ∧ e = .returned (.tuple #[.agg #[.int .i64 0, .int .i64 0, .string ⟨#[]⟩, .slice none 0 0], .int .i64 er])) ∨
    ∃ (v : V) (c : Nat) (k n t l : Value), e = .returned (.tuple #[.agg #[k, n, t, l], .int .i64 0]) ∧ VAt (fun g => w.heap.size ≤ g) w' v k n t l ∧ Q v c ∧ ¬ c < s.size)

set_option maxRecDepth 100000 in
set_option maxHeartbeats 4000000 in
theorem only_calls (N : Prop) (Q : V → Nat → Prop) (s : ByteArray) (hs : s.size ≤ 2048) (hv : ReadsTo N Q s) (w : World) : Calls Tryd.prog 16 #[.string s] w (OnlyDone N Q s w) := by
  have HV := Aside0.mk hv
  clear hv
  obtain ⟨B, hB⟩ : ∃ B, w.heap.size = B := ⟨_, rfl⟩
  have HBE := Aside0.mk hB
  go_enter Tryd.func16, Tryd.ntmps16
  go_wp2_with fail
  obtain ⟨w2, hw2⟩ : ∃ w2, (w.alloc (.cells #[.int .i64 0, .int .i64 0, .string ⟨#[]⟩, .slice none 0 0] 36)) = w2 := ⟨_, rfl⟩
  have HB2 : Aside0 (w2.heap[B]? = some (.cells #[.int .i64 0, .int .i64 0, .string ⟨#[]⟩, .slice none 0 0] 36 (0, 0))) := ⟨by rw [← hw2, ← HBE.out]; exact blk_new _ _⟩
  have HW2 : Aside0 (Below w.heap.size w w2) := ⟨by rw [← hw2]; exact below_alloc (Below.refl _ _) _⟩
  have HS2 : Aside0 (w2.heap.size = B + 1) := ⟨by rw [← hw2, size_alloc, HBE.out]⟩
  rw [hw2]
  clear hw2 hB
  refine (take_calls N Q s hs HV.out w2).mono ?_
  rintro e w3 ⟨hb3, hcase⟩
  have HW3 : Aside0 (Below w.heap.size w w3) := ⟨HW2.out.trans (hb3.mono HW2.out.size)⟩
  have HB3 : Aside0 (w3.heap[B]? = some (.cells #[.int .i64 0, .int .i64 0, .string ⟨#[]⟩, .slice none 0 0] 36 (0, 0))) := ⟨blk_below HB2.out hb3⟩
  have HS3 : Aside0 (B < w3.heap.size) := ⟨by have := hb3.size; rw [HS2.out] at this; omega⟩
  have HBX := Aside0.mk hb3
  clear hb3
  obtain ⟨p, hp⟩ : ∃ p, w3.heap.size = p := ⟨_, rfl⟩
  have HP := Aside0.mk hp
  have hBp : ¬ B = p := by have := HS3.out; omega
  rcases hcase with ⟨hN, er, her, rfl⟩ | ⟨v, c, k, n, t, l, rfl, hv, hq⟩
  · have HN := Aside0.mk hN
    clear hN
    go_upto_region 3 with (fail)
    obtain ⟨w4, hw4⟩ : ∃ w4, w3.alloc (.cells #[.int .i64 0, .int .i64 0, .string ⟨#[]⟩, .slice none 0 0] 36) = w4 := ⟨_, rfl⟩
    have HB4 : Aside0 (w4.heap[B]? = some (.cells #[.int .i64 0, .int .i64 0, .string ⟨#[]⟩, .slice none 0 0] 36 (0, 0))) := ⟨by rw [← hw4]; exact blk_alloc HB3.out _⟩
    have HP4 : Aside0 (w4.heap[p]? = some (.cells #[.int .i64 0, .int .i64 0, .string ⟨#[]⟩, .slice none 0 0] 36 (0, 0))) := ⟨by rw [← hw4, ← HP.out]; exact blk_new _ _⟩
    have HW4 : Aside0 (Below w.heap.size w w4) := ⟨by rw [← hw4]; exact below_alloc HW3.out _⟩
    have HX4 : Aside0 (Below w3.heap.size w3 w4) := ⟨by rw [← hw4]; exact below_alloc (Below.refl _ _) _⟩
    rw [hw4]
    clear hw4 hp
    have r0 : w4.cell? ⟨B, 0, none⟩ = some (Value.int .i64 0) := (blk_cell HB4.out 0).trans rfl
    have z0 := blk_frozen HB4.out 0
    have r1 : w4.cell? ⟨B, 1, none⟩ = some (Value.int .i64 0) := (blk_cell HB4.out 1).trans rfl
    have z1 := blk_frozen HB4.out 1
    have r2 : w4.cell? ⟨B, 2, none⟩ = some (Value.string ⟨#[]⟩) := (blk_cell HB4.out 2).trans rfl
    have z2 := blk_frozen HB4.out 2
    have r3 : w4.cell? ⟨B, 3, none⟩ = some (Value.slice none 0 0) := (blk_cell HB4.out 3).trans rfl
    have z3 := blk_frozen HB4.out 3
    go_wp2_with fail
    have hbF := blk_put (blk_put (blk_put (blk_put HB4.out 0 (.int .i64 0) rfl) 1 (.int .i64 0) rfl) 2 (.string ⟨#[]⟩) rfl) 3 (.slice none 0 0) rfl
    have x0 := (blk_cell hbF 0).trans (rfl : _ = some (.int .i64 0 : Value))
    have x1 := (blk_cell hbF 1).trans (rfl : _ = some (.int .i64 0 : Value))
    have x2 := (blk_cell hbF 2).trans (rfl : _ = some (.string ⟨#[]⟩ : Value))
    have x3 := (blk_cell hbF 3).trans (rfl : _ = some (.slice none 0 0 : Value))
    clear hbF
    have HBF := Aside0.mk (four_below (b := B) HW4.out (by rw [HBE.out]; exact Nat.le_refl _) (.int .i64 0) (.int .i64 0) (.string ⟨#[]⟩) (.slice none 0 0))
    refine bodyPost_ret (v := .tuple #[.agg #[.int .i64 0, .int .i64 0, .string ⟨#[]⟩, .slice none 0 0], .int .i64 er]) (by simp [results, Tryd.results16, go_sem, x0, x1, x2, x3]) rfl ⟨HBF.out, .inl ⟨.inl HN.out, er, her, rfl⟩⟩
  · have HVV := Aside0.mk hv
    have HQ := Aside0.mk hq
    obtain ⟨q0, q1, q2, A3, n3, c3, rfl, rfl, rfl, rfl⟩ := hv.form
    clear hv hq
    by_cases hc : c < s.size
    · have hc' : (c : Int) < (s.size : Int) := by omega
      go_upto_region 5 with (fail)
      obtain ⟨w4, hw4⟩ : ∃ w4, w3.alloc (.cells #[.int .i64 q0, .int .i64 q1, .string q2, .slice A3 n3 c3] 36) = w4 := ⟨_, rfl⟩
      have HB4 : Aside0 (w4.heap[B]? = some (.cells #[.int .i64 0, .int .i64 0, .string ⟨#[]⟩, .slice none 0 0] 36 (0, 0))) := ⟨by rw [← hw4]; exact blk_alloc HB3.out _⟩
      have HP4 : Aside0 (w4.heap[p]? = some (.cells #[.int .i64 q0, .int .i64 q1, .string q2, .slice A3 n3 c3] 36 (0, 0))) := ⟨by rw [← hw4, ← HP.out]; exact blk_new _ _⟩
      have HW4 : Aside0 (Below w.heap.size w w4) := ⟨by rw [← hw4]; exact below_alloc HW3.out _⟩
      have HX4 : Aside0 (Below w3.heap.size w3 w4) := ⟨by rw [← hw4]; exact below_alloc (Below.refl _ _) _⟩
      rw [hw4]
      clear hw4 hp
      have r0 : w4.cell? ⟨B, 0, none⟩ = some (Value.int .i64 0) := (blk_cell HB4.out 0).trans rfl
      have z0 := blk_frozen HB4.out 0
      have r1 : w4.cell? ⟨B, 1, none⟩ = some (Value.int .i64 0) := (blk_cell HB4.out 1).trans rfl
      have z1 := blk_frozen HB4.out 1
      have r2 : w4.cell? ⟨B, 2, none⟩ = some (Value.string ⟨#[]⟩) := (blk_cell HB4.out 2).trans rfl
      have z2 := blk_frozen HB4.out 2
      have r3 : w4.cell? ⟨B, 3, none⟩ = some (Value.slice none 0 0) := (blk_cell HB4.out 3).trans rfl
      have z3 := blk_frozen HB4.out 3
      go_wp2_with fail
      have hbF := blk_put (blk_put (blk_put (blk_put HB4.out 0 (.int .i64 0) rfl) 1 (.int .i64 0) rfl) 2 (.string ⟨#[]⟩) rfl) 3 (.slice none 0 0) rfl
      have x0 := (blk_cell hbF 0).trans (rfl : _ = some (.int .i64 0 : Value))
      have x1 := (blk_cell hbF 1).trans (rfl : _ = some (.int .i64 0 : Value))
      have x2 := (blk_cell hbF 2).trans (rfl : _ = some (.string ⟨#[]⟩ : Value))
      have x3 := (blk_cell hbF 3).trans (rfl : _ = some (.slice none 0 0 : Value))
      clear hbF
      have HBF := Aside0.mk (four_below (b := B) HW4.out (by rw [HBE.out]; exact Nat.le_refl _) (.int .i64 0) (.int .i64 0) (.string ⟨#[]⟩) (.slice none 0 0))
      refine bodyPost_ret (v := .tuple #[.agg #[.int .i64 0, .int .i64 0, .string ⟨#[]⟩, .slice none 0 0], .int .i64 20]) (by simp [results, Tryd.results16, go_sem, x0, x1, x2, x3]) rfl ⟨HBF.out, .inl ⟨.inr ⟨v, c, HQ.out, hc⟩, 20, by decide, rfl⟩⟩
    · have hc' : ¬ (c : Int) < (s.size : Int) := by omega
      go_upto_region 6 with (fail)
      obtain ⟨w4, hw4⟩ : ∃ w4, w3.alloc (.cells #[.int .i64 q0, .int .i64 q1, .string q2, .slice A3 n3 c3] 36) = w4 := ⟨_, rfl⟩
      have HB4 : Aside0 (w4.heap[B]? = some (.cells #[.int .i64 0, .int .i64 0, .string ⟨#[]⟩, .slice none 0 0] 36 (0, 0))) := ⟨by rw [← hw4]; exact blk_alloc HB3.out _⟩
      have HP4 : Aside0 (w4.heap[p]? = some (.cells #[.int .i64 q0, .int .i64 q1, .string q2, .slice A3 n3 c3] 36 (0, 0))) := ⟨by rw [← hw4, ← HP.out]; exact blk_new _ _⟩
      have HW4 : Aside0 (Below w.heap.size w w4) := ⟨by rw [← hw4]; exact below_alloc HW3.out _⟩
      have HX4 : Aside0 (Below w3.heap.size w3 w4) := ⟨by rw [← hw4]; exact below_alloc (Below.refl _ _) _⟩
      rw [hw4]
      clear hw4 hp
      have r0 : w4.cell? ⟨B, 0, none⟩ = some (Value.int .i64 0) := (blk_cell HB4.out 0).trans rfl
      have z0 := blk_frozen HB4.out 0
      have r1 : w4.cell? ⟨B, 1, none⟩ = some (Value.int .i64 0) := (blk_cell HB4.out 1).trans rfl
      have z1 := blk_frozen HB4.out 1
      have r2 : w4.cell? ⟨B, 2, none⟩ = some (Value.string ⟨#[]⟩) := (blk_cell HB4.out 2).trans rfl
      have z2 := blk_frozen HB4.out 2
      have r3 : w4.cell? ⟨B, 3, none⟩ = some (Value.slice none 0 0) := (blk_cell HB4.out 3).trans rfl
      have z3 := blk_frozen HB4.out 3
      have p0 : w4.cell? ⟨p, 0, none⟩ = some (.int .i64 q0) := (blk_cell HP4.out 0).trans rfl
      have p1 : w4.cell? ⟨p, 1, none⟩ = some (.int .i64 q1) := (blk_cell HP4.out 1).trans rfl
      have p2 : w4.cell? ⟨p, 2, none⟩ = some (.string q2) := (blk_cell HP4.out 2).trans rfl
      have p3 : w4.cell? ⟨p, 3, none⟩ = some (.slice A3 n3 c3) := (blk_cell HP4.out 3).trans rfl
      go_wp2_with fail
      have hbF := blk_put (blk_put (blk_put (blk_put HB4.out 0 (.int .i64 q0) rfl) 1 (.int .i64 q1) rfl) 2 (.string q2) rfl) 3 (.slice A3 n3 c3) rfl
      have x0 := (blk_cell hbF 0).trans (rfl : _ = some (.int .i64 q0 : Value))
      have x1 := (blk_cell hbF 1).trans (rfl : _ = some (.int .i64 q1 : Value))
      have x2 := (blk_cell hbF 2).trans (rfl : _ = some (.string q2 : Value))
      have x3 := (blk_cell hbF 3).trans (rfl : _ = some (.slice A3 n3 c3 : Value))
      clear hbF
      have HBF := Aside0.mk (four_below (b := B) HW4.out (by rw [HBE.out]; exact Nat.le_refl _) (.int .i64 q0) (.int .i64 q1) (.string q2) (.slice A3 n3 c3))
      have HVF := Aside0.mk ((HVV.out.turns (F := fun _ => False) (Turns.of_below HX4.out) (fun _ _ _ h => h)).turns (four_turns (b := B) (F := fun i => i = B) (Turns.refl _ _) rfl (.int .i64 q0) (.int .i64 q1) (.string q2) (.slice A3 n3 c3)) (fun i hi _ h => by have := HS2.out; omega))
      refine bodyPost_ret (v := .tuple #[.agg #[.int .i64 q0, .int .i64 q1, .string q2, .slice A3 n3 c3], .int .i64 0]) (by simp [results, Tryd.results16, go_sem, x0, x1, x2, x3]) rfl ⟨HBF.out, .inr ⟨v, c, _, _, _, _, rfl, HVF.out.mono (fun i hi _ => Nat.le_trans HW2.out.size hi), HQ.out, hc⟩⟩
end Go.Proofs.YtjhalgoondljgaaDoor.Re
