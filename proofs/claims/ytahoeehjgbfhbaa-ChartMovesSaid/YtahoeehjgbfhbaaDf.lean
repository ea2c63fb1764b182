/- chart.Diff does what its Lean twin does. -/
import Derived.Test.YtahoeehjgbfhbaaChD
namespace Go.Proofs.Ytahoeehjgbfhbaa.Ch
open Base Go.RowKit Go.Proofs.YtahoeehjgbfhbaaW.PrintWords Go.Proofs.YtahoeehjgbfhbaaW.PrintLast Go.Proofs.YtahoeehjgbfhbaaW.PrintMore
set_option linter.unusedVariables false
set_option linter.unusedSimpArgs false
open PChartMoves (S31 k31)

def DiffNo (w : World) (e : Ending) (w' : World) : Prop := e = .returned (.tuple #[.slice none 0 0, .int .i64 1]) ∧ Below w.heap.size w w'
structure DiffYes (w : World) (L : List S31) (e : Ending) (w' : World) : Prop where
  ret : ∃ A c, e = .returned (.tuple #[.slice A L.length c, .int .i64 0]) ∧ L.length ≤ c ∧ Kd.C k31 w' A L.length L
  below : Below w.heap.size w w'

set_option maxHeartbeats 400000 in
theorem diff_no (ep : Int) (A : Option Addr) (c : Nat) (xs : List Int) (ep' : Int) (A' : Option Addr) (c' : Nat) (ys : List Int) (w : World)
  (hr : Kd.C (Kd.int .i64) w A xs.length xs) (hr' : Kd.C (Kd.int .i64) w A' ys.length ys) (h : ckI ep xs = 1 ∨ ckI ep' ys = 1 ∨ xs.length ≠ ys.length) :
    Calls Try.prog 10 #[.agg #[.int .i64 ep, .slice A xs.length c], .agg #[.int .i64 ep', .slice A' ys.length c']] w (DiffNo w) := by
  have hx : xs.length ≤ 9223372036854775807 := hr.2.1
  have hx' : ys.length ≤ 9223372036854775807 := hr'.2.1
  have HR := Aside0.mk hr
  have HR' := Aside0.mk hr'
  clear hr hr'
  by_cases h1 : ckI ep xs = 1
  · have HB := Aside0.mk h1
    clear h1 h
    go_enter Try.func10, Try.ntmps10
    go_wp2_with (go_at_call 6; refine (check_calls ep _ c xs _ (Kd.C_below HR.out (below_alloc (below_alloc (Below.refl _ _) _) _)) hx).mono ?_; rintro e w' ⟨rfl, hb⟩; rw [HB.out]; obtain ⟨hc, hf⟩ := bcell hb)
    go_ret2
    exact ⟨rfl, below_step (below_alloc (below_alloc (Below.refl _ _) _) _) hb⟩
  have HB := Aside0.mk (show ckI ep xs = 0 by have := ck01 ep xs; omega)
  by_cases h2 : ckI ep' ys = 1
  · have HB' := Aside0.mk h2
    clear h1 h h2
    go_enter Try.func10, Try.ntmps10
    go_wp2_with fail
    refine (check_calls ep _ c xs _ (Kd.C_below HR.out (below_alloc (below_alloc (Below.refl _ _) _) _)) hx).mono ?_
    rintro e w' ⟨rfl, hb⟩; rw [HB.out]; obtain ⟨hc, hf⟩ := bcell hb
    have hb1 := below_step (below_alloc (below_alloc (Below.refl _ _) _) _) hb
    go_wp2_with fail
    refine (check_calls ep' _ c' ys _ (Kd.C_below HR'.out hb1) hx').mono ?_
    rintro e w2 ⟨rfl, hb2⟩; rw [HB'.out]
    go_wp2
    go_ret2
    exact ⟨rfl, below_step hb1 hb2⟩
  · have HB' := Aside0.mk (show ckI ep' ys = 0 by have := ck01 ep' ys; omega)
    have hl : ((xs.length : Int) != (ys.length : Int)) = true := by rw [bne_iff_ne]; omega
    have hl' : (xs.length != ys.length) = true := by rw [bne_iff_ne]; omega
    clear h1 h h2
    go_enter Try.func10, Try.ntmps10
    go_wp2_with fail
    refine (check_calls ep _ c xs _ (Kd.C_below HR.out (below_alloc (below_alloc (Below.refl _ _) _) _)) hx).mono ?_
    rintro e w' ⟨rfl, hb⟩; rw [HB.out]
    have hb1 := below_step (below_alloc (below_alloc (Below.refl _ _) _) _) hb
    have hz : w.heap.size + 2 ≤ w'.heap.size := by have := hb.size; simp at this; omega
    obtain ⟨hc, hf⟩ := bcell hb
    go_wp2_with fail
    refine (check_calls ep' _ c' ys _ (Kd.C_below HR'.out hb1) hx').mono ?_
    rintro e w2 ⟨rfl, hb2⟩; rw [HB'.out]
    have q1 : w'.cell? ⟨w.heap.size, 1, none⟩ = some (.slice A xs.length c) := by go_simp
    have q2 : w'.cell? ⟨w.heap.size + 1, 1, none⟩ = some (.slice A' ys.length c') := by go_simp
    have q3 := pw_cell_below hb2 q1
    have q4 := pw_cell_below hb2 q2
    clear hc hf q1 q2
    go_wp2
    go_ret2
    exact ⟨rfl, below_step hb1 hb2⟩

set_option maxHeartbeats 400000 in
theorem diff_yes (ep : Int) (A : Option Addr) (c : Nat) (xs : List Int) (ep' : Int) (A' : Option Addr) (c' : Nat) (ys : List Int) (w : World)
  (hr : Kd.C (Kd.int .i64) w A xs.length xs) (hcc : xs.length ≤ c) (hr' : Kd.C (Kd.int .i64) w A' ys.length ys) (hcc' : ys.length ≤ c') (h1 : ckI ep xs = 0) (h2 : ckI ep' ys = 0) (hl0 : xs.length = ys.length) (hx16 : xs.length ≤ 100) :
    Calls Try.prog 10 #[.agg #[.int .i64 ep, .slice A xs.length c], .agg #[.int .i64 ep', .slice A' ys.length c']] w (DiffYes w (Pl.mvF xs ys xs.length 0)) := by
  have hx : xs.length ≤ 9223372036854775807 := hr.2.1
  have hx' : ys.length ≤ 9223372036854775807 := hr'.2.1
  have hm := Pl.moves_f xs ys hl0 hx16
  have hm' := PChartMoves.chart_moves.calls (xs.length + 1) A c xs A' c' ys (Pl.mvF xs ys xs.length 0)
  have HM := Aside0.mk hm'
  have HMF := Aside0.mk hm
  clear hm hm'
  have HR := Aside0.mk hr
  have HR' := Aside0.mk hr'
  have HC := Aside0.mk hcc
  have HC' := Aside0.mk hcc'
  clear hr hr' hcc hcc'
  have HB := Aside0.mk h1
  have HB' := Aside0.mk h2
  have hl : ((xs.length : Int) != (ys.length : Int)) = false := by rw [bne_eq_false_iff_eq]; omega
  have hl' : (xs.length != ys.length) = false := by rw [bne_eq_false_iff_eq]; omega
  clear h1 h2 hl0
  go_enter Try.func10, Try.ntmps10
  go_wp2_with fail
  refine (check_calls ep _ c xs _ (Kd.C_below HR.out (below_alloc (below_alloc (Below.refl _ _) _) _)) hx).mono ?_
  rintro e w' ⟨rfl, hb⟩; rw [HB.out]
  have hb1 := below_step (below_alloc (below_alloc (Below.refl _ _) _) _) hb
  have hz : w.heap.size + 2 ≤ w'.heap.size := by have := hb.size; simp at this; omega
  obtain ⟨hc, hf⟩ := bcell hb
  go_wp2_with fail
  refine (check_calls ep' _ c' ys _ (Kd.C_below HR'.out hb1) hx').mono ?_
  rintro e w2 ⟨rfl, hb2⟩; rw [HB'.out]
  have q1 : w'.cell? ⟨w.heap.size, 1, none⟩ = some (.slice A xs.length c) := by go_simp
  have q2 : w'.cell? ⟨w.heap.size + 1, 1, none⟩ = some (.slice A' ys.length c') := by go_simp
  have q3 := pw_cell_below hb2 q1
  have q4 := pw_cell_below hb2 q2
  clear hc hf q1 q2
  have hb3 := below_step hb1 hb2
  go_wp2_with fail
  refine (HM.out _ (Kd.C_below HR.out hb3) HC.out (Kd.C_below HR'.out hb3) HC'.out HMF.out).mono ?_
  rintro e w3 ⟨v, rfl, hR, hb4⟩
  obtain ⟨A3, c3, rfl, hc3, hC3⟩ := Kd.R_reads hR
  go_wp2
  go_ret2
  exact ⟨⟨A3, c3, rfl, hc3, hC3⟩, below_step hb3 hb4⟩

end Go.Proofs.Ytahoeehjgbfhbaa.Ch
