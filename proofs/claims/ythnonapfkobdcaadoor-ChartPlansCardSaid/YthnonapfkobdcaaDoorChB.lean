/- chart.Done does what its Lean twin does. -/
import Derived.Test.YthnonapfkobdcaaDoorChA
namespace Go.Proofs.YthnonapfkobdcaaDoor.Ch
open Go.RowKit Go.Proofs.YthnonapfkobdcaaDoorW.PrintWords Go.Proofs.YthnonapfkobdcaaDoorW.PrintLast Go.Proofs.YthnonapfkobdcaaDoorW.PrintMore
set_option linter.unusedVariables false
set_option linter.unusedSimpArgs false

structure Gives (w : World) (ep : Int) (xs : List Int) (er : Int) (e : Ending) (w' : World) : Prop where
  ret : ∃ A c, e = .returned (.tuple #[.agg #[.int .i64 ep, .slice A xs.length c], .int .i64 er]) ∧ xs.length ≤ c ∧ Kd.C (Kd.int .i64) w' A xs.length xs ∧ ∀ a, A = some a → w.heap.size ≤ a.block
  below : Below w.heap.size w w'

theorem C_nil (w : World) : Kd.C (Kd.int .i64) w none 0 [] := ⟨rfl, by omega, fun h => by omega⟩

theorem bcell {W w1 : World} (hb : Below W.heap.size W w1) : (∀ b o, b < W.heap.size → w1.cell? ⟨b, o, none⟩ = W.cell? ⟨b, o, none⟩) ∧ (∀ b o, b < W.heap.size → w1.frozen? ⟨b, o, none⟩ = W.frozen? ⟨b, o, none⟩) :=
  ⟨fun b o h => hb.cell (p := ⟨b, o, none⟩) h, fun b o h => hb.frozen (p := ⟨b, o, none⟩) h⟩

set_option maxHeartbeats 400000 in
theorem done_bad (ep : Int) (A : Option Addr) (c : Nat) (xs : List Int) (s f t : Int) (w : World) (hr : Kd.C (Kd.int .i64) w A xs.length xs) (hx : xs.length ≤ 9223372036854775807)
  (hb : ckI ep xs = 1) :
    Calls Tryd.prog 28 #[.agg #[.int .i64 ep, .slice A xs.length c], .agg #[.int .i64 s, .int .i64 f, .int .i64 t]] w (Gives w 0 [] 1) := by
  have HR := Aside0.mk hr
  clear hr
  have HB := Aside0.mk hb
  clear hb
  · go_enter Tryd.func28, Tryd.ntmps28
    go_wp2_with (go_at_call 31; refine (check_calls ep _ c xs _ (Kd.C_below HR.out ((((Below.refl _ w).alloc (Nat.le_refl _) _).alloc (by simp) _).alloc (by simp; omega) _)) hx).mono ?_; rintro e w' ⟨rfl, hb⟩; rw [HB.out]; obtain ⟨hc, hf⟩ := bcell hb)
    refine bodyPost_ret (v := .tuple #[.agg #[.int .i64 0, .slice none 0 0], .int .i64 1]) (by simp [results, Tryd.results28, go_sem, hc]) rfl ⟨⟨none, 0, rfl, Nat.le_refl _, C_nil _, fun a h => by cases h⟩, ?_⟩
    refine below_set (below_set ?_ (by omega)) (by omega)
    (try refine pw_below_drewN ?_ _)
    exact below_step ((((Below.refl _ w).alloc (Nat.le_refl _) _).alloc (by simp) _).alloc (by simp; omega) _) hb
set_option maxHeartbeats 400000 in
theorem done_odd (ep : Int) (A : Option Addr) (c : Nat) (xs : List Int) (s f t : Int) (w : World) (hr : Kd.C (Kd.int .i64) w A xs.length xs) (hx : xs.length ≤ 9223372036854775807)
  (hb : ckI ep xs = 0) (h : s < 0 ∨ (xs.length : Int) ≤ s ∨ t < 0 ∨ 8 ≤ t ∨ t = f) :
    Calls Tryd.prog 28 #[.agg #[.int .i64 ep, .slice A xs.length c], .agg #[.int .i64 s, .int .i64 f, .int .i64 t]] w (Gives w 0 [] 1) := by
  have HR := Aside0.mk hr
  clear hr
  have HB := Aside0.mk hb
  clear hb
  by_cases h0 : s < 0
  · clear h
    go_enter Tryd.func28, Tryd.ntmps28
    go_wp2_with (go_at_call 31; refine (check_calls ep _ c xs _ (Kd.C_below HR.out ((((Below.refl _ w).alloc (Nat.le_refl _) _).alloc (by simp) _).alloc (by simp; omega) _)) hx).mono ?_; rintro e w' ⟨rfl, hb⟩; rw [HB.out]; obtain ⟨hc, hf⟩ := bcell hb)
    refine bodyPost_ret (v := .tuple #[.agg #[.int .i64 0, .slice none 0 0], .int .i64 1]) (by simp [results, Tryd.results28, go_sem, hc]) rfl ⟨⟨none, 0, rfl, Nat.le_refl _, C_nil _, fun a h => by cases h⟩, ?_⟩
    refine below_set (below_set ?_ (by omega)) (by omega)
    (try refine pw_below_drewN ?_ _)
    exact below_step ((((Below.refl _ w).alloc (Nat.le_refl _) _).alloc (by simp) _).alloc (by simp; omega) _) hb
  by_cases h1 : (xs.length : Int) ≤ s
  · clear h
    go_enter Tryd.func28, Tryd.ntmps28
    go_wp2_with (go_at_call 31; refine (check_calls ep _ c xs _ (Kd.C_below HR.out ((((Below.refl _ w).alloc (Nat.le_refl _) _).alloc (by simp) _).alloc (by simp; omega) _)) hx).mono ?_; rintro e w' ⟨rfl, hb⟩; rw [HB.out]; obtain ⟨hc, hf⟩ := bcell hb)
    refine bodyPost_ret (v := .tuple #[.agg #[.int .i64 0, .slice none 0 0], .int .i64 1]) (by simp [results, Tryd.results28, go_sem, hc]) rfl ⟨⟨none, 0, rfl, Nat.le_refl _, C_nil _, fun a h => by cases h⟩, ?_⟩
    refine below_set (below_set ?_ (by omega)) (by omega)
    (try refine pw_below_drewN ?_ _)
    exact below_step ((((Below.refl _ w).alloc (Nat.le_refl _) _).alloc (by simp) _).alloc (by simp; omega) _) hb
  by_cases h2 : t < 0
  · clear h
    go_enter Tryd.func28, Tryd.ntmps28
    go_wp2_with (go_at_call 31; refine (check_calls ep _ c xs _ (Kd.C_below HR.out ((((Below.refl _ w).alloc (Nat.le_refl _) _).alloc (by simp) _).alloc (by simp; omega) _)) hx).mono ?_; rintro e w' ⟨rfl, hb⟩; rw [HB.out]; obtain ⟨hc, hf⟩ := bcell hb)
    refine bodyPost_ret (v := .tuple #[.agg #[.int .i64 0, .slice none 0 0], .int .i64 1]) (by simp [results, Tryd.results28, go_sem, hc]) rfl ⟨⟨none, 0, rfl, Nat.le_refl _, C_nil _, fun a h => by cases h⟩, ?_⟩
    refine below_set (below_set ?_ (by omega)) (by omega)
    (try refine pw_below_drewN ?_ _)
    exact below_step ((((Below.refl _ w).alloc (Nat.le_refl _) _).alloc (by simp) _).alloc (by simp; omega) _) hb
  by_cases h3 : 8 ≤ t
  · clear h
    go_enter Tryd.func28, Tryd.ntmps28
    go_wp2_with (go_at_call 31; refine (check_calls ep _ c xs _ (Kd.C_below HR.out ((((Below.refl _ w).alloc (Nat.le_refl _) _).alloc (by simp) _).alloc (by simp; omega) _)) hx).mono ?_; rintro e w' ⟨rfl, hb⟩; rw [HB.out]; obtain ⟨hc, hf⟩ := bcell hb)
    refine bodyPost_ret (v := .tuple #[.agg #[.int .i64 0, .slice none 0 0], .int .i64 1]) (by simp [results, Tryd.results28, go_sem, hc]) rfl ⟨⟨none, 0, rfl, Nat.le_refl _, C_nil _, fun a h => by cases h⟩, ?_⟩
    refine below_set (below_set ?_ (by omega)) (by omega)
    (try refine pw_below_drewN ?_ _)
    exact below_step ((((Below.refl _ w).alloc (Nat.le_refl _) _).alloc (by simp) _).alloc (by simp; omega) _) hb
  · obtain rfl : t = f := by omega
    clear h
    go_enter Tryd.func28, Tryd.ntmps28
    go_wp2_with (go_at_call 31; refine (check_calls ep _ c xs _ (Kd.C_below HR.out ((((Below.refl _ w).alloc (Nat.le_refl _) _).alloc (by simp) _).alloc (by simp; omega) _)) hx).mono ?_; rintro e w' ⟨rfl, hb⟩; rw [HB.out]; obtain ⟨hc, hf⟩ := bcell hb)
    refine bodyPost_ret (v := .tuple #[.agg #[.int .i64 0, .slice none 0 0], .int .i64 1]) (by simp [results, Tryd.results28, go_sem, hc]) rfl ⟨⟨none, 0, rfl, Nat.le_refl _, C_nil _, fun a h => by cases h⟩, ?_⟩
    refine below_set (below_set ?_ (by omega)) (by omega)
    (try refine pw_below_drewN ?_ _)
    exact below_step ((((Below.refl _ w).alloc (Nat.le_refl _) _).alloc (by simp) _).alloc (by simp; omega) _) hb
set_option maxHeartbeats 400000 in
theorem done_none (ep : Int) (A : Option Addr) (c : Nat) (xs : List Int) (s f t : Int) (w : World) (hr : Kd.C (Kd.int .i64) w A xs.length xs) (hx : xs.length ≤ 9223372036854775807)
  (hb : ckI ep xs = 0) (h0 : 0 ≤ s) (h1 : s < (xs.length : Int)) (h2 : 0 ≤ t) (h3 : t < 8) (h4 : (t == f) = false) (h5 : (rd xs s != f) = true) :
    Calls Tryd.prog 28 #[.agg #[.int .i64 ep, .slice A xs.length c], .agg #[.int .i64 s, .int .i64 f, .int .i64 t]] w (Gives w 0 [] 3) := by
  have HR := Aside0.mk hr
  clear hr
  have HB := Aside0.mk hb
  clear hb
  obtain ⟨ad, e1, hcell⟩ := Kd.at_int HR.out s h0 h1
  cases e1
  go_enter Tryd.func28, Tryd.ntmps28
  go_wp2_with (go_at_call 31; refine (check_calls ep _ c xs _ (Kd.C_below HR.out ((((Below.refl _ w).alloc (Nat.le_refl _) _).alloc (by simp) _).alloc (by simp; omega) _)) hx).mono ?_; rintro e w' ⟨rfl, hb⟩; rw [HB.out]; obtain ⟨hc, hf⟩ := bcell hb)
  have hcell' : w'.cell? (ad.add s.toNat) = some (.int .i64 (rd xs s)) := pw_cell_below (below_step ((((Below.refl _ w).alloc (Nat.le_refl _) _).alloc (by simp) _).alloc (by simp; omega) _) hb) hcell
  go_quiet (fail)
  go_wp2
  refine bodyPost_ret (v := .tuple #[.agg #[.int .i64 0, .slice none 0 0], .int .i64 3]) (by simp [results, Tryd.results28, go_sem, hc]) rfl ⟨⟨none, 0, rfl, Nat.le_refl _, C_nil _, fun a h => by cases h⟩, ?_⟩
  refine below_set (below_set ?_ (by omega)) (by omega)
  (try refine pw_below_drewN ?_ _)
  exact below_step ((((Below.refl _ w).alloc (Nat.le_refl _) _).alloc (by simp) _).alloc (by simp; omega) _) hb

set_option maxHeartbeats 400000 in
theorem done_last (ep : Int) (A : Option Addr) (c : Nat) (xs : List Int) (s f t : Int) (w : World) (hr : Kd.C (Kd.int .i64) w A xs.length xs) (hx : xs.length ≤ 9223372036854775807)
  (hb : ckI ep xs = 0) (h0 : 0 ≤ s) (h1 : s < (xs.length : Int)) (h2 : 0 ≤ t) (h3 : t < 8) (h4 : (t == f) = false) (h5 : (rd xs s != f) = false) (h6 : (ep == 1099511627776) = true) :
    Calls Tryd.prog 28 #[.agg #[.int .i64 ep, .slice A xs.length c], .agg #[.int .i64 s, .int .i64 f, .int .i64 t]] w (Gives w 0 [] 101) := by
  have HR := Aside0.mk hr
  clear hr
  have HB := Aside0.mk hb
  clear hb
  obtain ⟨ad, e1, hcell⟩ := Kd.at_int HR.out s h0 h1
  cases e1
  go_enter Tryd.func28, Tryd.ntmps28
  go_wp2_with (go_at_call 31; refine (check_calls ep _ c xs _ (Kd.C_below HR.out ((((Below.refl _ w).alloc (Nat.le_refl _) _).alloc (by simp) _).alloc (by simp; omega) _)) hx).mono ?_; rintro e w' ⟨rfl, hb⟩; rw [HB.out]; obtain ⟨hc, hf⟩ := bcell hb)
  have hcell' : w'.cell? (ad.add s.toNat) = some (.int .i64 (rd xs s)) := pw_cell_below (below_step ((((Below.refl _ w).alloc (Nat.le_refl _) _).alloc (by simp) _).alloc (by simp; omega) _) hb) hcell
  go_quiet (fail)
  go_wp2
  refine bodyPost_ret (v := .tuple #[.agg #[.int .i64 0, .slice none 0 0], .int .i64 101]) (by simp [results, Tryd.results28, go_sem, hc]) rfl ⟨⟨none, 0, rfl, Nat.le_refl _, C_nil _, fun a h => by cases h⟩, ?_⟩
  refine below_set (below_set ?_ (by omega)) (by omega)
  (try refine pw_below_drewN ?_ _)
  exact below_step ((((Below.refl _ w).alloc (Nat.le_refl _) _).alloc (by simp) _).alloc (by simp; omega) _) hb

end Go.Proofs.YthnonapfkobdcaaDoor.Ch
