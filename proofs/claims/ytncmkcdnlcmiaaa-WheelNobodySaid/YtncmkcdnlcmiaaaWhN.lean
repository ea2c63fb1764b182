/- A wheel that nobody made. -/
import Derived.Test.YtncmkcdnlcmiaaaWhF
namespace Go.Proofs.Ytncmkcdnlcmiaaa.Wh
open Go.RowKit Mb Go.Proofs.YtncmkcdnlcmiaaaW.PrintWords Go.Proofs.YtncmkcdnlcmiaaaW.PrintLast Go.Proofs.YtncmkcdnlcmiaaaW.PrintMore
set_option linter.unusedVariables false
set_option linter.unusedSimpArgs false

def Un (v : Value) (W : World) : Prop := Calls Try.prog 22 #[v] W fun e w' => e = .returned (.bool false) ∧ W = w'

theorem set_un (v : Value) (W : World) (h : Un v W) (id n : Int) : Calls Try.prog 10 #[v, .int .i64 id, .int .i64 n] W fun e w' => e = .returned (.int .i64 1) ∧ W = w' := by
  have HU := Aside0.mk h
  clear h
  go_enter Try.func10, Try.ntmps10
  go_wp2_with (go_at_call 22; refine (HU.out).mono ?_; rintro e w' ⟨rfl, rfl⟩)
  go_ret
  exact ⟨rfl, rfl⟩
theorem cancel_un (v : Value) (W : World) (h : Un v W) (id : Int) : Calls Try.prog 15 #[v, .int .i64 id] W fun e w' => e = .returned (.bool false) ∧ W = w' := by
  have HU := Aside0.mk h
  clear h
  go_enter Try.func15, Try.ntmps15
  go_wp2_with (go_at_call 22; refine (HU.out).mono ?_; rintro e w' ⟨rfl, rfl⟩)
  go_ret
  exact ⟨rfl, rfl⟩
theorem left_un (v : Value) (W : World) (h : Un v W) (id : Int) : Calls Try.prog 18 #[v, .int .i64 id] W fun e w' => e = .returned (.tuple #[.int .i64 0, .int .i64 1]) ∧ W = w' := by
  have HU := Aside0.mk h
  clear h
  go_enter Try.func18, Try.ntmps18
  go_wp2_with (go_at_call 22; refine (HU.out).mono ?_; rintro e w' ⟨rfl, rfl⟩)
  go_ret2
  exact ⟨rfl, rfl⟩
theorem len_un (v : Value) (W : World) (h : Un v W) : Calls Try.prog 12 #[v] W fun e w' => e = .returned (.int .i64 0) ∧ W = w' := by
  have HU := Aside0.mk h
  clear h
  go_enter Try.func12, Try.ntmps12
  go_wp2_with (go_at_call 22; refine (HU.out).mono ?_; rintro e w' ⟨rfl, rfl⟩)
  go_ret
  exact ⟨rfl, rfl⟩
theorem tick_un (v : Value) (W : World) (h : Un v W) : Calls Try.prog 11 #[v] W fun e w' => e = .returned (.slice none 0 0) ∧ W = w' := by
  have HU := Aside0.mk h
  clear h
  go_enter Try.func11, Try.ntmps11
  go_wp2_with (go_at_call 22; refine (HU.out).mono ?_; rintro e w' ⟨rfl, rfl⟩)
  go_ret
  exact ⟨rfl, rfl⟩


structure Nobody (w : World) (e : Ending) (w' : World) : Prop where
  ret : e = .returned (.bool true)
  below : Below w.heap.size w w'

set_option maxRecDepth 100000 in
set_option maxHeartbeats 1000000 in
theorem nobody_calls (w : World) (id n : Int) : Calls Try.prog 8 #[.int .i64 id, .int .i64 n] w (Nobody w) := by
  go_enter Try.func8, Try.ntmps8
  go_wp2
  have hb := below_alloc (below_alloc (Below.refl w.heap.size w) (.cells #[.int .i64 0, .map none, .map none] 57)) (.cells #[.pointer none, .pointer (some ⟨w.heap.size, 0, none⟩)] 23)
  have u0 : ((w.alloc (.cells #[.int .i64 0, .map none, .map none] 57)).alloc (.cells #[.pointer none, .pointer (some ⟨w.heap.size, 0, none⟩)] 23)).cell? ⟨w.heap.size, 1, none⟩ = some (.map none) := by go_simp
  have p0 : ((w.alloc (.cells #[.int .i64 0, .map none, .map none] 57)).alloc (.cells #[.pointer none, .pointer (some ⟨w.heap.size, 0, none⟩)] 23)).cell? ⟨w.heap.size + 1, 0, none⟩ = some (.pointer none) := by go_simp
  have p1 : ((w.alloc (.cells #[.int .i64 0, .map none, .map none] 57)).alloc (.cells #[.pointer none, .pointer (some ⟨w.heap.size, 0, none⟩)] 23)).cell? ⟨w.heap.size + 1, 1, none⟩ = some (.pointer (some ⟨w.heap.size, 0, none⟩)) := by go_simp
  go_goals
  generalize (w.alloc (.cells #[.int .i64 0, .map none, .map none] 57)).alloc (.cells #[.pointer none, .pointer (some ⟨w.heap.size, 0, none⟩)] 23) = W at *
  have HB := Aside0.mk hb
  clear hb
  generalize w.heap.size + 1 = g at *
  have U0 : Aside0 (Un (.pointer none) W) := ⟨given_nil W⟩
  have U1 : Aside0 (Un (.pointer (some ⟨w.heap.size, 0, none⟩)) W) := ⟨given_zero w.heap.size W u0⟩
  clear u0
  go_loop [6] (fun i => ∃ k : Nat, k ≤ 2 ∧ i = .int .i64 k) (fun i => 2 - (intOf i).toNat)
  case atStart => exact ⟨0, by omega, rfl⟩
  case round =>
    obtain ⟨k, hk, rfl⟩ := hrel
    by_cases h0 : k = 0
    · subst h0
      go_wp2_with (first | (go_at_call 18; refine (left_un _ _ U0.out id).mono ?_; rintro e w' ⟨rfl, rfl⟩) | (go_at_call 10; refine (set_un _ _ U0.out id n).mono ?_; rintro e w' ⟨rfl, rfl⟩) | (go_at_call 15; refine (cancel_un _ _ U0.out id).mono ?_; rintro e w' ⟨rfl, rfl⟩) | (go_at_call 12; refine (len_un _ _ U0.out).mono ?_; rintro e w' ⟨rfl, rfl⟩) | (go_at_call 11; refine (tick_un _ _ U0.out).mono ?_; rintro e w' ⟨rfl, rfl⟩))
      go_round
      case rel => exact ⟨1, by omega, by go_num⟩
      case measure => simp [intOf]
    · by_cases h1 : k = 1
      · subst h1
        go_wp2_with (first | (go_at_call 18; refine (left_un _ _ U1.out id).mono ?_; rintro e w' ⟨rfl, rfl⟩) | (go_at_call 10; refine (set_un _ _ U1.out id n).mono ?_; rintro e w' ⟨rfl, rfl⟩) | (go_at_call 15; refine (cancel_un _ _ U1.out id).mono ?_; rintro e w' ⟨rfl, rfl⟩) | (go_at_call 12; refine (len_un _ _ U1.out).mono ?_; rintro e w' ⟨rfl, rfl⟩) | (go_at_call 11; refine (tick_un _ _ U1.out).mono ?_; rintro e w' ⟨rfl, rfl⟩))
        go_round
        case rel => exact ⟨2, by omega, by go_num⟩
        case measure => simp [intOf]
      · have h2 : k = 2 := by omega
        subst h2
        go_wp2_with (go_at_call 13; refine (awake_calls _).mono ?_; rintro e w7 ⟨rfl, hb7⟩)
        go_ret
        exact ⟨rfl, below_then HB.out HB.out.size hb7⟩

end Go.Proofs.Ytncmkcdnlcmiaaa.Wh
