/- What must come whatever the arguments are; a ring that nobody made. -/
import Derived.Test.YthnonapfkobdcaaDoorNw
namespace Go.Proofs.YthnonapfkobdcaaDoor.Ri
open Go.RowKit Cr Rg Mb Go.Proofs.YthnonapfkobdcaaDoorW.PrintWords Go.Proofs.YthnonapfkobdcaaDoorW.PrintLast Go.Proofs.YthnonapfkobdcaaDoorW.PrintMore
set_option linter.unusedVariables false
set_option linter.unusedSimpArgs false

set_option maxHeartbeats 400000 in
/-- The same numbers twice are the same. -/
theorem same_yes (A : Option Addr) (c : Nat) (B : Option Addr) (d : Nat) (xs : List Int) (W : World) (hx : Kd.C (Kd.int .i64) W A xs.length xs) (hy : Kd.C (Kd.int .i64) W B xs.length xs) (hl : xs.length ≤ 1000000) :
    Calls Tryd.prog 39 #[.slice A xs.length c, .slice B xs.length d] W fun e w' => e = .returned (.bool true) ∧ Below W.heap.size W w' := by
  have HX := Aside0.mk hx
  have HY := Aside0.mk hy
  clear hx hy
  go_enter Tryd.func39, Tryd.ntmps39
  go_wp2
  go_loopw [5] (fun i wr => ∃ k : Nat, i = .int .i64 k ∧ k ≤ xs.length ∧ Aside0 (Below W.heap.size W wr)) (fun i _ => xs.length - (intOf i).toNat)
  case atStart => exact ⟨0, rfl, Nat.zero_le _, ⟨Below.refl _ _⟩⟩
  case round =>
    obtain ⟨k, rfl, hk, HB⟩ := hrel
    by_cases hlt : k < xs.length
    · have hlt' : (k : Int) < (xs.length : Int) := by omega
      have hk0 : (0 : Int) ≤ (k : Int) := by omega
      obtain ⟨ad, ea, hc⟩ := Kd.at_int HX.out (k : Int) (by omega) (by omega)
      obtain ⟨ad2, ea2, hc2⟩ := Kd.at_int HY.out (k : Int) (by omega) (by omega)
      rw [Int.toNat_natCast] at hc hc2
      generalize rd xs (k : Int) = x at hc hc2
      cases ea
      cases ea2
      replace hc := (HB.out.cell (World.block_lt_of_cell? W _ hc)).trans hc
      replace hc2 := (HB.out.cell (World.block_lt_of_cell? W _ hc2)).trans hc2
      go_wp2_with fail
      go_quiet (fail)
      have HB2 := Aside0.mk (below_drew1 HB.out)
      go_wp2_with fail
      go_roundw
      case rel => exact ⟨k + 1, by go_num, by omega, ⟨by first | exact pw_below_drewN HB.out _ | exact HB2.out⟩⟩
      case measure => simp [intOf]; omega
    · have ek : k = xs.length := by omega
      subst ek
      have hlt' : ¬ (xs.length : Int) < (xs.length : Int) := by omega
      go_wp2_with fail
      go_ret
      exact ⟨rfl, HB.out⟩

theorem row_one (W : World) (x : Int) : Kd.C (Kd.int .i64) (W.alloc (.cells #[.int .i64 x] 3)) (some ⟨W.heap.size, 0, none⟩) ([x] : List Int).length [x] := by
  refine Kd.C_of_reads (d := (0 : Int)) ⟨rfl, by simp, fun _ => ⟨_, rfl, fun j hj => ?_⟩⟩
  have e : j = 0 := by simp at hj; omega
  subst e
  exact (blk_cell (blk_new W (.cells #[.int .i64 x] 3)) 0).trans rfl
theorem row_three (W : World) (x : Int) : Kd.C (Kd.int .i64) (W.alloc (.cells #[.int .i64 x, .int .i64 x, .int .i64 x] 3)) (some ⟨W.heap.size, 0, none⟩) ([x, x, x] : List Int).length [x, x, x] := by
  refine Kd.C_of_reads (d := (0 : Int)) ⟨rfl, by simp, fun _ => ⟨_, rfl, fun j hj => ?_⟩⟩
  have hb := blk_new W (.cells #[.int .i64 x, .int .i64 x, .int .i64 x] 3)
  have hj' : j < 3 := hj
  match j, hj' with
  | 0, _ => exact (blk_cell hb 0).trans rfl
  | 1, _ => exact (blk_cell hb 1).trans rfl
  | 2, _ => exact (blk_cell hb 2).trans rfl

set_option maxHeartbeats 400000 in
theorem awake_calls (W : World) : Calls Tryd.prog 18 #[] W fun e w' => e = .returned (.bool true) ∧ Below W.heap.size W w' := by
  go_enter Tryd.func18, Tryd.ntmps18
  have hb0 := below_alloc (Below.refl W.heap.size W) (.cells #[.int .i64 3] 3)
  have hr0 := row_one W 3
  have HB0 := Aside0.mk hb0
  have HR0 := Aside0.mk hr0
  clear hb0 hr0
  go_wp2_with fail
  refine (new_calls (some ⟨W.heap.size, 0, none⟩) 1 [3] 2 _ HR0.out (by decide) (by decide)).mono ?_
  rintro e w1 ⟨hex, hb1⟩
  rcases hex with ⟨hn, p, rfl, hR, _⟩ | ⟨hn, _⟩
  rotate_left
  · exact absurd ⟨by simp, by simp⟩ hn
  have HR := Aside0.mk hR
  have HB1 := Aside0.mk (below_step HB0.out hb1)
  have HL : Aside0 ((ring spN [3] 2).length = 2) := ⟨by rw [ring_len]; rfl⟩
  clear hR hb1 hn
  go_wp2_with fail
  refine (shards_some HR.out (by rw [HL.out]; omega) 3 (by decide) (by decide)).mono ?_
  rintro e w2 ⟨⟨A, cap, out, rfl, ho, how⟩, hb2⟩
  have eo : out = [3, 3, 3] := by
    have h : ∀ i (hi : i < out.length), out[i] = 3 := fun i hi => by have := (ho.home i hi).node; simpa using this
    have hl := ho.len
    match out, hl, h with
    | [a, b, c], _, h => 
      have h0 := h 0 (by simp)
      have h1 := h 1 (by simp)
      have h2 := h 2 (by simp)
      simp at h0 h1 h2
      rw [h0, h1, h2]
  subst eo
  have HR2 := Aside0.mk (HR.out.below hb2)
  have HO : Aside0 (Kd.C (Kd.int .i64) w2 A 3 [3, 3, 3]) := ⟨Kd.C_of_reads (own_reads' how)⟩
  have HB2 := Aside0.mk (below_step HB1.out hb2)
  clear how hb2 ho
  go_wp2_with fail
  refine (home_bad HR2.out 16777216 (by omega)).mono ?_
  rintro e w3 ⟨rfl, rfl⟩
  go_wp2_with fail
  refine (same_yes A cap _ 3 [3, 3, 3] _ (Kd.C_below HO.out (below_alloc (Below.refl w2.heap.size w2) _)) (row_three w2 3) (by decide)).mono ?_
  rintro e w4 ⟨rfl, hb4⟩
  have HB4 := Aside0.mk (below_step (below_alloc HB2.out (.cells #[.int .i64 3, .int .i64 3, .int .i64 3] 3)) hb4)
  clear hb4
  go_wp2_with fail
  go_ret
  exact ⟨rfl, HB4.out⟩

theorem home_nob (q : Option Addr) (W : World) (hg : Calls Tryd.prog 45 #[.pointer q] W fun e w' => e = .returned (.bool false) ∧ W = w') (n : Int) : Calls Tryd.prog 17 #[.pointer q, .int .i64 n] W fun e w' => e = .returned (.tuple #[.int .i64 0, .int .i64 1]) ∧ W = w' := by
  have HG := Aside0.mk hg
  clear hg
  go_enter Tryd.func17, Tryd.ntmps17
  go_wp2_with (go_at_call 45; refine HG.out.mono ?_; rintro e w' ⟨rfl, rfl⟩)
  go_ret2
  exact ⟨rfl, rfl⟩
theorem shards_nob (q : Option Addr) (W : World) (hg : Calls Tryd.prog 45 #[.pointer q] W fun e w' => e = .returned (.bool false) ∧ W = w') (n : Int) : Calls Tryd.prog 29 #[.pointer q, .int .i64 n] W fun e w' => e = .returned (.tuple #[.slice none 0 0, .int .i64 1]) ∧ W = w' := by
  have HG := Aside0.mk hg
  clear hg
  go_enter Tryd.func29, Tryd.ntmps29
  go_wp2_with (go_at_call 45; refine HG.out.mono ?_; rintro e w' ⟨rfl, rfl⟩)
  go_ret2
  exact ⟨rfl, rfl⟩
theorem nodes_nob (q : Option Addr) (W : World) (hg : Calls Tryd.prog 45 #[.pointer q] W fun e w' => e = .returned (.bool false) ∧ W = w') : Calls Tryd.prog 30 #[.pointer q] W fun e w' => e = .returned (.slice none 0 0) ∧ W = w' := by
  have HG := Aside0.mk hg
  clear hg
  go_enter Tryd.func30, Tryd.ntmps30
  go_wp2_with (go_at_call 45; refine HG.out.mono ?_; rintro e w' ⟨rfl, rfl⟩)
  go_ret
  exact ⟨rfl, rfl⟩

/-- What a law's call comes to. -/
structure Yes (W : World) (e : Ending) (w' : World) : Prop where
  val : e = .returned (.bool true)
  below : Below W.heap.size W w'

set_option maxHeartbeats 400000 in
theorem nobody_calls (n : Int) (W : World) : Calls Tryd.prog 9 #[.int .i64 n] W (Yes W) := by
  go_enter Tryd.func9, Tryd.ntmps9
  go_wp2_with fail
  have hb0 := below_alloc (below_alloc (Below.refl W.heap.size W) (.cells #[.bool false, .map none, .slice none 0 0] 56)) (.cells #[.pointer none, .pointer (some ⟨W.heap.size, 0, none⟩)] 34)
  have HB0 := Aside0.mk hb0
  have hc0 : ((W.alloc (.cells #[.bool false, .map none, .slice none 0 0] 56)).alloc (.cells #[.pointer none, .pointer (some ⟨W.heap.size, 0, none⟩)] 34)).cell? ⟨W.heap.size + 1, 0, none⟩ = some (.pointer none) := by go_simp
  have hc1 : ((W.alloc (.cells #[.bool false, .map none, .slice none 0 0] 56)).alloc (.cells #[.pointer none, .pointer (some ⟨W.heap.size, 0, none⟩)] 34)).cell? ⟨W.heap.size + 1, 1, none⟩ = some (.pointer (some ⟨W.heap.size, 0, none⟩)) := by go_simp
  have hm : ((W.alloc (.cells #[.bool false, .map none, .slice none 0 0] 56)).alloc (.cells #[.pointer none, .pointer (some ⟨W.heap.size, 0, none⟩)] 34)).cell? ⟨W.heap.size, 0, none⟩ = some (.bool false) := by go_simp
  generalize (W.alloc (.cells #[.bool false, .map none, .slice none 0 0] 56)).alloc (.cells #[.pointer none, .pointer (some ⟨W.heap.size, 0, none⟩)] 34) = W1 at *
  have HG0 := Aside0.mk (given_nil W1)
  have HG1 := Aside0.mk (given_no hm)
  clear hb0 hm
  refine wp_loop_rounds 3 ?_
  rw [rounds_succ]
  go_wp2_with (first | (go_at_call 17; refine (home_nob none W1 HG0.out n).mono ?_; rintro e w' ⟨rfl, rfl⟩) | (go_at_call 29; refine (shards_nob none W1 HG0.out n).mono ?_; rintro e w' ⟨rfl, rfl⟩) | (go_at_call 30; refine (nodes_nob none W1 HG0.out).mono ?_; rintro e w' ⟨rfl, rfl⟩))
  rw [rounds_succ]
  go_wp2_with (first | (go_at_call 17; refine (home_nob _ W1 HG1.out n).mono ?_; rintro e w' ⟨rfl, rfl⟩) | (go_at_call 29; refine (shards_nob _ W1 HG1.out n).mono ?_; rintro e w' ⟨rfl, rfl⟩) | (go_at_call 30; refine (nodes_nob _ W1 HG1.out).mono ?_; rintro e w' ⟨rfl, rfl⟩))
  rw [rounds_succ]
  go_wp2_with fail
  refine (awake_calls _).mono ?_
  rintro e w4 ⟨rfl, hb4⟩
  go_wp2_with fail
  go_ret
  exact ⟨rfl, below_step HB0.out hb4⟩
end Go.Proofs.YthnonapfkobdcaaDoor.Ri
