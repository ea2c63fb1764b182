/- WheelFull's walk. -/
import Derived.Test.YtncmkcdnlcmiaaaWhF
namespace Go.Proofs.Ytncmkcdnlcmiaaa.Wh
open Go.RowKit Mb Go.Proofs.YtncmkcdnlcmiaaaW.PrintWords Go.Proofs.YtncmkcdnlcmiaaaW.PrintLast Go.Proofs.YtncmkcdnlcmiaaaW.PrintMore
set_option linter.unusedVariables false
set_option linter.unusedSimpArgs false

theorem i64_and255 (n : Int) : bits .and .i64 n 255 = n % 256 := by
  have hm : (BitVec.ofInt 64 255).toNat = 2 ^ 8 - 1 := by decide
  have key : (BitVec.ofInt 64 n &&& BitVec.ofInt 64 255).toNat = (n % ((2 ^ 64 : Nat) : Int)).toNat % 2 ^ 8 := by
    rw [BitVec.toNat_and, BitVec.toNat_ofInt, hm, Nat.and_two_pow_sub_one_eq_mod]
  show IntKind.i64.wrap ((BitVec.ofInt 64 n &&& BitVec.ofInt 64 255).toNat : Nat) = n % 256
  rw [key, IntKind.wrap_i64]
  omega

theorem i64_and7 (n : Int) : bits .and .i64 n 7 = n % 8 := by
  have hm : (BitVec.ofInt 64 7).toNat = 2 ^ 3 - 1 := by decide
  have key : (BitVec.ofInt 64 n &&& BitVec.ofInt 64 7).toNat = (n % ((2 ^ 64 : Nat) : Int)).toNat % 2 ^ 3 := by
    rw [BitVec.toNat_and, BitVec.toNat_ofInt, hm, Nat.and_two_pow_sub_one_eq_mod]
  show IntKind.i64.wrap ((BitVec.ofInt 64 n &&& BitVec.ofInt 64 7).toNat : Nat) = n % 8
  rw [key, IntKind.wrap_i64]
  omega

theorem i64_and63 (n : Int) : bits .and .i64 n 63 = n % 64 := by
  have hm : (BitVec.ofInt 64 63).toNat = 2 ^ 6 - 1 := by decide
  have key : (BitVec.ofInt 64 n &&& BitVec.ofInt 64 63).toNat = (n % ((2 ^ 64 : Nat) : Int)).toNat % 2 ^ 6 := by
    rw [BitVec.toNat_and, BitVec.toNat_ofInt, hm, Nat.and_two_pow_sub_one_eq_mod]
  show IntKind.i64.wrap ((BitVec.ofInt 64 n &&& BitVec.ofInt 64 63).toNat : Nat) = n % 64
  rw [key, IntKind.wrap_i64]
  omega

theorem i64_and3 (n : Int) : bits .and .i64 n 3 = n % 4 := by
  have hm : (BitVec.ofInt 64 3).toNat = 2 ^ 2 - 1 := by decide
  have key : (BitVec.ofInt 64 n &&& BitVec.ofInt 64 3).toNat = (n % ((2 ^ 64 : Nat) : Int)).toNat % 2 ^ 2 := by
    rw [BitVec.toNat_and, BitVec.toNat_ofInt, hm, Nat.and_two_pow_sub_one_eq_mod]
  show IntKind.i64.wrap ((BitVec.ofInt 64 n &&& BitVec.ofInt 64 3).toNat : Nat) = n % 4
  rw [key, IntKind.wrap_i64]
  omega

theorem i64_and15 (n : Int) : bits .and .i64 n 15 = n % 16 := by
  have hm : (BitVec.ofInt 64 15).toNat = 2 ^ 4 - 1 := by decide
  have key : (BitVec.ofInt 64 n &&& BitVec.ofInt 64 15).toNat = (n % ((2 ^ 64 : Nat) : Int)).toNat % 2 ^ 4 := by
    rw [BitVec.toNat_and, BitVec.toNat_ofInt, hm, Nat.and_two_pow_sub_one_eq_mod]
  show IntKind.i64.wrap ((BitVec.ofInt 64 n &&& BitVec.ofInt 64 15).toNat : Nat) = n % 16
  rw [key, IntKind.wrap_i64]
  omega

theorem wset_full {W : World} {F : Nat → Prop} {p : Nat} {now : Int} {D : Int → Option Int} {n c : Nat} (h : Whl W F p now D n c) (id ticks : Int) (hw : (Lit.int .i64 id).wf = true) (h1 : 1 ≤ ticks) (h2 : ticks ≤ 1048576) (hd : D id = none) (hn : 4096 ≤ n) :
    Calls Try.prog 10 #[.pointer (some ⟨p, 0, none⟩), .int .i64 id, .int .i64 ticks] W fun e w' => e = .returned (.int .i64 2) ∧ W = w' := by
  obtain ⟨A, hA, _⟩ := h.ex
  exact set_full W F p now D n A c hA id ticks hw h1 h2 hd hn

def dF (k : Nat) : Int → Option Int := fun x => if 0 ≤ x ∧ x < (k : Int) then some (0 + (1 + x % 7)) else none
theorem dF_none (k : Nat) (i : Int) (h : (k : Int) ≤ i) : dF k i = none := by unfold dF; rw [if_neg (by omega)]
theorem dF_succ (k : Nat) : upd (dF k) (k : Int) (some (0 + (1 + (k : Int) % 7))) = dF (k + 1) := by
  funext x
  unfold upd dF
  by_cases e : x = (k : Int)
  · subst e; rw [if_pos rfl, if_pos (by omega)]
  · rw [if_neg e]
    by_cases h : 0 ≤ x ∧ x < (k : Int)
    · rw [if_pos h, if_pos (by omega)]
    · rw [if_neg h, if_neg (by omega)]

/-- A wheel of the call's own: its blocks are all younger than the call, and nothing older has turned. -/
structure Mine (w W : World) (F : Nat → Prop) : Prop where
  young : ∀ k, F k → w.heap.size ≤ k
  below : Below w.heap.size w W
theorem Mine.set {w W W' : World} {F F' : Nat → Prop} (h : Mine w W F) (ht : Turns F W W') (hF : ∀ k, F' k → F k ∨ W.heap.size ≤ k) : Mine w W' F' :=
  ⟨fun k hk => (hF k hk).elim (h.young k) (fun e => Nat.le_trans h.below.size e), below_tr h.below (ht.below h.below.size h.young)⟩
theorem Mine.tick {w W W' : World} {F : Nat → Prop} (h : Mine w W F) (ht : Turns F W W') : Mine w W' F := h.set ht (fun _ hk => .inl hk)

structure Yes (w : World) (e : Ending) (w' : World) : Prop where
  ret : e = .returned (.bool true)
  below : Below w.heap.size w w'

set_option maxRecDepth 100000 in
set_option maxHeartbeats 1000000 in
theorem full_calls (w : World) (more : Int) : Calls Try.prog 4 #[.int .i64 more] w (Yes w) := by
  go_enter Try.func4, Try.ntmps4
  go_wp2_with fail
  refine (wnew w).mono ?_
  rintro e W1 ⟨F, p, rfl, h1, hB, hb1⟩
  have HW1 := Aside0.mk h1
  have HM := Aside0.mk (Mine.mk hB hb1)
  clear h1 hB hb1
  have e3 : wrap64 (4095 + more % 4) = 4095 + more % 4 := by unfold wrap64; omega
  have i3 := i64_and3 more
  go_wp2_with fail
  obtain ⟨m, hm⟩ : ∃ m : Nat, 4095 + more % 4 = (m : Int) := ⟨(4095 + more % 4).toNat, by omega⟩
  simp only [i3, e3, hm]
  have hm1 : m ≤ 4098 := by omega
  have hm0 : 4095 ≤ m := by omega
  clear e3 i3
  go_loopw [5] (fun i wr => ∃ (k : Nat) (F' : Nat → Prop), k ≤ m ∧ i = .int .i64 k ∧ Aside0 (Whl wr F' p 0 (dF (min k 4096)) (min k 4096) k) ∧ Aside0 (Mine w wr F')) (fun i _ => m - (intOf i).toNat)
  case atStart => exact ⟨0, F, by omega, rfl, ⟨by rw [show dF (min 0 4096) = fun _ => none by funext x; unfold dF; exact if_neg (by omega)]; exact HW1.out⟩, HM⟩
  case round =>
    clear HW1 HM
    obtain ⟨k, F', hk, rfl, HW, HM⟩ := hrel
    by_cases hlt : k < m
    · have hlt' : (k : Int) < (m : Int) := by omega
      by_cases h4 : k < 4096
      · have h4' : (k : Int) < 4096 := by omega
        rw [Nat.min_eq_left (by omega)] at HW
        go_wp2_with fail
        have hd : dF k (k : Int) = none := dF_none k k (by omega)
        refine (wset HW.out (k : Int) (1 + (k : Int) % 7) (wf_of (by omega) (by omega)) (by omega) (by omega) (.inr h4) (by omega) (by omega) (by omega) (by omega)).mono ?_
        rintro e w' ⟨rfl, ⟨F2, h2, hF2⟩, ht2⟩
        rw [dF_succ, show addN (dF k) (k : Int) k = k + 1 by unfold addN; rw [hd]; rfl] at h2
        have HW2 := Aside0.mk h2
        have HM2 := Aside0.mk (HM.out.set ht2 hF2)
        clear h2 hF2 ht2 hd
        go_wp2_with fail
        go_roundw
        case rel => exact ⟨k + 1, F2, by omega, by go_num, ⟨by rw [Nat.min_eq_left (by omega)]; exact HW2.out⟩, HM2⟩
        case measure => simp [intOf]; omega
      · have h4' : ¬ (k : Int) < 4096 := by omega
        rw [Nat.min_eq_right (by omega)] at HW
        go_wp2_with fail
        refine (wset_full HW.out (k : Int) (1 + (k : Int) % 7) (wf_of (by omega) (by omega)) (by omega) (by omega) (dF_none _ _ (by omega)) (by omega)).mono ?_
        rintro e w' ⟨rfl, rfl⟩
        go_wp2_with fail
        go_roundw
        case rel => exact ⟨k + 1, F', by omega, by go_num, ⟨by rw [Nat.min_eq_right (by omega)]; obtain ⟨A, h1, h2⟩ := HW.out.ex; exact ⟨A, h1.more (by omega), h2⟩⟩, HM⟩
        case measure => simp [intOf]; omega
    · have ek : k = m := by omega
      subst ek
      have h3 : (dF (min k 4096) 3).isSome = true := by unfold dF; rw [if_pos (by omega)]; rfl
      have hmn : ((min k 4096 : Nat) : Int) = min (k : Int) 4096 := by omega
      go_wp2_with fail
      refine (wset HW.out 3 9 (wf_of (by omega) (by omega)) (by omega) (by omega) (.inl h3) (by omega) (by omega) (by omega) (by omega)).mono ?_
      rintro e w' ⟨rfl, ⟨F2, h2, hF2⟩, ht2⟩
      rw [show addN (dF (min k 4096)) 3 (min k 4096) = min k 4096 by unfold addN; rw [if_pos h3]] at h2
      have HW2 := Aside0.mk h2
      have HM2 := Aside0.mk (HM.out.set ht2 hF2)
      clear h2 hF2 ht2 h3
      go_wp2_with fail
      refine (wlen HW2.out (min (k : Int) 4096) hmn).mono ?_
      rintro e w2 ⟨rfl, rfl⟩
      go_wp2_with (go_at_call 13; refine (awake_calls _).mono ?_; rintro e w7 ⟨rfl, hb7⟩)
      go_ret
      exact ⟨rfl, below_then HM2.out.below HM2.out.below.size hb7⟩

end Go.Proofs.Ytncmkcdnlcmiaaa.Wh
