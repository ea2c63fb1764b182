/- crc.lefts: what four bits leave when they are shifted out: sixteen numbers. -/
import Derived.Test.YthnonapfkobdcaaDoorCr
import Derived.Test.YthnonapfkobdcaaDoorWMore
import Derived.Test.YthnonapfkobdcaaDoorProg
import Derived.Carry
import Derived.Deep.MidRow
namespace Go.Proofs.YthnonapfkobdcaaDoor.Ri
open Go.RowKit Cr Go.Proofs.YthnonapfkobdcaaDoorW.PrintWords Go.Proofs.YthnonapfkobdcaaDoorW.PrintLast Go.Proofs.YthnonapfkobdcaaDoorW.PrintMore
set_option linter.unusedVariables false
set_option linter.unusedSimpArgs false

def tb (j : Nat) : Nat := st4 (j * 1048576)
def lit : Array Value := #[.int .i64 0, .int .i64 8801531, .int .i64 9098509, .int .i64 825846, .int .i64 9692897, .int .i64 1419802, .int .i64 1651692, .int .i64 10452759, .int .i64 10584377, .int .i64 2608578, .int .i64 2839604, .int .i64 11344079, .int .i64 3303384, .int .i64 11807523, .int .i64 12104405, .int .i64 4128302]
def tarr (k : Nat) : Array Value := ((List.range 16).map fun j => Value.int .i64 (if j < k then (tb j : Int) else 0)).toArray
theorem tarr_zero : tarr 0 = #[.int .i64 0, .int .i64 0, .int .i64 0, .int .i64 0, .int .i64 0, .int .i64 0, .int .i64 0, .int .i64 0, .int .i64 0, .int .i64 0, .int .i64 0, .int .i64 0, .int .i64 0, .int .i64 0, .int .i64 0, .int .i64 0] := rfl
theorem tarr_full : tarr 16 = lit := by
  kernel_rfl
theorem tarr_get (k j : Nat) (hj : j < 16) : (tarr k)[j]? = some (.int .i64 (if j < k then (tb j : Int) else 0)) := by
  unfold tarr
  simp [hj]
theorem tarr_set (k : Nat) (hk : k < 16) : (tarr k).setIfInBounds k (.int .i64 (tb k : Int)) = tarr (k + 1) := by
  apply Array.ext_getElem?
  intro i
  by_cases hi : i < 16
  · rw [tarr_get (k + 1) i hi, Array.getElem?_setIfInBounds]
    by_cases e : k = i
    · subst e
      have hs : k < (tarr k).size := by simp [tarr]; exact hk
      simp [hs]
    · rw [if_neg e, tarr_get k i hi]
      congr 2
      by_cases h : i < k
      · rw [if_pos h, if_pos (by omega)]
      · rw [if_neg h, if_neg (by omega)]
  · rw [Array.getElem?_eq_none (by simp [tarr]; omega), Array.getElem?_eq_none (by simp [tarr]; omega)]
theorem tb_lt {j : Nat} (hj : j < 16) : tb j < 16777216 := st4_lt (by omega)
theorem lit_get (j : Nat) (hj : j < 16) : lit[j]? = some (.int .i64 (tb j : Int)) := by
  rw [← tarr_full, tarr_get 16 j hj, if_pos hj]

/-- The number after some of the four shifts. -/
def sts : Nat → Nat → Nat
  | 0, n => n
  | k + 1, n => st (sts k n)
theorem sts_lt {n : Nat} (h : n < 16777216) : ∀ k, sts k n < 16777216
  | 0 => h
  | k + 1 => st_lt (sts_lt h k)
theorem sts4 (n : Nat) : sts 4 n = st4 n := rfl

structure LeftsAt (w wr : World) (k : Nat) : Prop where
  row : wr.heap[w.heap.size + 1]? = some (.cells (tarr k) 124 (0, 0))
  res : wr.heap[w.heap.size]? = some (.cells (tarr 0) 124 (0, 0))
  below : Below w.heap.size w wr

set_option maxRecDepth 100000 in
set_option maxHeartbeats 1000000 in
theorem lefts_calls (w : World) : Calls Tryd.prog 83 #[] w fun e w' => e = .returned (.agg lit) ∧ Below w.heap.size w w' := by
  go_enter Tryd.func83, Tryd.ntmps83
  go_wp2_with fail
  have hb0 : Below w.heap.size w ((w.alloc (.cells (tarr 0) 124)).alloc (.cells (tarr 0) 124)) := below_alloc (below_alloc (Below.refl _ _) _) _
  have HL0 : Aside0 (LeftsAt w ((w.alloc (.cells (tarr 0) 124)).alloc (.cells (tarr 0) 124)) 0) := ⟨⟨heap_alloc2_new w _ _, heap_alloc2_old w _ _, hb0⟩⟩
  clear hb0
  rw [tarr_zero] at HL0
  go_loopw [4] (fun i wr => ∃ k : Nat, k ≤ 16 ∧ i = .int .i64 k ∧ Aside0 (LeftsAt w wr k)) (fun i _ => 16 - (intOf i).toNat)
  case atStart => exact ⟨0, by omega, rfl, HL0⟩
  case round =>
    clear HL0
    obtain ⟨k, hk, rfl, HL⟩ := hrel
    by_cases hlt : k < 16
    · have hlt' : (k : Int) < 16 := by omega
      go_wp2_with fail
      go_loop [3, 9] (fun n j => ∃ a m : Nat, a ≤ 4 ∧ j = .int .i64 a ∧ n = .int .i64 m ∧ m < 16777216 ∧ Aside0 (m = sts a (k * 1048576))) (fun _ j => 4 - (intOf j).toNat)
      case atStart => exact ⟨0, k * 1048576, by omega, rfl, by rw [show ((k * 1048576 : Nat) : Int) = (k : Int) * 1048576 by omega], by omega, ⟨rfl⟩⟩
      case round =>
        obtain ⟨a, m, ha, rfl, rfl, hm, HM⟩ := hrel
        by_cases ha4 : a < 4
        · have ha4' : (a : Int) < 4 := by omega
          by_cases h2 : 2 * m < 16777216
          · have h2' : ¬ (16777215 : Int) < (m : Int) * 2 := by omega
            have HS : Aside0 (2 * m = sts (a + 1) (k * 1048576)) := ⟨by show _ = st (sts a (k * 1048576)); rw [← HM.out]; unfold st; rw [if_pos h2]⟩
            go_wp2_with fail
            go_round
            case rel => exact ⟨a + 1, 2 * m, by omega, by go_num, by rw [show ((2 * m : Nat) : Int) = (m : Int) * 2 by omega], h2, HS⟩
            case measure => simp [intOf]; omega
          · have h2' : (16777215 : Int) < (m : Int) * 2 := by omega
            have e1 : bits .and .i64 ((m : Int) * 2) 16777215 = ((2 * m % 16777216 : Nat) : Int) := by
              rw [show (m : Int) * 2 = ((2 * m : Nat) : Int) by omega]; exact and_all (2 * m) (by omega)
            obtain ⟨u, hu⟩ : ∃ u : Nat, 2 * m % 16777216 = u := ⟨_, rfl⟩
            have e2 : bits .xor .i64 (u : Int) 8801531 = ((st m : Nat) : Int) := by
              rw [xor_poly u (by omega), ← st_prog hm h2, hu]
            rw [hu] at e1
            have HS : Aside0 (st m = sts (a + 1) (k * 1048576)) := ⟨by show _ = st (sts a (k * 1048576)); rw [← HM.out]⟩
            have hst := st_lt hm
            clear hu h2
            go_wp2_with fail
            go_round
            case rel => exact ⟨a + 1, st m, by omega, by go_num, rfl, hst, HS⟩
            case measure => simp [intOf]; omega
        · have ea : a = 4 := by omega
          subst ea
          have ha4' : ¬ ((4 : Nat) : Int) < 4 := by omega
          have hmt : m = tb k := HM.out
          subst hmt
          have hk0 : (0 : Int) ≤ (k : Int) := by omega
          have q0 : wr.cell? ⟨w.heap.size + 1, k, none⟩ = some (.int .i64 0) := by rw [cell_of_row _ _ _ _ _ _ HL.out.row, tarr_get k k hlt, if_neg (by omega)]
          have f0 := blk_frozen HL.out.row k
          have HL2 : Aside0 (LeftsAt w (wr.setCell ⟨w.heap.size + 1, k, none⟩ (.int .i64 (tb k : Int))) (k + 1)) := ⟨⟨by have := blk_set HL.out.row k (.int .i64 (tb k : Int)); rw [tarr_set k hlt] at this; exact this, (Below.heap_setCell _ _ _ _ (by simp)).trans HL.out.res, below_set HL.out.below (by simp)⟩⟩
          go_wp2_with fail
          go_roundw
          case rel => exact ⟨k + 1, by omega, by go_num, HL2⟩
          case measure => simp [intOf]; omega
    · have ek : k = 16 := by omega
      subst ek
      have hlt' : ¬ ((16 : Nat) : Int) < 16 := by omega
      have HB := HL.out.row
      have HR := HL.out.res
      rw [tarr_full] at HB
      have hu := Tryd.underlying124
      have hi : (Tryd.prog.info? 124).map (·.size) = some lit.size := by kernel_rfl
      have hi2 : (Tryd.prog.info? 124).map (·.size) = some lit.toList.length := by kernel_rfl
      have hth : wr.there w.heap.size 0 lit.size := fun j hj => by
        change j < 16 at hj
        rw [Nat.zero_add, cell_of_row _ _ _ _ _ _ HR, tarr_get 0 j hj]
        exact ⟨rfl, blk_frozen HR j⟩
      have HH := Aside0.mk hth
      have H1 : Aside0 (lit.all (·.oneCell') = true) := ⟨by kernel_rfl⟩
      have HHB := Aside0.mk HB
      have HU := Aside0.mk hu
      have HI := Aside0.mk hi
      clear HB HR hth hu hi
      go_wp2_with (first | (refine wpList_load_row rfl 124 _ rfl (w.heap.size + 1) rfl 124 lit (0, 0) _ HHB.out HU.out rfl HI.out ?_) | (refine wpList_store_mid rfl 124 _ _ rfl w.heap.size 0 lit rfl rfl HH.out HI.out H1.out ?_))
      have hra := World.rangeAt_setCells_same wr w.heap.size 0 lit.toList HH.out
      refine bodyPost_ret (v := .agg lit) ?_ rfl ⟨rfl, ?_⟩
      · have := run_loadVar_mid (P := Tryd.prog) _ w.heap.size 0 124 lit.toList _ hra HU.out rfl hi2
        simp [results, Tryd.results83, asAddr, this]
      · have : ∀ (vs : List Value) (o : Nat) (W : World), Below w.heap.size w W → Below w.heap.size w (W.setCells w.heap.size o vs) := by
          intro vs
          induction vs with
          | nil => intro o W h; exact h
          | cons v vs ih => intro o W h; exact ih _ _ (below_set h (Nat.le_refl _))
        exact this _ _ _ HL.out.below
end Go.Proofs.YthnonapfkobdcaaDoor.Ri
