/- crc.Sum: the checksum of a text. -/
import Derived.Test.YthnonapfkobdcaaDoorLa
namespace Go.Proofs.YthnonapfkobdcaaDoor.Ri
open Go.RowKit Cr Go.Proofs.YthnonapfkobdcaaDoorW.PrintWords Go.Proofs.YthnonapfkobdcaaDoorW.PrintLast Go.Proofs.YthnonapfkobdcaaDoorW.PrintMore
set_option linter.unusedVariables false
set_option linter.unusedSimpArgs false

/-- A text's bytes as numbers. -/
def bys (s : ByteArray) : List Nat := s.data.toList.map (·.toNat)
theorem bys_len (s : ByteArray) : (bys s).length = s.size := by simp [bys]
theorem bys_lt (s : ByteArray) : ∀ c ∈ bys s, c < 256 := by
  intro c hc
  obtain ⟨x, _, rfl⟩ := List.mem_map.1 hc
  exact x.toNat_lt
theorem bys_get (s : ByteArray) (k : Nat) (h : k < s.size) : (bys s)[k]? = some s[k].toNat := by
  unfold bys
  rw [List.getElem?_map, List.getElem?_eq_getElem (by simpa using h)]
  rfl
def sumTo (s : ByteArray) (k : Nat) : Nat := ((bys s).take k).foldl byt 11994318
theorem sumTo_lt (s : ByteArray) (k : Nat) : sumTo s k < 16777216 := sumN_lt _ (fun c hc => bys_lt s c (List.mem_of_mem_take hc)) _ (by decide)
theorem sumTo_succ (s : ByteArray) (k : Nat) (h : k < s.size) : sumTo s (k + 1) = byt (sumTo s k) s[k].toNat := by
  unfold sumTo
  rw [List.take_add_one, bys_get s k h]
  simp
theorem sumTo_end (s : ByteArray) : sumTo s s.size = sumN (bys s) := by
  unfold sumTo sumN
  rw [List.take_of_length_le (by rw [bys_len]; exact Nat.le_refl _)]

def twice (x : Nat) : Nat → Nat
  | 0 => x
  | j + 1 => st4 (twice x j)
theorem twice_lt {x : Nat} (h : x < 16777216) : ∀ j, twice x j < 16777216
  | 0 => h
  | j + 1 => st4_lt (twice_lt h j)

set_option maxRecDepth 100000 in
set_option maxHeartbeats 1000000 in
theorem sum_calls (s : ByteArray) (w : World) (hs : s.size ≤ 140737488351232) : Calls Tryd.prog 67 #[.string s] w fun e w' => e = .returned (.int .i64 (sumN (bys s) : Int)) ∧ Below w.heap.size w w' := by
  go_enter Tryd.func67, Tryd.ntmps67
  go_wp2_with (go_at_call 83; refine (lefts_calls _).mono ?_; rintro e w1 ⟨rfl, hb1⟩; simp only [lit])
  have HT : Aside0 ((w1.alloc (.cells lit 124)).heap[w1.heap.size]? = some (.cells lit 124 (0, 0))) := ⟨blk_new w1 _⟩
  have HB : Aside0 (Below w.heap.size w (w1.alloc (.cells lit 124))) := ⟨below_alloc hb1 _⟩
  clear hb1
  change Code.wp _ _ _ _ (w1.alloc (.cells lit 124))
  generalize w1.heap.size = g at *
  generalize w1.alloc (.cells lit 124) = W at *
  go_loop [4, 9] (fun n i => ∃ k m : Nat, k ≤ s.size ∧ i = .int .i64 k ∧ n = .int .i64 m ∧ m < 16777216 ∧ Aside0 (m = sumTo s k)) (fun _ i => s.size - (intOf i).toNat)
  case atStart => exact ⟨0, 11994318, by omega, rfl, rfl, by omega, ⟨rfl⟩⟩
  case round =>
    obtain ⟨k, m, hk, rfl, rfl, hm, HM⟩ := hrel
    by_cases hlt : k < s.size
    · have hlt' : (k : Int) < (s.size : Int) := by omega
      have hk0 : (0 : Int) ≤ (k : Int) := by omega
      have hc256 : s[k].toNat < 256 := s[k].toNat_lt
      have HS : Aside0 (sumTo s (k + 1) = byt m s[k].toNat) := ⟨by rw [sumTo_succ s k hlt, HM.out]⟩
      have e1 : bits .xor .i64 (m : Int) ((s[k].toNat : Int) * 65536) = ((m ^^^ (s[k].toNat * 65536) : Nat) : Int) := by
        rw [show (s[k].toNat : Int) * 65536 = ((s[k].toNat * 65536 : Nat) : Int) by omega]; exact xor_nat m _ (by omega) (by omega)
      have hx : m ^^^ (s[k].toNat * 65536) < 16777216 := xor_lt hm (by omega)
      have HS2 : Aside0 (sumTo s (k + 1) = twice (m ^^^ (s[k].toNat * 65536)) 2) := ⟨by rw [HS.out]; rfl⟩
      generalize m ^^^ (s[k].toNat * 65536) = x at *
      clear HS
      go_wp2_with fail
      go_loop [4, 19] (fun n j => ∃ a y : Nat, a ≤ 2 ∧ j = .int .i64 a ∧ n = .int .i64 y ∧ y < 16777216 ∧ Aside0 (y = twice x a)) (fun _ j => 2 - (intOf j).toNat)
      case atStart => exact ⟨0, x, by omega, rfl, rfl, hx, ⟨rfl⟩⟩
      case round =>
        obtain ⟨a, y, ha, rfl, rfl, hy, HY⟩ := hrel
        by_cases ha2 : a < 2
        · have ha2' : (a : Int) < 2 := by omega
          have hi0 : (0 : Int) ≤ (y : Int) / 1048576 := by omega
          have hi1 : (y : Int) / 1048576 < 16 := by omega
          have q0 : W.cell? ⟨g, y / 1048576, none⟩ = some (.int .i64 (tb (y / 1048576) : Int)) := by rw [cell_of_row _ _ _ _ _ _ HT.out, lit_get _ (by omega)]
          have e3 : bits .and .i64 ((y : Int) * 16) 16777215 = ((y * 16 % 16777216 : Nat) : Int) := by
            rw [show (y : Int) * 16 = ((y * 16 : Nat) : Int) by omega]; exact and_all (y * 16) (by omega)
          have e4 : ((y * 16 % 16777216) ^^^ tb (y / 1048576)) = st4 y := nib_eq hy
          obtain ⟨u, hu⟩ : ∃ u : Nat, y * 16 % 16777216 = u := ⟨_, rfl⟩
          obtain ⟨t, ht⟩ : ∃ t : Nat, tb (y / 1048576) = t := ⟨_, rfl⟩
          have htl : t < 16777216 := by rw [← ht]; exact tb_lt (by omega)
          rw [hu] at e3 e4
          rw [ht] at q0 e4
          have e5 : bits .xor .i64 (u : Int) (t : Int) = ((st4 y : Nat) : Int) := by rw [xor_nat u t (by omega) (by omega), e4]
          have HY2 : Aside0 (st4 y = twice x (a + 1)) := ⟨by show _ = st4 (twice x a); rw [← HY.out]⟩
          have hst := st4_lt hy
          clear hu ht e4
          go_wp2_with fail
          go_round
          case rel => exact ⟨a + 1, st4 y, by omega, by go_num, rfl, hst, HY2⟩
          case measure => simp [intOf]; omega
        · have ea : a = 2 := by omega
          subst ea
          have ha2' : ¬ ((2 : Nat) : Int) < 2 := by omega
          go_wp2_with fail
          go_round
          case rel => exact ⟨k + 1, y, by omega, by go_num, rfl, hy, ⟨by rw [HY.out, HS2.out]⟩⟩
          case measure => simp [intOf]; omega
    · have ek : k = s.size := by omega
      subst ek
      have hlt' : ¬ (s.size : Int) < (s.size : Int) := by omega
      obtain rfl : m = sumN (bys s) := HM.out.trans (sumTo_end s)
      go_wp2_with fail
      go_ret
      exact ⟨rfl, HB.out⟩
end Go.Proofs.YthnonapfkobdcaaDoor.Ri
