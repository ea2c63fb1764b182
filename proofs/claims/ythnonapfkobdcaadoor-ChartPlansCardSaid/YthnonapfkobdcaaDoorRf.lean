/- The reference's checksum; where a name stands, at every number. -/
import Derived.Test.YthnonapfkobdcaaDoorLm
import Derived.Test.YthnonapfkobdcaaDoorSp
import Derived.Lib.ItoaLen
import Derived.Lib.SmallJoins
import Derived.Sort.Grow
namespace Go.Proofs.YthnonapfkobdcaaDoor.Ri
open Go.RowKit Cr Go.Proofs.YthnonapfkobdcaaDoorW.PrintWords Go.Proofs.YthnonapfkobdcaaDoorW.PrintLast Go.Proofs.YthnonapfkobdcaaDoorW.PrintMore
set_option linter.unusedVariables false
set_option linter.unusedSimpArgs false

def once (x : Nat) : Nat → Nat
  | 0 => x
  | j + 1 => st (once x j)
theorem once_eight (n c : Nat) : once (n ^^^ (c * 65536)) 8 = byt n c := rfl

set_option maxRecDepth 100000 in
set_option maxHeartbeats 1000000 in
theorem rsum_calls (s : ByteArray) (w : World) (hs : s.size ≤ 140737488351232) : Calls Tryd.prog 48 #[.string s] w fun e w' => e = .returned (.int .i64 (sumN (bys s) : Int)) ∧ w = w' := by
  go_enter Tryd.func48, Tryd.ntmps48
  go_wp2
  go_loop [3, 4] (fun n i => ∃ k m : Nat, k ≤ s.size ∧ i = .int .i64 k ∧ n = .int .i64 m ∧ m < 16777216 ∧ Aside0 (m = sumTo s k)) (fun _ i => s.size - (intOf i).toNat)
  case atStart => exact ⟨0, 11994318, by omega, rfl, rfl, by omega, ⟨rfl⟩⟩
  case round =>
    obtain ⟨k, m, hk, rfl, rfl, hm, HM⟩ := hrel
    by_cases hlt : k < s.size
    · have hlt' : (k : Int) < (s.size : Int) := by omega
      have hk0 : (0 : Int) ≤ (k : Int) := by omega
      have hc256 : s[k].toNat < 256 := s[k].toNat_lt
      have HS : Aside0 (sumTo s (k + 1) = byt m s[k].toNat) := ⟨by rw [sumTo_succ s k hlt, HM.out]⟩
      have e1 : bits .xor .i64 (m : Int) ((s[k].toNat : Int) * 65536) = ((m ^^^ (s[k].toNat * 65536) : Nat) : Int) := by
        rw [show (s[k].toNat : Int) * 65536 = ((s[k].toNat * 65536 : Nat) : Int) by omega]; exact xor_nat m _ (by omega) (by omega)
      have hx : m ^^^ (s[k].toNat * 65536) < 16777216 := xor_lt hm (by omega)
      have HS2 : Aside0 (sumTo s (k + 1) = once (m ^^^ (s[k].toNat * 65536)) 8) := ⟨by rw [HS.out]; rfl⟩
      generalize m ^^^ (s[k].toNat * 65536) = x at *
      clear HS
      go_wp2_with fail
      go_loop [3, 5] (fun n j => ∃ a y : Nat, a ≤ 8 ∧ j = .int .i64 a ∧ n = .int .i64 y ∧ y < 16777216 ∧ Aside0 (y = once x a)) (fun _ j => 8 - (intOf j).toNat)
      case atStart => exact ⟨0, x, by omega, rfl, rfl, hx, ⟨rfl⟩⟩
      case round =>
        obtain ⟨a, y, ha, rfl, rfl, hy, HY⟩ := hrel
        by_cases ha2 : a < 8
        · have ha2' : (a : Int) < 8 := by omega
          have hst := st_lt hy
          have HY2 : Aside0 (st y = once x (a + 1)) := ⟨by show _ = st (once x a); rw [← HY.out]⟩
          by_cases hy2 : 2 * y < 16777216
          · have hst2 : st y = 2 * y := if_pos hy2
            have hy3 : ¬ (16777216 : Int) ≤ 2 * (y : Int) := by omega
            go_wp2_with fail
            go_round
            case rel => exact ⟨a + 1, st y, by omega, by go_num, by rw [hst2]; simp, hst, HY2⟩
            case measure => simp [intOf]; omega
          · have hst2 : st y = 2 * y ^^^ 25578747 := if_neg hy2
            have hy3 : (16777216 : Int) ≤ 2 * (y : Int) := by omega
            have e5 : bits .xor .i64 (2 * (y : Int)) 25578747 = ((st y : Nat) : Int) := by
              rw [show 2 * (y : Int) = ((2 * y : Nat) : Int) by omega, xor_poly2 (2 * y) (by omega), hst2]
            clear hst2
            go_wp2_with fail
            go_round
            case rel => exact ⟨a + 1, st y, by omega, by go_num, rfl, hst, HY2⟩
            case measure => simp [intOf]; omega
        · have ea : a = 8 := by omega
          subst ea
          have ha2' : ¬ ((8 : Nat) : Int) < 8 := by omega
          go_wp2_with fail
          go_round
          case rel => exact ⟨k + 1, y, by omega, by go_num, rfl, hy, ⟨by rw [HY.out, HS2.out]⟩⟩
          case measure => simp [intOf]; omega
    · have ek : k = s.size := by omega
      subst ek
      have hlt' : ¬ (s.size : Int) < (s.size : Int) := by omega
      obtain rfl : m = sumN (bys s) := HM.out.trans (sumTo_end s)
      go_wp2_with fail
      go_ret
      exact ⟨rfl, rfl⟩

set_option maxRecDepth 100000 in
set_option maxHeartbeats 1000000 in
theorem rspot_small (kd : ByteArray) (a b : Nat) (w : World) (hk : kd.size ≤ 100) (ha : a < 100) (hb : b < 100) : Calls Tryd.prog 19 #[.string kd, .int .i64 a, .int .i64 b] w fun e w' => e = .returned (.int .i64 (spot kd a b)) ∧ w = w' := by
  go_enter Tryd.func19, Tryd.ntmps19
  go_wp2_with fail
  refine (itoa_small a ha _).mono ?_
  rintro e w' ⟨sa, rfl, hsa, hda, rfl⟩
  have HDA := Aside0.mk hda
  clear hda
  go_wp2_with fail
  refine (itoa_small b hb _).mono ?_
  rintro e w' ⟨sb, rfl, hsb, hdb, rfl⟩
  have HDB := Aside0.mk hdb
  clear hdb
  go_wp2_with fail
  have hz : (sumN (bys (kd ++ { data := #[47] } ++ sa ++ { data := #[47] } ++ sb)) : Int) = spot kd a b := by
    unfold spot
    rw [bys_app, bys_app, bys_app, bys_app, HDA.out, HDB.out]
    have e : bys { data := #[47] } = [47] := rfl
    rw [e]
    congr 2
    simp
  have HZ := Aside0.mk hz
  clear hz
  refine (rsum_calls _ _ (by simp only [ByteArray.size_append]; have : (ByteArray.mk #[47]).size = 1 := rfl; omega)).mono ?_
  rintro e w' ⟨rfl, rfl⟩
  rw [HZ.out]
  go_wp2_with fail
  go_ret
  exact ⟨rfl, rfl⟩

/-- The table of the powers of ten lies. -/
def Tab (w : World) : Prop := Lib.TabIs Tryd.prog w "internal/strconv.uint64pow10" .u64 Lib.pow10Tab
theorem gpow : Tryd.prog.globalNamed "internal/strconv.uint64pow10" = some 0 := by kernel_rfl
theorem Tab.below {w w' : World} (h : Tab w) (hb : Below w.heap.size w w') : Tab w' := Joins.tab_stays gpow h hb (Nat.le_refl _)
def IsI (x : Int) : Prop := -9223372036854775808 ≤ x ∧ x ≤ 9223372036854775807
theorem isI_of {x : Int} (h : (Lit.int .i64 x).wf = true) : IsI x := by
  unfold Lit.wf at h
  rw [Bool.and_eq_true, decide_eq_true_eq, decide_eq_true_eq] at h
  exact h
theorem below_grow (w : World) (k : Nat) (os : Array Obj) : Below w.heap.size w (Sort.grow (w.drewN k) os) :=
  ⟨rfl, rfl, rfl, by simp [Sort.grow], fun i hi => Sort.heap_grow_old (w.drewN k) os hi⟩
def decI (x : Int) : List Nat := (Lib.itoa x).map (·.toNat)
theorem itoa_any (x : Int) (hx : IsI x) (w : World) (ht : Tab w) : Calls Tryd.prog 49 #[.int .i64 x] w fun e w' => ∃ s : ByteArray, e = .returned (.string s) ∧ s.size ≤ 21 ∧ bys s = decI x ∧ Below w.heap.size w w' := by
  refine (Any.strconv_Itoa Tryd.itoaM x hx.1 hx.2 w ht).mono ?_
  rintro e w' ⟨rfl, k, os, rfl⟩
  exact ⟨_, rfl, by show (Lib.itoa x).toArray.size ≤ 21; simpa using Lib.itoa_length_le x hx.1 hx.2, by simp [bys, decI], below_grow _ _ _⟩
def spotI (kd : ByteArray) (a b : Int) : Int := (sumN (bys kd ++ 47 :: decI a ++ 47 :: decI b) : Int)
theorem spotI_range (kd : ByteArray) (a b : Int) : 0 ≤ spotI kd a b ∧ spotI kd a b < 16777216 := by
  have hd : ∀ a, ∀ c ∈ decI a, c < 256 := by
    intro a c hc
    obtain ⟨x, _, rfl⟩ := List.mem_map.1 hc
    exact x.toNat_lt
  have h : sumN (bys kd ++ 47 :: decI a ++ 47 :: decI b) < 16777216 := by
    refine sumN_lt _ (fun c hc => ?_) _ (by decide)
    rcases List.mem_append.1 hc with h | h
    · rcases List.mem_append.1 h with h | h
      · exact bys_lt kd c h
      · rcases List.mem_cons.1 h with h | h
        · omega
        · exact hd a c h
    · rcases List.mem_cons.1 h with h | h
      · omega
      · exact hd b c h
  unfold spotI
  omega

set_option maxRecDepth 100000 in
set_option maxHeartbeats 1000000 in
theorem spot_any (kd : ByteArray) (a b : Int) (w : World) (hk : kd.size ≤ 100) (ha : IsI a) (hb : IsI b) (ht : Tab w) : Calls Tryd.prog 40 #[.string kd, .int .i64 a, .int .i64 b] w fun e w' => e = .returned (.int .i64 (spotI kd a b)) ∧ Below w.heap.size w w' := by
  have HT := Aside0.mk ht
  clear ht
  go_enter Tryd.func40, Tryd.ntmps40
  go_wp2_with fail
  refine (itoa_any a ha _ HT.out).mono ?_
  rintro e w1 ⟨sa, rfl, hsa, hda, hb1⟩
  have HDA := Aside0.mk hda
  have HB1 := Aside0.mk hb1
  clear hda hb1
  go_wp2_with fail
  refine (itoa_any b hb _ (HT.out.below HB1.out)).mono ?_
  rintro e w2 ⟨sb, rfl, hsb, hdb, hb2⟩
  have HDB := Aside0.mk hdb
  have HB2 := Aside0.mk (below_step HB1.out hb2)
  clear hdb hb2
  go_wp2_with fail
  have hz : (sumN (bys (kd ++ { data := #[47] } ++ sa ++ { data := #[47] } ++ sb)) : Int) = spotI kd a b := by
    unfold spotI
    rw [bys_app, bys_app, bys_app, bys_app, HDA.out, HDB.out]
    have e : bys { data := #[47] } = [47] := rfl
    rw [e]
    congr 2
    simp
  have HZ := Aside0.mk hz
  clear hz
  refine (sum_calls _ _ (by simp only [ByteArray.size_append]; have : (ByteArray.mk #[47]).size = 1 := rfl; omega)).mono ?_
  rintro e w' ⟨rfl, hbw⟩
  rw [HZ.out]
  have HBW := Aside0.mk (below_step HB2.out hbw)
  clear hbw
  go_wp2_with fail
  go_ret
  exact ⟨rfl, HBW.out⟩
set_option maxRecDepth 100000 in
set_option maxHeartbeats 1000000 in
theorem rspot_any (kd : ByteArray) (a b : Int) (w : World) (hk : kd.size ≤ 100) (ha : IsI a) (hb : IsI b) (ht : Tab w) : Calls Tryd.prog 19 #[.string kd, .int .i64 a, .int .i64 b] w fun e w' => e = .returned (.int .i64 (spotI kd a b)) ∧ Below w.heap.size w w' := by
  have HT := Aside0.mk ht
  clear ht
  go_enter Tryd.func19, Tryd.ntmps19
  go_wp2_with fail
  refine (itoa_any a ha _ HT.out).mono ?_
  rintro e w1 ⟨sa, rfl, hsa, hda, hb1⟩
  have HDA := Aside0.mk hda
  have HB1 := Aside0.mk hb1
  clear hda hb1
  go_wp2_with fail
  refine (itoa_any b hb _ (HT.out.below HB1.out)).mono ?_
  rintro e w2 ⟨sb, rfl, hsb, hdb, hb2⟩
  have HDB := Aside0.mk hdb
  have HB2 := Aside0.mk (below_step HB1.out hb2)
  clear hdb hb2
  go_wp2_with fail
  have hz : (sumN (bys (kd ++ { data := #[47] } ++ sa ++ { data := #[47] } ++ sb)) : Int) = spotI kd a b := by
    unfold spotI
    rw [bys_app, bys_app, bys_app, bys_app, HDA.out, HDB.out]
    have e : bys { data := #[47] } = [47] := rfl
    rw [e]
    congr 2
    simp
  have HZ := Aside0.mk hz
  clear hz
  refine (rsum_calls _ _ (by simp only [ByteArray.size_append]; have : (ByteArray.mk #[47]).size = 1 := rfl; omega)).mono ?_
  rintro e w' ⟨rfl, rfl⟩
  rw [HZ.out]
  go_wp2_with fail
  go_ret
  exact ⟨rfl, HB2.out⟩
end Go.Proofs.YthnonapfkobdcaaDoor.Ri
