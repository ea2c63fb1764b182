/- crc.Spot at small numbers: where a name of something stands. -/
import Derived.Test.YthnonapfkobdcaaDoorSu
import Derived.Test.YthnonapfkobdcaaDoorLy
namespace Go.Proofs.YthnonapfkobdcaaDoor.Ri
open Go.RowKit Cr Go.Proofs.YthnonapfkobdcaaDoorW.PrintWords Go.Proofs.YthnonapfkobdcaaDoorW.PrintLast Go.Proofs.YthnonapfkobdcaaDoorW.PrintMore
set_option linter.unusedVariables false
set_option linter.unusedSimpArgs false

/-- A small number's digits, as bytes. -/
def dec (a : Nat) : List Nat := (Lib.decDigits a).map (·.toNat)
theorem dec_len (a : Nat) (h : a < 100) : (Lib.decDigits a).length ≤ 2 := by
  unfold Lib.decDigits
  split
  · simp
  · unfold Lib.decDigits
    rw [dif_pos (by omega)]
    simp
theorem itoa_small (i : Nat) (hi : i < 100) (w : World) : Calls Tryd.prog 49 #[.int .i64 i] w fun e w' => ∃ s : ByteArray, e = .returned (.string s) ∧ s.size ≤ 2 ∧ bys s = dec i ∧ w = w' := by
  refine (Any.strconv_Itoa_small Tryd.itoaS i hi w).mono ?_
  rintro e w' ⟨rfl, rfl⟩
  exact ⟨_, rfl, by show (Lib.decDigits i).toArray.size ≤ 2; simpa using dec_len i hi, by simp [bys, dec], rfl⟩
theorem bys_app (a b : ByteArray) : bys (a ++ b) = bys a ++ bys b := by simp [bys]
/-- Where a name of something stands. -/
def spot (kd : ByteArray) (a b : Nat) : Int := (sumN (bys kd ++ 47 :: dec a ++ 47 :: dec b) : Int)

set_option maxRecDepth 100000 in
set_option maxHeartbeats 1000000 in
theorem spot_small (kd : ByteArray) (a b : Nat) (w : World) (hk : kd.size ≤ 100) (ha : a < 100) (hb : b < 100) : Calls Tryd.prog 40 #[.string kd, .int .i64 a, .int .i64 b] w fun e w' => e = .returned (.int .i64 (spot kd a b)) ∧ Below w.heap.size w w' := by
  go_enter Tryd.func40, Tryd.ntmps40
  go_wp2_with fail
  refine (itoa_small a ha _).mono ?_
  rintro e w' ⟨sa, rfl, hsa, hda, rfl⟩
  have HDA := Aside0.mk hda
  clear hda
  go_wp2_with fail
  refine (itoa_small b hb _).mono ?_
  rintro e w' ⟨sb, rfl, hsb, hdb, rfl⟩
  have HDB := Aside0.mk hdb
  clear hdb
  go_wp2_with fail
  have hz : (sumN (bys (kd ++ { data := #[47] } ++ sa ++ { data := #[47] } ++ sb)) : Int) = spot kd a b := by
    unfold spot
    rw [bys_app, bys_app, bys_app, bys_app, HDA.out, HDB.out]
    have e : bys { data := #[47] } = [47] := rfl
    rw [e]
    congr 2
    simp
  have HZ := Aside0.mk hz
  clear hz
  refine (sum_calls _ _ (by simp only [ByteArray.size_append]; have : (ByteArray.mk #[47]).size = 1 := rfl; omega)).mono ?_
  rintro e w' ⟨rfl, hbw⟩
  rw [HZ.out]
  have HBW := Aside0.mk hbw
  clear hbw
  go_wp2_with fail
  go_ret
  exact ⟨rfl, HBW.out⟩
theorem spot_range (kd : ByteArray) (a b : Nat) : 0 ≤ spot kd a b ∧ spot kd a b < 16777216 := by
  have hd : ∀ a, ∀ c ∈ dec a, c < 256 := by
    intro a c hc
    obtain ⟨x, _, rfl⟩ := List.mem_map.1 hc
    exact x.toNat_lt
  have h : sumN (bys kd ++ 47 :: dec a ++ 47 :: dec b) < 16777216 := by
    refine sumN_lt _ (fun c hc => ?_) _ (by decide)
    rcases List.mem_append.1 hc with h | h
    · rcases List.mem_append.1 h with h | h
      · exact bys_lt kd c h
      · rcases List.mem_cons.1 h with h | h
        · omega
        · exact hd a c h
    · rcases List.mem_cons.1 h with h | h
      · omega
      · exact hd b c h
  unfold spot
  omega
end Go.Proofs.YthnonapfkobdcaaDoor.Ri
