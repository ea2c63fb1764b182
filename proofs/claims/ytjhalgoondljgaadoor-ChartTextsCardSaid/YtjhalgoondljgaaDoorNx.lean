/- Digits that lie in a text: a reader reads their number. -/
import Derived.Test.YtjhalgoondljgaaDoorNv
import Derived.Lib.ItoaLen
namespace Go.Proofs.YtjhalgoondljgaaDoor.Re
open Go.RowKit Go.Lib Go.Proofs.YtjhalgoondljgaaDoorW.PrintWords Go.Proofs.YtjhalgoondljgaaDoorW.PrintLast
set_option linter.unusedVariables false
set_option linter.unusedSimpArgs false

/-- L lies in s from a on. -/
def Pl (s : ByteArray) (a : Nat) (L : List UInt8) : Prop := ∃ P Q, s.data.toList = P ++ L ++ Q ∧ P.length = a
theorem Pl.left {s : ByteArray} {a : Nat} {L M : List UInt8} (h : Pl s a (L ++ M)) : Pl s a L := by
  obtain ⟨P, Q, e, r⟩ := h
  exact ⟨P, M ++ Q, by rw [e]; simp, r⟩
theorem Pl.right {s : ByteArray} {a : Nat} {L M : List UInt8} (h : Pl s a (L ++ M)) : Pl s (a + L.length) M := by
  obtain ⟨P, Q, e, r⟩ := h
  exact ⟨P ++ L, Q, by rw [e]; simp, by rw [List.length_append, r]⟩
theorem Pl.size {s : ByteArray} {a : Nat} {L : List UInt8} (h : Pl s a L) : a + L.length ≤ s.size := by
  obtain ⟨P, Q, e, r⟩ := h
  have : s.size = s.data.toList.length := (Array.length_toList (xs := s.data)).symm
  rw [this, e]
  simp
  omega
theorem Pl.at_ {s : ByteArray} {a : Nat} {L : List UInt8} (h : Pl s a L) (i : Nat) (hi : i < L.length) (hs : a + i < s.size) : s[a + i] = L[i] := by
  obtain ⟨P, Q, e, r⟩ := h
  have h1 : s.data.toList[a + i]? = some s[a + i] := by
    rw [Array.getElem?_toList]
    have : a + i < s.data.size := hs
    rw [Array.getElem?_eq_getElem this]
    rfl
  rw [e, List.append_assoc, List.getElem?_append_right (by omega), List.getElem?_append_left (by omega), List.getElem?_eq_getElem (by omega)] at h1
  have h2 := (Option.some.inj h1).symm
  rw [h2]
  congr 1
  omega

def vl (L : List UInt8) : Nat := L.foldl (fun a c => 10 * a + (c.toNat - 48)) 0
theorem vl_snoc (L : List UInt8) (c : UInt8) : vl (L ++ [c]) = 10 * vl L + (c.toNat - 48) := by simp [vl, List.foldl_append]
theorem vl_app (L M : List UInt8) : vl L ≤ vl (L ++ M) := by
  unfold vl
  rw [List.foldl_append]
  generalize L.foldl _ 0 = b
  induction M generalizing b with
  | nil => exact Nat.le_refl _
  | cons c M ih => exact Nat.le_trans (by omega) (ih (10 * b + (c.toNat - 48)))
theorem vl_take (L : List UInt8) (k : Nat) : vl (L.take k) ≤ vl L := by
  have := vl_app (L.take k) (L.drop k)
  rwa [List.take_append_drop] at this
theorem vl_succ (L : List UInt8) (k : Nat) (h : k < L.length) : vl (L.take (k + 1)) = 10 * vl (L.take k) + (L[k].toNat - 48) := by
  rw [← vl_snoc, List.take_append_getElem]

theorem dec_ok (n : Nat) : (∀ c ∈ decDigits n, 48 ≤ c.toNat ∧ c.toNat ≤ 57) ∧ vl (decDigits n) = n ∧ 0 < (decDigits n).length ∧ (0 < n → ∀ c, (decDigits n).head? = some c → ¬ c.toNat = 48) ∧ (n < 10 → (decDigits n).length = 1) := by
  induction n using Nat.strongRecOn with
  | _ n ih =>
    have hb : ∀ d, d < 10 → (UInt8.ofNat (48 + d)).toNat = 48 + d := fun d hd => by
      rw [UInt8.toNat_ofNat']
      omega
    by_cases h : n < 10
    · rw [decDigits, dif_pos h]
      refine ⟨fun c hc => ?_, ?_, by simp, fun h0 c hc => ?_, fun _ => rfl⟩
      · rw [List.mem_singleton] at hc
        rw [hc, hb n h]
        omega
      · have := vl_snoc [] (UInt8.ofNat (48 + n))
        rw [List.nil_append] at this
        rw [this, hb n h]
        simp [vl]
      · have hc := (Option.some.inj hc).symm
        rw [hc, hb n h]
        omega
    · rw [decDigits, dif_neg h]
      obtain ⟨i1, i2, i3, i4, _⟩ := ih (n / 10) (by omega)
      refine ⟨fun c hc => ?_, ?_, by simp, fun h0 c hc => ?_, fun h' => absurd h' h⟩
      · rcases List.mem_append.1 hc with hc | hc
        · exact i1 c hc
        · rw [List.mem_singleton] at hc
          rw [hc, hb _ (by omega)]
          omega
      · rw [vl_snoc, i2, hb _ (by omega)]
        omega
      · refine i4 (by omega) c ?_
        rw [List.head?_append] at hc
        cases e : (decDigits (n / 10)).head? with
        | none => rw [List.head?_eq_none_iff] at e; rw [e] at i3; simp at i3
        | some d => rw [e] at hc; simpa using hc

set_option maxRecDepth 100000 in
set_option maxHeartbeats 4000000 in
theorem number_ok (w : World) (p : Nat) (s : ByteArray) (a n : Nat) (hP : Pl s a (decDigits n ++ [101])) (hn : n ≤ 1099511627776) (h : RdAt w p s a 0) (hsz : s.size ≤ 2048) : Calls Tryd.prog 40 #[.pointer (some ⟨p, 0, none⟩), .int .u8 101, .int .i64 1, .int .i64 9223372036854775807] w
    fun e w' => e = .returned (.int .i64 n) ∧ RdAt w' p s (a + (decDigits n).length + 1 : Nat) 0 ∧ Turns (At p) w w' := by
  obtain ⟨D, hD⟩ : ∃ D, decDigits n = D := ⟨_, rfl⟩
  obtain ⟨d1, d2, d3, d4, d5⟩ := dec_ok n
  rw [hD] at d1 d2 d3 d4 d5 hP ⊢
  have hend := hP.right.size
  have H101 : Aside0 (∀ h : a + D.length < s.size, s[a + D.length].toNat = 101) := ⟨fun h => by
    have := hP.right.at_ 0 (by simp) (by simpa using h)
    simp at this
    rw [this]
    rfl⟩
  have HDG : Aside0 (∀ k (hk : k < D.length) (h : a + k < s.size), s[a + k] = D[k]) := ⟨fun k hk h => hP.left.at_ k hk h⟩
  have HV : Aside0 (∀ k, k < D.length → vl (D.take (k + 1)) ≤ n) := ⟨fun k _ => by have := vl_take D (k + 1); omega⟩
  have HR1 : Aside0 (∀ c ∈ D, 48 ≤ c.toNat ∧ c.toNat ≤ 57) := ⟨d1⟩
  have HZ : Aside0 (∀ h : a < s.size, 1 < D.length → ¬ s[a].toNat = 48) := ⟨fun h h1 => by
    have e := hP.left.at_ 0 d3 h
    simp at e
    rw [e]
    refine d4 (Nat.pos_of_ne_zero (fun h0 => ?_)) _ (List.head?_eq_getElem?.trans (List.getElem?_eq_getElem d3))
    have := d5 (by omega)
    omega⟩
  have HN : Aside0 (vl D = n) := ⟨d2⟩
  simp at hend
  have c1 := h.c1
  have HR := Aside0.mk h
  clear h d1 d2 d4 d5 hD hP
  go_enter Tryd.func40, Tryd.ntmps40
  go_wp2_with fail
  go_loopw [10] (fun nv wr => ∃ (k m : Nat), nv = .int .i64 m ∧ k ≤ D.length ∧ Aside0 (vl (D.take k) = m) ∧ Aside0 (RdAt wr p s (a + k : Nat) 0) ∧ Aside0 (Turns (At p) w wr)) (fun n wr => meas p s.size wr)
  case atStart => exact ⟨0, 0, rfl, by omega, ⟨by simp [vl]⟩, ⟨HR.out⟩, ⟨Turns.refl _ _⟩⟩
  case round =>
    obtain ⟨k, m, rfl, hk, HM, HRk, HT⟩ := hrel
    have hme := HRk.out.meas s.size
    have HME : Aside0 (meas p s.size wr = 2 * (s.size - (a + k)) + 1) := ⟨by rw [hme, if_pos rfl, Int.toNat_natCast]⟩
    clear hme
    have c1 := HRk.out.c1
    have c2 := HRk.out.c2
    have hlt : a + k < s.size := by omega
    go_wp2_with fail
    refine (next_calls _ p s (a + k) hlt HRk.out).mono ?_
    rintro e w' ⟨rfl, hw⟩
    have HRn : Aside0 (RdAt w' p s (a + k : Nat) 0) := ⟨Drawn0.rd hw HRk.out⟩
    have HTn : Aside0 (Turns (At p) w w') := ⟨HT.out.trans (Drawn0.turns hw _)⟩
    have c0 := HRn.out.c0
    have c1 := HRn.out.c1
    have c2 := HRn.out.c2
    have f1 := HRn.out.f1
    clear hw
    by_cases hkD : k < D.length
    · obtain ⟨c, hc⟩ : ∃ c : Nat, s[a + k].toNat = c := ⟨_, rfl⟩
      rw [hc]
      have hcD : D[k].toNat = c := by rw [← HDG.out k hkD hlt]; exact hc
      obtain ⟨hc1, hc2⟩ := HR1.out _ (List.getElem_mem hkD)
      rw [hcD] at hc1 hc2
      have HS : Aside0 (vl (D.take (k + 1)) = 10 * m + (c - 48)) := ⟨by rw [vl_succ D k hkD, HM.out, hcD]⟩
      have hbd : 10 * m + (c - 48) ≤ n := by rw [← HS.out]; exact HV.out k hkD
      clear hc hcD
      have hF2 : ¬ (c : Int) < 48 := by omega
      have hF3 : ¬ (57 : Int) < c := by omega
      have hF4 : ¬ (c : Int) = 101 := by omega
      have hd : (0 : Int) ≤ c - 48 ∧ (c : Int) - 48 ≤ 9 := by omega
      have hbig : ¬ (9223372036854775807 - ((c : Int) - 48)) / 10 < m := by omega
      by_cases hk0 : k = 0
      · subst hk0
        have hg : ¬ (a : Int) < ((a + 0 : Nat) : Int) := by omega
        go_wp2_with fail
        all_goals
          go_round
          case rel => exact ⟨0 + 1, 10 * m + (c - 48), by congr 1; omega, by omega, HS, ⟨by have := HRn.out.set1 (((a + 0 + 1 : Nat)) : Int); simpa [Int.add_assoc] using this⟩, ⟨HTn.out.set_ rfl _⟩⟩
          case measure => rw [HME.out, (HRn.out.set1 _).meas]; simp <;> omega
      · have hg : (a : Int) < ((a + k : Nat) : Int) := by omega
        have hg2 : ¬ ((a + k : Nat) : Int) = (a : Int) := by omega
        have hal : a < s.size := by omega
        have hz : ¬ (s[a].toNat : Int) = 48 := by have := HZ.out hal (by omega); omega
        have hz2 : ((s[a].toNat : Int) == 48) = false := by simpa using hz
        go_wp2_with fail
        all_goals
          go_round
          case rel => exact ⟨k + 1, 10 * m + (c - 48), by congr 1; omega, by omega, HS, ⟨by have := HRn.out.set1 (((a + k + 1 : Nat)) : Int); simpa [Int.add_assoc] using this⟩, ⟨HTn.out.set_ rfl _⟩⟩
          case measure => rw [HME.out, (HRn.out.set1 _).meas]; simp <;> omega
    · have ek : k = D.length := by omega
      subst ek
      rw [H101.out hlt]
      have hg : (a : Int) < ((a + D.length : Nat) : Int) := by omega
      have hmn : m = n := by rw [← HM.out, List.take_length, HN.out]
      subst hmn
      go_wp2_with fail
      go_ret
      exact ⟨rfl, by simpa using HRn.out.set1 _, HTn.out.set_ rfl _⟩
end Go.Proofs.YtjhalgoondljgaaDoor.Re
