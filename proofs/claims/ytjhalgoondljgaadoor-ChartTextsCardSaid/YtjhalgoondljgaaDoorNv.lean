/- A reader's number: whatever comes. -/
import Derived.Test.YtjhalgoondljgaaDoorNu
namespace Go.Proofs.YtjhalgoondljgaaDoor.Re
open Go.RowKit Go.Proofs.YtjhalgoondljgaaDoorW.PrintWords Go.Proofs.YtjhalgoondljgaaDoorW.PrintLast
set_option linter.unusedVariables false
set_option linter.unusedSimpArgs false

set_option maxRecDepth 100000 in
set_option maxHeartbeats 4000000 in
theorem number_e (w : World) (p : Nat) (s : ByteArray) (a : Nat) (ha : a ≤ s.size) (h : RdAt w p s a 0) (hsz : s.size ≤ 2048) : Calls Tryd.prog 40 #[.pointer (some ⟨p, 0, none⟩), .int .u8 101, .int .i64 1, .int .i64 9223372036854775807] w
    fun e w' => ∃ (m : Int) (b x : Int), e = .returned (.int .i64 m) ∧ (0 ≤ m ∧ m ≤ 9223372036854775807) ∧ RdAt w' p s b x ∧ Turns (At p) w w' ∧ (x = 0 → ∃ c : Nat, b = c ∧ a < c ∧ c ≤ s.size) := by
  have c1 := h.c1
  have HR := Aside0.mk h
  clear h
  go_enter Tryd.func40, Tryd.ntmps40
  go_wp2_with fail
  go_loopw [10] (fun n wr => ∃ (k : Nat) (m x : Int), n = .int .i64 m ∧ (0 ≤ m ∧ m ≤ 9223372036854775807) ∧ a + k ≤ s.size ∧ Aside0 (RdAt wr p s (a + k : Nat) x) ∧ Aside0 (Turns (At p) w wr)) (fun n wr => meas p s.size wr)
  case atStart => exact ⟨0, 0, 0, rfl, by omega, by omega, ⟨HR.out⟩, ⟨Turns.refl _ _⟩⟩
  case round =>
    obtain ⟨k, m, x, rfl, hm, hk, HRk, HT⟩ := hrel
    have hme := HRk.out.meas s.size
    by_cases hx : x = 0
    · subst hx
      have HME : Aside0 (meas p s.size wr = 2 * (s.size - (a + k)) + 1) := ⟨by rw [hme, if_pos rfl, Int.toNat_natCast]⟩
      clear hme
      have c1 := HRk.out.c1
      have c2 := HRk.out.c2
      by_cases hlt : a + k < s.size
      · go_wp2_with fail
        refine (next_calls _ p s (a + k) hlt HRk.out).mono ?_
        rintro e w' ⟨rfl, hw⟩
        have HRn : Aside0 (RdAt w' p s (a + k : Nat) 0) := ⟨Drawn0.rd hw HRk.out⟩
        have HTn : Aside0 (Turns (At p) w w') := ⟨HT.out.trans (Drawn0.turns hw _)⟩
        have c0 := HRn.out.c0
        have c1 := HRn.out.c1
        have c2 := HRn.out.c2
        have f1 := HRn.out.f1
        clear hw
        obtain ⟨c, hc⟩ : ∃ c : Nat, s[a + k].toNat = c := ⟨_, rfl⟩
        rw [hc]
        have hc256 : c < 256 := by rw [← hc]; exact s[a + k].toNat_lt
        clear hc
        by_cases hE : c = 101 ∧ 0 < k
        · obtain ⟨rfl, hk0⟩ := hE
          have hg : (a : Int) < ((a + k : Nat) : Int) := by omega
          go_wp2_with fail
          go_ret
          refine ⟨m, _, 0, rfl, hm, HRn.out.set1 _, HTn.out.set_ rfl _, fun _ => ⟨a + k + 1, by simp, by omega, by omega⟩⟩
        · have hE2 : Aside0 (¬ (c = 101 ∧ 0 < k)) := ⟨hE⟩
          clear hE
          by_cases hk0 : k = 0
          · subst hk0
            have hg : ¬ (a : Int) < ((a + 0 : Nat) : Int) := by omega
            by_cases hF : c < 48 ∨ 57 < c
            · rcases hF with hF | hF
              · have hF2 : (c : Int) < 48 := by omega
                go_wp2_with (go_at_call 41; refine (fail_calls _ p s _ _ HRn.out).mono ?_; rintro e w' ⟨rfl, rfl⟩)
                all_goals
                  go_round
                  case rel => exact ⟨0, m, 20, rfl, hm, hk, ⟨HRn.out.set2 _⟩, ⟨HTn.out.set_ rfl _⟩⟩
                  case measure => rw [HME.out, (HRn.out.set2 20).meas]; simp <;> omega
              · have hF2 : ¬ (c : Int) < 48 := by omega
                have hF3 : (57 : Int) < c := by omega
                by_cases hce : (c : Int) = 101
                all_goals
                  go_wp2_with (go_at_call 41; refine (fail_calls _ p s _ _ HRn.out).mono ?_; rintro e w' ⟨rfl, rfl⟩)
                  all_goals
                    go_round
                    case rel => exact ⟨0, m, 20, rfl, hm, hk, ⟨HRn.out.set2 _⟩, ⟨HTn.out.set_ rfl _⟩⟩
                    case measure => rw [HME.out, (HRn.out.set2 20).meas]; simp <;> omega
            · have hF2 : ¬ (c : Int) < 48 := by omega
              have hF3 : ¬ (57 : Int) < c := by omega
              have hF4 : ¬ (c : Int) = 101 := by omega
              have hd : (0 : Int) ≤ c - 48 ∧ (c : Int) - 48 ≤ 9 := by omega
              by_cases hbig : (9223372036854775807 - ((c : Int) - 48)) / 10 < m
              · go_wp2_with (go_at_call 41; refine (fail_calls _ p s _ _ HRn.out).mono ?_; rintro e w' ⟨rfl, rfl⟩)
                all_goals
                  go_round
                  case rel => exact ⟨0, m, 20, rfl, hm, hk, ⟨HRn.out.set2 _⟩, ⟨HTn.out.set_ rfl _⟩⟩
                  case measure => rw [HME.out, (HRn.out.set2 20).meas]; simp <;> omega
              · go_wp2_with fail
                all_goals
                  go_round
                  case rel => exact ⟨0 + 1, _, 0, rfl, by omega, by omega, ⟨by have := HRn.out.set1 (((a + 0 + 1 : Nat)) : Int); simpa [Int.add_assoc] using this⟩, ⟨HTn.out.set_ rfl _⟩⟩
                  case measure => rw [HME.out, (HRn.out.set1 _).meas]; simp <;> omega
          · have hg : (a : Int) < ((a + k : Nat) : Int) := by omega
            have hF4 : ¬ (c : Int) = 101 := fun h => hE2.out ⟨by omega, by omega⟩
            have hg2 : ¬ ((a + k : Nat) : Int) = (a : Int) := by omega
            by_cases hF : c < 48 ∨ 57 < c
            · rcases hF with hF | hF
              · have hF2 : (c : Int) < 48 := by omega
                go_wp2_with (go_at_call 41; refine (fail_calls _ p s _ _ HRn.out).mono ?_; rintro e w' ⟨rfl, rfl⟩)
                all_goals
                  go_round
                  case rel => exact ⟨k, m, 20, rfl, hm, hk, ⟨HRn.out.set2 _⟩, ⟨HTn.out.set_ rfl _⟩⟩
                  case measure => rw [HME.out, (HRn.out.set2 20).meas]; simp <;> omega
              · have hF2 : ¬ (c : Int) < 48 := by omega
                have hF3 : (57 : Int) < c := by omega
                go_wp2_with (go_at_call 41; refine (fail_calls _ p s _ _ HRn.out).mono ?_; rintro e w' ⟨rfl, rfl⟩)
                all_goals
                  go_round
                  case rel => exact ⟨k, m, 20, rfl, hm, hk, ⟨HRn.out.set2 _⟩, ⟨HTn.out.set_ rfl _⟩⟩
                  case measure => rw [HME.out, (HRn.out.set2 20).meas]; simp <;> omega
            · have hF2 : ¬ (c : Int) < 48 := by omega
              have hF3 : ¬ (57 : Int) < c := by omega
              have hal : a < s.size := by omega
              by_cases hz : (s[a].toNat : Int) = 48
              · go_wp2_with (go_at_call 41; refine (fail_calls _ p s _ _ HRn.out).mono ?_; rintro e w' ⟨rfl, rfl⟩)
                all_goals
                  go_round
                  case rel => exact ⟨k, m, 20, rfl, hm, hk, ⟨HRn.out.set2 _⟩, ⟨HTn.out.set_ rfl _⟩⟩
                  case measure => rw [HME.out, (HRn.out.set2 20).meas]; simp <;> omega
              · have hz2 : ((s[a].toNat : Int) == 48) = false := by simpa using hz
                have hd : (0 : Int) ≤ c - 48 ∧ (c : Int) - 48 ≤ 9 := by omega
                by_cases hbig : (9223372036854775807 - ((c : Int) - 48)) / 10 < m
                · go_wp2_with (go_at_call 41; refine (fail_calls _ p s _ _ HRn.out).mono ?_; rintro e w' ⟨rfl, rfl⟩)
                  all_goals
                    go_round
                    case rel => exact ⟨k, m, 20, rfl, hm, hk, ⟨HRn.out.set2 _⟩, ⟨HTn.out.set_ rfl _⟩⟩
                    case measure => rw [HME.out, (HRn.out.set2 20).meas]; simp <;> omega
                · go_wp2_with fail
                  all_goals
                    go_round
                    case rel => exact ⟨k + 1, _, 0, rfl, by omega, by omega, ⟨by have := HRn.out.set1 (((a + k + 1 : Nat)) : Int); simpa [Int.add_assoc] using this⟩, ⟨HTn.out.set_ rfl _⟩⟩
                    case measure => rw [HME.out, (HRn.out.set1 _).meas]; simp <;> omega
      · have hend : a + k = s.size := by omega
        go_wp2_with fail
        refine (next_end _ p s (hend ▸ HRk.out)).mono ?_
        rintro e w' ⟨rfl, m0, rfl⟩
        have HRn : Aside0 (RdAt ((wr.drewN m0).setCell ⟨p, 2, none⟩ (.int .i64 21)) p s (a + k : Nat) 21) := ⟨(HRk.out.drewN m0).set2 21⟩
        have HTn : Aside0 (Turns (At p) w ((wr.drewN m0).setCell ⟨p, 2, none⟩ (.int .i64 21))) := ⟨(HT.out.drewN m0).set_ rfl _⟩
        have c2 := HRn.out.c2
        generalize (wr.drewN m0).setCell ⟨p, 2, none⟩ (.int .i64 21) = w2 at *
        go_wp2_with fail
        all_goals
          go_round
          case rel => exact ⟨k, m, 21, rfl, hm, hk, HRn, HTn⟩
          case measure => rw [HME.out, HRn.out.meas]; simp <;> omega
    · have c2 := HRk.out.c2
      go_wp2_with fail
      go_ret
      exact ⟨0, _, x, rfl, by omega, HRk.out, HT.out, fun h => absurd h hx⟩

end Go.Proofs.YtjhalgoondljgaaDoor.Re
