/- VptreeFull, walked. -/
import Derived.Test.YtealiaafdkhonaaHo1
namespace Go.Proofs.Ytealiaafdkhonaa.Vp
open Go.RowKit Go.Sort Mb Base Go.Proofs.YtealiaafdkhonaaW.PrintWords Go.Proofs.YtealiaafdkhonaaW.PrintLast Go.Proofs.YtealiaafdkhonaaW.PrintMore
set_option linter.unusedVariables false
set_option linter.unusedSimpArgs false
def rowsF (n : Nat) : List (Int × List Int) := (List.range n).map fun (k : Nat) => ((k : Int), [(k : Int) * 7 % 100])
theorem rowsF_lt {n : Nat} {p : Int × List Int} (hp : p ∈ rowsF n) : ∃ k : Nat, k < n ∧ p = ((k : Int), [(k : Int) * 7 % 100]) := by
  obtain ⟨k, hk, rfl⟩ := List.mem_map.1 hp
  exact ⟨k, List.mem_range.1 hk, rfl⟩
theorem rowsF_len (n : Nat) : (rowsF n).length = n := by simp [rowsF]
theorem rowsF_look (n : Nat) (m : Nat) (h : n ≤ m) : look (rowsF n) (m : Int) = none := by
  cases e : look (rowsF n) (m : Int) with
  | none => rfl
  | some v =>
    obtain ⟨k, hk, e⟩ := rowsF_lt (look_mem e)
    injection e with e1 _
    omega
theorem rowsF_put (n : Nat) : putL (n : Int) [(n : Int) * 7 % 100] (rowsF n) = rowsF (n + 1) := by
  rw [put_end]
  · unfold rowsF
    rw [List.range_succ, List.map_append]
    rfl
  · intro p hp
    obtain ⟨k, hk, rfl⟩ := rowsF_lt hp
    show (k : Int) < (n : Int)
    omega
theorem ck_one {x : Int} (h1 : -2147483648 ≤ x) (h2 : x ≤ 2147483647) : ckV [x] 1 = 0 := if_pos ⟨unary h1 h2, rfl⟩
theorem full_step (i : Nat) : putR 1 (rowsF (min i 512)) (i : Int) [(i : Int) * 7 % 100] = (false, (if i < 512 then 0 else 2), rowsF (min (i + 1) 512)) := by
  unfold putR
  rw [if_pos (ck_one (by omega) (by omega)), rowsF_look _ _ (by omega), rowsF_len]
  by_cases h : i < 512
  · rw [if_pos (.inr (by omega)), if_pos h, Nat.min_eq_left (by omega), rowsF_put, Nat.min_eq_left (by omega)]
    rfl
  · rw [if_neg (by simp; omega), if_neg h, Nat.min_eq_right (by omega), Nat.min_eq_right (by omega)]
theorem rowsF_at (n k : Nat) (h : k < n) : (look (rowsF n) (k : Int)).isSome = true := by
  have hm : ((k : Int), [(k : Int) * 7 % 100]) ∈ rowsF n := List.mem_map.2 ⟨k, List.mem_range.2 h, rfl⟩
  have hr : Rising (rowsF n) := by
    unfold rowsF Rising
    rw [List.pairwise_map]
    exact List.pairwise_lt_range.imp (fun h => by show (_ : Int) < _; omega)
  rw [look_of_mem hr hm]
  rfl
theorem full_put (n : Nat) (h : 6 ≤ n) : putR 1 (rowsF n) 5 [-1] = (true, 0, putL 5 [-1] (rowsF n)) := by
  unfold putR
  have h5 := rowsF_at n 5 (by omega)
  rw [if_pos (ck_one (by omega) (by omega)), if_pos (.inl h5)]
  show ((look (rowsF n) ((5 : Nat) : Int)).isSome, _) = _
  rw [h5]
theorem full_len (n : Nat) (h : 6 ≤ n) : (putL 5 [-1] (rowsF n)).length = n := by
  have hr : Rising (rowsF n) := by
    unfold rowsF Rising
    rw [List.pairwise_map]
    exact List.pairwise_lt_range.imp (fun h => by show (_ : Int) < _; omega)
  have h5 : (look (rowsF n) 5).isSome = true := rowsF_at n 5 (by omega)
  rw [put_len _ _ _ hr, h5, rowsF_len]
  rfl
theorem full_best (n : Nat) : best 1 0 (hits (putL 5 [-1] (rowsF n)) [-1]) = [((5 : Int), 0)] := by
  have hl : look (putL 5 [-1] (rowsF n)) 5 = some [-1] := by rw [look_put, if_pos rfl]
  refine best_one ?_ (Int.le_refl _) ?_
  · exact List.mem_map.2 ⟨_, look_mem hl, rfl⟩
  · intro z hz hle
    obtain ⟨p, hp, rfl⟩ := List.mem_map.1 hz
    rcases put_mem hp with rfl | hp
    · rfl
    · obtain ⟨k, hk, rfl⟩ := rowsF_lt hp
      exfalso
      have e : (hit [-1] ((k : Int), [(k : Int) * 7 % 100])).2 = gap (-1) ((k : Int) * 7 % 100) := by
        show distN [-1] [(k : Int) * 7 % 100] = _
        unfold distN
        simp [distTo, YtealiaafdkhonaaW.PrintWords.rd]
      rw [e] at hle
      unfold gap at hle
      split at hle <;> omega
theorem C_one {W : World} {j : Nat} {x : Int} (h : W.heap[j]? = some (.cells #[.int .i64 x] 3 (0, 0))) : Kd.C (Kd.int .i64) W (some ⟨j, 0, none⟩) 1 [x] := C_of_blk h
set_option maxRecDepth 100000 in
set_option maxHeartbeats 4000000 in
theorem full_calls (W : World) (more : Int) : Calls Try.prog 6 #[.int .i64 more] W (Yes W) := by
  obtain ⟨n, hn⟩ : ∃ n : Nat, 511 + more % 4 = (n : Int) := ⟨(511 + more % 4).toNat, by omega⟩
  have hn1 : 511 ≤ n := by omega
  have hn2 : n ≤ 514 := by omega
  have ha := Base.i64_and3 more
  obtain ⟨m4, hm4⟩ : ∃ m4, more % 4 = m4 := ⟨_, rfl⟩
  rw [hm4] at ha hn
  have hm0 : 0 ≤ m4 := by omega
  have hm1 : m4 ≤ 3 := by omega
  have HN := Aside0.mk hn
  clear hn hm4
  go_enter Try.func6, Try.ntmps6
  go_upto_region 4 with (go_at_call 11; refine (hold_new 1 (by omega) (by omega) _).mono ?_; rintro e w1 ⟨⟨g, ma, rfl, hh⟩, hb⟩; have e25 : ∀ w, (binOp .eql 25 (.pointer (some ⟨g, 0, none⟩)) (.pointer none)).run Try.prog w = .ok (.bool false) w := (fun w => by kernel_rfl); have HB1 := Aside0.mk hb; have HH1 := Aside0.mk hh; clear hb hh)
  obtain ⟨b0, hb0⟩ : ∃ b0, W.heap.size = b0 := ⟨_, rfl⟩
  have HB0 := Aside0.mk hb0
  rw [hb0] at HH1
  have HBB1 : Aside0 (Below b0 W w1) := ⟨by rw [← hb0]; exact HB1.out⟩
  clear hb0
  go_wp2_with fail
  rw [HN.out]
  go_loopw [6] (fun z wr => ∃ i : Nat, z = .int .i64 i ∧ i ≤ n ∧ Aside0 (HoldsD wr b0 g ma 1 (rowsF (min i 512))) ∧ Aside0 (Below b0 W wr)) (fun z _ => n - (intOf z).toNat)
  case atStart => exact ⟨0, rfl, Nat.zero_le _, HH1, HBB1⟩
  case round =>
    obtain ⟨i, rfl, hi, HH, HB⟩ := hrel
    by_cases hlt : i < n
    · have hlt' : (i : Int) < (n : Int) := by omega
      have hi0 : (0 : Int) ≤ (i : Int) := by omega
      have hi1 : (i : Int) ≤ 514 := by omega
      have HP : Aside0 (Calls Try.prog 15 #[.pointer (some ⟨g, 0, none⟩), .agg #[.int .i64 i, .slice (some ⟨wr.heap.size, 0, none⟩) 1 1]] (wr.alloc (.cells #[.int .i64 ((i : Int) * 7 % 100)] 3)) (DoneH (wr.alloc (.cells #[.int .i64 ((i : Int) * 7 % 100)] 3)) b0 g ma 1 (rowsF (min (i + 1) 512)) (.tuple #[.bool false, .int .i64 (if i < 512 then 0 else 2)]))) := ⟨by
        have h1 := hold_put (HH.out.below (below_alloc (Below.refl _ _) (.cells #[.int .i64 ((i : Int) * 7 % 100)] 3))) (i : Int) (by show decide _ = true; simp [IntKind.wrap]; omega) (some ⟨wr.heap.size, 0, none⟩) 1 [(i : Int) * 7 % 100] (C_one (blk_new _ _))
        rw [full_step] at h1
        exact h1⟩
      by_cases h512 : i < 512
      · have h512' : (i : Int) < 512 := by omega
        rw [if_pos h512] at HP
        go_wp2_with (go_at_call 15; refine HP.out.mono ?_; rintro e w2 ⟨rfl, hh2, hb2⟩; have HH2 := Aside0.mk hh2; have HB2 := Aside0.mk hb2; clear hh2 hb2)
        go_roundw
        case rel => exact ⟨i + 1, by go_num, hlt, HH2, ⟨below_cat (below_cat HB.out (below_alloc0 HH.out.lt _)) HB2.out⟩⟩
        case measure => simp [intOf]; omega
      · have h512' : ¬ (i : Int) < 512 := by omega
        rw [if_neg h512] at HP
        go_wp2_with (go_at_call 15; refine HP.out.mono ?_; rintro e w2 ⟨rfl, hh2, hb2⟩; have HH2 := Aside0.mk hh2; have HB2 := Aside0.mk hb2; clear hh2 hb2)
        go_roundw
        case rel => exact ⟨i + 1, by go_num, hlt, HH2, ⟨below_cat (below_cat HB.out (below_alloc0 HH.out.lt _)) HB2.out⟩⟩
        case measure => simp [intOf]; omega
    · have ei : i = n := by omega
      subst ei
      obtain ⟨q, hq⟩ : ∃ q, min i 512 = q := ⟨_, rfl⟩
      have hq6 : 6 ≤ q := by omega
      rw [hq] at HH
      have HQ := Aside0.mk hq
      have HP := Aside0.mk (hold_put (HH.out.below (below_alloc (Below.refl _ _) (.cells #[.int .i64 (-1)] 3))) 5 (by decide) (some ⟨wr.heap.size, 0, none⟩) 1 [-1] (C_one (blk_new _ _)))
      rw [full_put q hq6] at HP
      clear hq
      go_upto_region 12 with (go_at_call 15; refine HP.out.mono ?_; rintro e w2 ⟨rfl, hh2, hb2⟩; have HH2 := Aside0.mk hh2; have HB2 := Aside0.mk hb2; clear hh2 hb2)
      have HTO := Aside0.mk (hold_top (HH2.out.below (below_alloc (Below.refl _ _) (.cells #[.int .i64 (-1)] 3))) (some ⟨w2.heap.size, 0, none⟩) 1 [-1] (C_one (blk_new _ _)) (fun ad e => by cases e; simp) (unary (by omega) (by omega)) rfl 1 (by omega) (by omega) 0)
      rw [full_best q] at HTO
      go_upto_region 13 with (go_at_call 17; refine HTO.out.mono ?_; rintro e w5 ⟨⟨A5, c5, rfl, ho5⟩, hh5, hb5⟩; have HO5 := Aside0.mk ho5; have HB5 := Aside0.mk hb5; have HH5 := Aside0.mk hh5; clear ho5 hb5 hh5)
      have HLN := Aside0.mk (hold_len HH5.out)
      rw [full_len q hq6] at HLN
      have HS5 : Aside0 (Calls Try.prog 19 #[.slice A5 1 c5, .slice (some ⟨w5.heap.size, 0, none⟩) 1 1] (w5.alloc (.cells #[.int .i64 5, .int .i64 0] 49)) fun e w' => e = .returned (.bool true) ∧ ∃ m, w' = (w5.alloc (.cells #[.int .i64 5, .int .i64 0] 49)).drewN m) := ⟨by
        have h1 := row_reads (l := [(5, 0)]) (own_alloc HO5.out (.cells #[.int .i64 5, .int .i64 0] 49)) (by decide)
        exact same_calls A5 (some ⟨w5.heap.size, 0, none⟩) c5 1 [(5, 0)] [(5, 0)] _ h1.1 (blk_reads (l := [(5, 0)]) (blk_new _ _) (by decide)) h1.2 (by decide) (by decide)⟩
      have hqm : min (i : Int) 512 = (q : Int) := by have := HQ.out; omega
      go_wp2_with (first | (go_at_call 19; refine HS5.out.mono ?_; rintro e w6 ⟨rfl, m6, rfl⟩) | (go_at_call 20; refine HLN.out.mono ?_; rintro e w7 ⟨rfl, rfl⟩) | (go_at_call 12; refine (awake_calls _).mono ?_; rintro e w9 ⟨rfl, hb9⟩; have HB9 := Aside0.mk hb9; clear hb9))
      go_ret
      have k1 := below_cat HB.out (below_alloc0 HH.out.lt (.cells #[.int .i64 (-1)] 3))
      have k2 := below_cat k1 HB2.out
      have k3 := below_cat k2 (below_alloc0 HH2.out.lt (.cells #[.int .i64 (-1)] 3))
      have k4 := below_cat k3 (HB5.out.mono (by have := HH2.out.lt; simp; omega))
      have k5 := below_cat k4 (below_alloc0 HH5.out.lt (.cells #[.int .i64 5, .int .i64 0] 49))
      have k6 := pw_below_drewN k5 m6
      refine ⟨rfl, ?_⟩
      rw [HB0.out]
      exact below_cat k6 (HB9.out.mono (by have := HH5.out.lt; simp; omega))
end Go.Proofs.Ytealiaafdkhonaa.Vp
