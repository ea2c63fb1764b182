/- VptreeNobody, walked. -/
import Derived.Test.YtealiaafdkhonaaAw
namespace Go.Proofs.Ytealiaafdkhonaa.Vp
open Go.RowKit Go.Sort Mb Base Go.Proofs.YtealiaafdkhonaaW.PrintWords Go.Proofs.YtealiaafdkhonaaW.PrintLast Go.Proofs.YtealiaafdkhonaaW.PrintMore
set_option linter.unusedVariables false
set_option linter.unusedSimpArgs false

theorem unmade_below {W W' : World} {p : Value} (h : Unmade W p) (hb : Below W.heap.size W W') : Unmade W' p := by
  rcases h with h | ⟨g, rfl, hc⟩
  · exact .inl h
  · exact .inr ⟨g, rfl, pw_cell_below hb hc⟩

set_option maxRecDepth 100000 in
set_option maxHeartbeats 4000000 in
theorem nobody_calls (W : World) (id : Int) (A : Option Addr) (n c : Nat) (k : Int) : Calls Try.prog 10 #[.agg #[.int .i64 id, .slice A n c], .int .i64 k] W (Yes W) := by
  go_enter Try.func10, Try.ntmps10
  go_wp2_with fail
  obtain ⟨w2, hw2⟩ : ∃ w2, ((W.alloc (.cells #[.int .i64 id, .slice A n c] 37)).alloc (.cells #[.int .i64 0, .pointer none, .map none, .map none] 69)).alloc (.cells #[.pointer none, .pointer (some ⟨W.heap.size + 1, 0, none⟩)] 25) = w2 := ⟨_, rfl⟩
  have HB0 : Aside0 (Below W.heap.size W w2) := ⟨by rw [← hw2]; exact below_alloc (below_alloc (below_alloc (Below.refl _ _) _) _) _⟩
  have HP : Aside0 (w2.heap[W.heap.size]? = some (.cells #[.int .i64 id, .slice A n c] 37 (0, 0))) := ⟨by rw [← hw2]; exact blk_alloc (blk_alloc (blk_new _ _) _) _⟩
  have HZ : Aside0 (w2.heap[W.heap.size + 1]? = some (.cells #[.int .i64 0, .pointer none, .map none, .map none] 69 (0, 0))) := ⟨by rw [← hw2]; exact blk_alloc (by have := blk_new (W.alloc (.cells #[.int .i64 id, .slice A n c] 37)) (.cells #[.int .i64 0, .pointer none, .map none, .map none] 69); simpa using this) _⟩
  have HR : Aside0 (w2.heap[W.heap.size + 1 + 1]? = some (.cells #[.pointer none, .pointer (some ⟨W.heap.size + 1, 0, none⟩)] 25 (0, 0))) := ⟨by rw [← hw2]; have := blk_new ((W.alloc (.cells #[.int .i64 id, .slice A n c] 37)).alloc (.cells #[.int .i64 0, .pointer none, .map none, .map none] 69)) (.cells #[.pointer none, .pointer (some ⟨W.heap.size + 1, 0, none⟩)] 25); simpa using this⟩
  rw [hw2]
  clear hw2
  generalize W.heap.size + 1 + 1 = rb at *
  generalize W.heap.size + 1 = zb at *
  obtain ⟨pb, hpb⟩ : ∃ pb, W.heap.size = pb := ⟨_, rfl⟩
  have HPB := Aside0.mk hpb
  rw [hpb] at HP
  simp only [hpb]
  clear hpb
  go_loopw [6] (fun z wr => ∃ m : Nat, z = .int .i64 m ∧ m ≤ 2 ∧ Aside0 (Below w2.heap.size w2 wr)) (fun z _ => 2 - (intOf z).toNat)
  case atStart => exact ⟨0, rfl, by omega, ⟨Below.refl _ _⟩⟩
  case round =>
    obtain ⟨m, rfl, hm2, HB⟩ := hrel
    by_cases hm : m < 2
    · have hmi : (m : Int) < 2 := by omega
      have hm0 : (0 : Int) ≤ (m : Int) := by omega
      obtain ⟨x, hx, hux⟩ : ∃ x, wr.cell? ⟨rb, m, none⟩ = some (.pointer x) ∧ Unmade wr (.pointer x) := by
        have hrow := blk_below HR.out HB.out
        rcases Nat.eq_zero_or_pos m with h0 | h0
        · subst h0
          exact ⟨none, (blk_cell hrow 0).trans rfl, .inl rfl⟩
        · obtain rfl : m = 1 := by omega
          exact ⟨some ⟨zb, 0, none⟩, (blk_cell hrow 1).trans rfl, .inr ⟨zb, rfl, (blk_cell (blk_below HZ.out HB.out) 0).trans rfl⟩⟩
      have p0 : wr.cell? ⟨pb, 0, none⟩ = some (.int .i64 id) := (blk_cell (blk_below HP.out HB.out) 0).trans rfl
      have p1 : wr.cell? ⟨pb, 1, none⟩ = some (.slice A n c) := (blk_cell (blk_below HP.out HB.out) 1).trans rfl
      have HU := Aside0.mk hux
      clear hux
      go_upto_region 5 with (fail)
      go_cut [7, 8] (fun u7 u8 w3 => u7 = .bool false ∧ u8 = .int .i64 1 ∧ Aside0 (Below wr.heap.size wr w3))
      case first =>
        have HPU : Aside0 (Calls Try.prog 15 #[.pointer x, .agg #[.int .i64 id, .slice A n c]] wr.drew fun e w' => e = .returned (.tuple #[.bool false, .int .i64 1]) ∧ Below wr.drew.heap.size wr.drew w') := ⟨put_no (.pointer x) wr.drew (unmade_below HU.out (below_drew1 (Below.refl _ _))) id (.slice A n c)⟩
        go_region_held3 (fun w' => w'.cell? ⟨rb, m, none⟩ = some (.pointer x) ∧ w'.cell? ⟨pb, 0, none⟩ = some (.int .i64 id) ∧ w'.cell? ⟨pb, 1, none⟩ = some (.slice A n c))
          (first | (go_split_ands; refine ⟨?_, ?_, ?_⟩ <;> assumption) | (go_split_ands; refine ⟨?_, ?_, ?_⟩ <;> (refine pw_cell_below hb9 ?_; assumption)) | (go_keep; done))
          ((go_at_call 15; refine HPU.out.mono ?_; rintro e w9 ⟨rfl, hb9⟩))
        all_goals (go_wp2_with fail; go_meet; exact ⟨rfl, rfl, ⟨below_step (below_drew1 (Below.refl wr.heap.size wr)) hb9⟩⟩)
      case rest =>
        obtain ⟨rfl, rfl, HB3⟩ := hcut
        have hx3 := pw_cell_below HB3.out hx
        have p03 := pw_cell_below HB3.out p0
        have p13 := pw_cell_below HB3.out p1
        have HU3 := Aside0.mk (unmade_below HU.out HB3.out)
        have HGE := Aside0.mk (get_no (.pointer x) wc HU3.out k)
        clear hx p0 p1
        go_upto_region 7 with (go_at_call 25; refine HGE.out.mono ?_; rintro e w' ⟨rfl, rfl⟩)
        have HTO := Aside0.mk (fun m => (top_no (.pointer x) (wc.drewN m) (unmade_below HU3.out (pw_below_drewN (Below.refl _ _) m)) (.slice A n c) (.int .i64 k) (.int .i64 k)).mono fun _ _ h => (⟨h.1, h.2.symm⟩ : _ ∧ _ = wc.drewN m))
        go_quiet ((go_at_call 17; exact Calls.quiet_of_same (HTO.out _)))
        have HB4 : Aside0 (Below wr.heap.size wr (wc.drewN nq)) := ⟨pw_below_drewN HB3.out nq⟩
        have HU4 := Aside0.mk (unmade_below HU3.out (pw_below_drewN (Below.refl _ _) nq))
        have hx4 : (wc.drewN nq).cell? ⟨rb, m, none⟩ = some (.pointer x) := hx3
        clear hx3 p03 p13
        generalize wc.drewN nq = w4 at *
        go_wp2_with (first
          | (go_at_call 23; refine (drop_no (.pointer x) w4 HU4.out k).mono ?_; rintro e w' ⟨rfl, rfl⟩)
          | (go_at_call 20; refine (len_no (.pointer x) _ HU4.out).mono ?_; rintro e w' ⟨rfl, rfl⟩)
          | (go_at_call 22; refine (points_no (.pointer x) _ HU4.out).mono ?_; rintro e w' ⟨rfl, rfl⟩)
          | (go_at_call 18; refine (build_no (.pointer x) _ HU4.out).mono ?_; rintro e w' ⟨rfl, rfl⟩))
        go_roundw
        case rel => exact ⟨m + 1, by go_num, by omega, ⟨below_step HB.out HB4.out⟩⟩
        case measure => simp [intOf]; omega
    · obtain rfl : m = 2 := by omega
      have hmi : ¬ ((2 : Nat) : Int) < 2 := by omega
      go_wp2_with (go_at_call 12; refine (awake_calls _).mono ?_; rintro e w9 ⟨rfl, hb9⟩; have HB9 := Aside0.mk hb9; clear hb9)
      go_ret
      exact ⟨rfl, below_step (below_step HB0.out HB.out) HB9.out⟩
end Go.Proofs.Ytealiaafdkhonaa.Vp
