/- Out of the kit's print (PWheelPlaysx9): Set, over this seat's own text on cut; with the two rows kept apart in the drawn region. -/
import Derived.Test.YtncmkcdnlcmiaaaPWheelPlaysx0
import Derived.Test.YtncmkcdnlcmiaaaSj
namespace Go.Proofs.Ytncmkcdnlcmiaaa.PWheelPlays
open Go.RowKit Go.Proofs.YtncmkcdnlcmiaaaW.PrintWords Go.Proofs.YtncmkcdnlcmiaaaW.PrintLast Go.Proofs.YtncmkcdnlcmiaaaW.PrintMore
attribute [local go_sem] max2_int min2_int max_two min_two max_three min_three max_four min_four   -- for this text's walks alone
set_option linter.unusedVariables false
set_option linter.unusedSimpArgs false
theorem row_mono {e : Nat} {w : World} {base : Nat} {ok ok' : Nat → Prop} {v : Value} {xs : List Int} (h : Kd.R (Kd.int .i64) e w base ok v xs) (hok : ∀ k, v.ownBlock = some k → ok k → ok' k) : Kd.R (Kd.int .i64) e w base ok' v xs :=
  ⟨fun k hk => hok k hk (h.1 k hk), h.2.imp_ (fun _ _ hp => hp)⟩

/-! ### ploverref14_Set: function 16 -/
def ploverref14_Set.j0 : Nat → Int → Int → Bool → List Int → List Int → Option (List Int × List Int × Int)
  | 0, _, _, _, _, _ => none
  | k + 1, x1, x2, x16, x240000, x240001 => if x16 = true then (some (x240000, x240001, 1)) else ((ploverref14_place.f k x240000 x240001 x1).bind fun bt241 => (if bt241.2 = true then ((ploverref14_cut.f x240000 bt241.1 1 (([x1] : List Int))).bind fun t246 => ((ploverref14_cut.f x240001 bt241.1 1 (([x2] : List Int))).bind fun t252 => (some (t246, t252, 0)))) else (if (x240000.length : Int) ≥ 4096 then (some (x240000, x240001, 2)) else ((ploverref14_cut.f x240000 bt241.1 0 (([x1] : List Int))).bind fun t258 => ((ploverref14_cut.f x240001 bt241.1 0 (([x2] : List Int))).bind fun t264 => (some (t258, t264, 0)))))))
def ploverref14_Set.f (k : Nat) (l0_0 : List Int) (l0_1 : List Int) (a1 : Int) (a2 : Int) : Option (List Int × List Int × Int) := if a2 < 1 then (ploverref14_Set.j0 k a1 a2 true l0_0 l0_1) else (ploverref14_Set.j0 k a1 a2 (decide (a2 > 1048576)) l0_0 l0_1)
theorem ploverref14_Set.mono_l : ∀ k, (∀ y0 y1 y2 y3 y4, LeO (ploverref14_Set.j0 k y0 y1 y2 y3 y4) (ploverref14_Set.j0 (k + 1) y0 y1 y2 y3 y4))
  | 0 => fun _ _ _ _ _ r h => by simp [ploverref14_Set.j0] at h
  | k + 1 => by
    have ih0 := ploverref14_Set.mono_l k
    · intro y0 y1 y2 y3 y4
      unfold ploverref14_Set.j0
      repeat' first
      | (with_reducible exact ih0 _ _ _ _ _)
      | (with_reducible exact ploverref14_place.mono _ _ _ _)
      | (with_reducible exact LeO.refl _)
      | (with_reducible exact LeO.none _)
      | (with_reducible refine LeO.ite ?_ ?_)
      | (with_reducible refine LeO.bind ?_ (fun _ => ?_))
      | exact ih0 _ _ _ _ _
      | exact ploverref14_place.mono _ _ _ _
      | exact LeO.none _
      | refine LeO.ite ?_ ?_
      | refine LeO.bind ?_ (fun _ => ?_)
theorem ploverref14_Set.mono : ∀ a0 a1 a2 a3 k, LeO (ploverref14_Set.f k a0 a1 a2 a3) (ploverref14_Set.f (k + 1) a0 a1 a2 a3) := by
  intro a0 a1 a2 a3 k
  have ih0 := ploverref14_Set.mono_l k
  unfold ploverref14_Set.f
  repeat' first
      | (with_reducible exact ih0 _ _ _ _ _)
      | (with_reducible exact ploverref14_place.mono _ _ _ _)
      | (with_reducible exact LeO.refl _)
      | (with_reducible exact LeO.none _)
      | (with_reducible refine LeO.ite ?_ ?_)
      | (with_reducible refine LeO.bind ?_ (fun _ => ?_))
      | exact ih0 _ _ _ _ _
      | exact ploverref14_place.mono _ _ _ _
      | exact LeO.none _
      | refine LeO.ite ?_ ?_
      | refine LeO.bind ?_ (fun _ => ?_)
def ploverref14_Set.T9 : Bool × List (List Nat × List Nat) := (true, [([], []), ([0], [0]), ([], []), ([], []), ([], []), ([4], [4]), ([1, 2, 3, 5], [1, 2, 3, 5]), ([], []), ([7], [7]), ([], []), ([], []), ([], []), ([11], [11]), ([8, 9, 10, 12, 6], [8, 9, 10, 12]), ([6, 13], [6, 13]), ([14, 13, 0, 1, 2, 3, 4, 5, 6, 7, 8, 9, 10, 11, 12, 13, 14], [14]), ([15, 0, 1, 2, 3, 4, 5, 6, 7, 8, 9, 10, 11, 12, 13, 14, 15], [])])
def ploverref14_Set.B9 : List Nat := [0, 1, 0, 0, 0, 16, 63, 0, 128, 0, 0, 0, 2048, 8191, 16383, 32767, 65535]
theorem ploverref14_Set.tab9 : rtab .any (opsOf Try.f16 9) = ploverref14_Set.T9 := by kernel_rfl
theorem ploverref14_Set.bits9 : waitsOk ploverref14_Set.T9.2 ploverref14_Set.B9 = true := by kernel_rfl
set_option maxHeartbeats 8000000 in
set_option maxRecDepth 100000 in
theorem ploverref14_Set.calls (k : Nat) (P0_0_ : Nat → Prop) (u9000_ : Value) (l0_0 : List Int) (P0_1_ : Nat → Prop) (u9001_ : Value) (l0_1 : List Int) (a1 : Int) (a2 : Int) (r1 : List Int) (r2 : List Int) (r3 : Int) (w0 w : World) (hB : Below w0.heap.size w0 w) (ho0_0 : Kd.R (Kd.int .i64) 3 w w0.heap.size P0_0_ u9000_ l0_0) (hp0_0_0_1 : ∀ k_, P0_0_ k_ → ¬ P0_1_ k_) (ho0_1 : Kd.R (Kd.int .i64) 3 w w0.heap.size P0_1_ u9001_ l0_1) (hp0_1_0_0 : ∀ k_, P0_1_ k_ → ¬ P0_0_ k_) (h : ploverref14_Set.f k l0_0 l0_1 a1 a2 = some (r1, r2, r3)) :
    Calls Try.prog 16 #[.agg #[u9000_, u9001_], .int .i64 a1, .int .i64 a2] w fun e w' => ∃ v0_ v1_ : Value, e = .returned (.tuple #[.agg #[v0_, v1_], .int .i64 r3]) ∧ Kd.R (Kd.int .i64) 3 w' w0.heap.size (fun k_ => ((P0_0_ k_ ∨ P0_1_ k_) ∨ w.heap.size ≤ k_) ∧ some k_ ≠ (v1_ : Value).ownBlock) v0_ r1 ∧ Kd.R (Kd.int .i64) 3 w' w0.heap.size (fun k_ => ((P0_0_ k_ ∨ P0_1_ k_) ∨ w.heap.size ≤ k_) ∧ some k_ ≠ (v0_ : Value).ownBlock) v1_ r2 ∧ Below w0.heap.size w0 w' ∧ Kept w w' (fun k_ => P0_0_ k_ ∨ P0_1_ k_) := by
  have hu40 := Try.underlying40
  have HO0_0 := Aside0.mk (show Kd.R (Kd.int .i64) 3 w w0.heap.size (fun k_ => ((P0_0_ k_ ∨ P0_1_ k_) ∨ w.heap.size ≤ k_) ∧ some k_ ≠ (u9001_ : Value).ownBlock) u9000_ l0_0 from Kd.R_mono ho0_0 (fun k_ hk => ⟨(.inl (.inl hk)), fun e_ => hp0_0_0_1 k_ hk (ho0_1.1 k_ e_.symm)⟩))
  have HO0_1 := Aside0.mk (show Kd.R (Kd.int .i64) 3 w w0.heap.size (fun k_ => ((P0_0_ k_ ∨ P0_1_ k_) ∨ w.heap.size ≤ k_) ∧ some k_ ≠ (u9000_ : Value).ownBlock) u9001_ l0_1 from Kd.R_mono ho0_1 (fun k_ hk => ⟨(.inl (.inr hk)), fun e_ => hp0_1_0_0 k_ hk (ho0_0.1 k_ e_.symm)⟩))
  have HK := Aside0.mk (Kept.refl w (fun k_ => P0_0_ k_ ∨ P0_1_ k_))
  have HW0 := Aside0.mk hB.size
  have HB := Aside0.mk hB
  clear hB
  have H : (if a2 < 1 then (ploverref14_Set.j0 k a1 a2 true l0_0 l0_1) else (ploverref14_Set.j0 k a1 a2 (decide (a2 > 1048576)) l0_0 l0_1)) = some (r1, r2, r3) := h
  clear h
  have HC4 := Aside0.mk H
  clear H
  obtain ⟨Ao5, co5, eo5⟩ := Kd.R_slice HO0_0.out
  subst eo5
  obtain ⟨Ao6, co6, eo6⟩ := Kd.R_slice HO0_1.out
  subst eo6
  go_enter Try.func16, Try.ntmps16
  go_upto_region 1 with (first | ((with_reducible refine gate_dst (N := 3) rfl ?_); refine box_event ?hg (N := 3) ?hd (cs := #[.slice Ao5 l0_0.length co5, .slice Ao6 l0_1.length co6]) (t := 40) ?hr ?_; (case hd => rfl); (case hg => rfl); (case hr => first | (go_simp; done) | (go_simp; rfl)); intro gb239 hg w7 hbox hb; have n0_ := Aside0.mk (Kd.R_below (by (with_reducible repeat (first | apply Kd.R_alloc | apply Kd.R_drewN | apply Kd.R_drew)); exact HO0_0.out) hb); have n1_ := Aside0.mk (Kd.R_below (by (with_reducible repeat (first | apply Kd.R_alloc | apply Kd.R_drewN | apply Kd.R_drew)); exact HO0_1.out) hb); have n2_ := Aside0.mk (Kept.below (S := (fun k_ => P0_0_ k_ ∨ P0_1_ k_)) (by repeat (first | (with_reducible first | exact HK.out | apply Kept.alloc | apply Kept.drewN | apply Kept.drew) | exact HK.out)) hb); have n3_ := Aside0.mk (below_step (by repeat (first | (with_reducible first | exact HB.out | apply below_alloc | apply pw_below_drewN | apply below_drew1) | exact HB.out)) hb); have n4_ := Aside0.mk (hbox); have n5_ := Aside0.mk ((by rw [hg]; exact (by first | exact HK.out.1 | exact (show Kept w _ (fun k_ => P0_0_ k_ ∨ P0_1_ k_) from by repeat (first | (with_reducible first | exact HK.out | apply Kept.alloc | apply Kept.drewN | apply Kept.drew) | exact HK.out)).1) : w.heap.size ≤ gb239)); have n6_ := Aside0.mk ((by rw [hg]; exact (below_size (by repeat (first | (with_reducible first | exact HB.out | apply below_alloc | apply pw_below_drewN | apply below_drew1) | exact HB.out))) : w0.heap.size ≤ gb239)); clear HO0_0; clear HO0_1; clear HK; clear HB; have HO0_0 := n0_; have HO0_1 := n1_; have HK := n2_; have HB := n3_; have BK239 := n4_; have GW239 := n5_; have GE239 := n6_; clear n0_ n1_ n2_ n3_ n4_ n5_ n6_; clear hb hbox hg) | ((with_reducible refine gate_dst (N := 6) rfl ?_); refine box_event ?hg (N := 6) ?hd (cs := #[.slice none 0 0, .slice none 0 0]) (t := 40) ?hr ?_; (case hd => rfl); (case hg => rfl); (case hr => first | (go_simp; done) | (go_simp; rfl)); intro gb240 hg w8 hbox hb; have n0_ := Aside0.mk (Kd.R_below (by (with_reducible repeat (first | apply Kd.R_alloc | apply Kd.R_drewN | apply Kd.R_drew)); exact HO0_0.out) hb); have n1_ := Aside0.mk (Kd.R_below (by (with_reducible repeat (first | apply Kd.R_alloc | apply Kd.R_drewN | apply Kd.R_drew)); exact HO0_1.out) hb); have n2_ := Aside0.mk (blk_below (g := gb239) (o := .cells #[.slice Ao5 l0_0.length co5, .slice Ao6 l0_1.length co6] 40 (0, 0)) (by (with_reducible repeat (first | refine blk_drewN ?_ _ | refine blk_drew ?_ | refine blk_alloc ?_ _)); exact BK239.out) hb); have n3_ := Aside0.mk (Kept.below (S := (fun k_ => P0_0_ k_ ∨ P0_1_ k_)) (by repeat (first | (with_reducible first | exact HK.out | apply Kept.alloc | apply Kept.drewN | apply Kept.drew | refine Kept.setCell ?_ (.inr GW239.out) _) | exact HK.out)) hb); have n4_ := Aside0.mk (below_step (by repeat (first | (with_reducible first | exact HB.out | apply below_alloc | apply pw_below_drewN | apply below_drew1 | refine below_set ?_ GE239.out) | exact HB.out)) hb); have n5_ := Aside0.mk (hbox); have n6_ := Aside0.mk ((by rw [hg]; exact (by first | exact HK.out.1 | exact (show Kept w _ (fun k_ => P0_0_ k_ ∨ P0_1_ k_) from by repeat (first | (with_reducible first | exact HK.out | apply Kept.alloc | apply Kept.drewN | apply Kept.drew | refine Kept.setCell ?_ (.inr GW239.out) _) | exact HK.out)).1) : w.heap.size ≤ gb240)); have n7_ := Aside0.mk ((by rw [hg]; exact (below_size (by repeat (first | (with_reducible first | exact HB.out | apply below_alloc | apply pw_below_drewN | apply below_drew1 | refine below_set ?_ GE239.out) | exact HB.out))) : w0.heap.size ≤ gb240)); have n8_ := Aside0.mk ((by rw [hg]; exact Nat.ne_of_lt (blk_lt (g := gb239) (o := .cells #[.slice Ao5 l0_0.length co5, .slice Ao6 l0_1.length co6] 40 (0, 0)) (by (with_reducible repeat (first | refine blk_drewN ?_ _ | refine blk_drew ?_ | refine blk_alloc ?_ _)); exact BK239.out)) : gb239 ≠ gb240)); have n9_ := Aside0.mk ((by rw [hg]; exact Nat.ne_of_gt (blk_lt (g := gb239) (o := .cells #[.slice Ao5 l0_0.length co5, .slice Ao6 l0_1.length co6] 40 (0, 0)) (by (with_reducible repeat (first | refine blk_drewN ?_ _ | refine blk_drew ?_ | refine blk_alloc ?_ _)); exact BK239.out)) : gb240 ≠ gb239)); clear HO0_0; clear HO0_1; clear BK239; clear HK; clear HB; have HO0_0 := n0_; have HO0_1 := n1_; have BK239 := n2_; have HK := n3_; have HB := n4_; have BK240 := n5_; have GW240 := n6_; have GE240 := n7_; have NB239_240 := n8_; have NB240_239 := n9_; clear n0_ n1_ n2_ n3_ n4_ n5_ n6_ n7_ n8_ n9_; clear hb hbox hg))
  (try simp only [Act.put, List.setIfInBounds_toArray, List.set_cons_zero, List.set_cons_succ])
  go_cut [16] (fun v16 wc => ∃ (kq : Nat) (x16_3 : Bool), v16 = .bool x16_3 ∧ Aside0 (ploverref14_Set.j0 kq a1 a2 x16_3 l0_0 l0_1 = some (r1, r2, r3)) ∧ Aside0 (kq ≤ k) ∧ Aside0 (Kd.R (Kd.int .i64) 3 wc w0.heap.size (fun k_ => ((P0_0_ k_ ∨ P0_1_ k_) ∨ w.heap.size ≤ k_) ∧ some k_ ≠ ((.slice Ao6 l0_1.length co6) : Value).ownBlock) (.slice Ao5 l0_0.length co5) l0_0) ∧ Aside0 (Kd.R (Kd.int .i64) 3 wc w0.heap.size (fun k_ => ((P0_0_ k_ ∨ P0_1_ k_) ∨ w.heap.size ≤ k_) ∧ some k_ ≠ ((.slice Ao5 l0_0.length co5) : Value).ownBlock) (.slice Ao6 l0_1.length co6) l0_1) ∧ Aside0 (wc.heap[gb239]? = some (.cells #[(.slice Ao5 l0_0.length co5), (.slice Ao6 l0_1.length co6)] 40 (0, 0))) ∧ Aside0 (wc.heap[gb240]? = some (.cells #[(.slice none 0 0), (.slice none 0 0)] 40 (0, 0))) ∧ Aside0 (Kept w wc (fun k_ => P0_0_ k_ ∨ P0_1_ k_)) ∧ Aside0 (Below w0.heap.size w0 wc))
  case first =>
    have H := HC4.out
    clear HC4
    by_cases c9 : a2 < 1
    · rw [if_pos c9] at H
      have c9b0 : decide (a2 < 1) = true := decide_eq_true c9
      clear c9
      (first | rw [c9b0] | (simp only [i64_w, i32_w]; rw [c9b0]) | skip)
      have H' := Aside0.mk H
      clear H
      go_wp2
      go_meet
      case rel => exact ⟨_, (true), (by first | rfl | (simp; done) | (simp [*]; done)), H', ⟨by first | omega | exact Nat.le_refl _⟩, ⟨by (with_reducible repeat (first | apply Kd.R_alloc | apply Kd.R_drewN | apply Kd.R_drew)); exact HO0_0.out⟩, ⟨by (with_reducible repeat (first | apply Kd.R_alloc | apply Kd.R_drewN | apply Kd.R_drew)); exact HO0_1.out⟩, ⟨by (with_reducible repeat (first | refine blk_drewN ?_ _ | refine blk_drew ?_ | refine blk_alloc ?_ _)); exact BK239.out⟩, ⟨by (with_reducible repeat (first | refine blk_drewN ?_ _ | refine blk_drew ?_ | refine blk_alloc ?_ _)); exact BK240.out⟩, ⟨by repeat (first | (with_reducible first | exact HK.out | apply Kept.alloc | apply Kept.drewN | apply Kept.drew | refine Kept.setCell ?_ (.inr GW239.out) _ | refine Kept.setCell ?_ (.inr GW240.out) _) | exact HK.out)⟩, ⟨by repeat (first | (with_reducible first | exact HB.out | apply below_alloc | apply pw_below_drewN | apply below_drew1 | refine below_set ?_ GE239.out | refine below_set ?_ GE240.out) | exact HB.out)⟩⟩
    · rw [if_neg c9] at H
      have c9b0 : decide (a2 < 1) = false := decide_eq_false c9
      clear c9
      (first | rw [c9b0] | (simp only [i64_w, i32_w]; rw [c9b0]) | skip)
      have H' := Aside0.mk H
      clear H
      go_wp2
      go_meet
      case rel => exact ⟨_, (decide (a2 > 1048576)), (by first | rfl | (simp; done) | (simp [*]; done)), H', ⟨by first | omega | exact Nat.le_refl _⟩, ⟨by (with_reducible repeat (first | apply Kd.R_alloc | apply Kd.R_drewN | apply Kd.R_drew)); exact HO0_0.out⟩, ⟨by (with_reducible repeat (first | apply Kd.R_alloc | apply Kd.R_drewN | apply Kd.R_drew)); exact HO0_1.out⟩, ⟨by (with_reducible repeat (first | refine blk_drewN ?_ _ | refine blk_drew ?_ | refine blk_alloc ?_ _)); exact BK239.out⟩, ⟨by (with_reducible repeat (first | refine blk_drewN ?_ _ | refine blk_drew ?_ | refine blk_alloc ?_ _)); exact BK240.out⟩, ⟨by repeat (first | (with_reducible first | exact HK.out | apply Kept.alloc | apply Kept.drewN | apply Kept.drew | refine Kept.setCell ?_ (.inr GW239.out) _ | refine Kept.setCell ?_ (.inr GW240.out) _) | exact HK.out)⟩, ⟨by repeat (first | (with_reducible first | exact HB.out | apply below_alloc | apply pw_below_drewN | apply below_drew1 | refine below_set ?_ GE239.out | refine below_set ?_ GE240.out) | exact HB.out)⟩⟩
  case rest =>
    clear HC4
    try clear c1
    try clear p2
    try clear c9
    try clear c9b0
    obtain ⟨kq, x16_3, rfl, HA, HJ3, HO_240000, HO_240001, BK239, BK240, HK, HB⟩ := hcut
    cases kq with
    | zero => exact absurd HA.out (by simp [ploverref14_Set.j0])
    | succ kj3 =>
      have H := HA.out
      clear HA
      simp only [ploverref14_Set.j0] at H
      by_cases c10 : x16_3 = true
      · subst c10
        have H1 : (some (l0_0, l0_1, 1)) = some (r1, r2, r3) := by rw [if_pos rfl] at H; exact H
        clear H
        have H := H1
        clear H1
        simp only [Option.some.injEq, Prod.mk.injEq] at H
        obtain ⟨rfl, rfl, rfl⟩ := H
        have hnb11 := NB239_240.out
        have hnc11 := NB240_239.out
        have hcz12_0 : wc.cell? ⟨gb239, 0, none⟩ = some (.slice Ao5 l0_0.length co5) := (blk_cell BK239.out 0).trans rfl
        have hcz12_1 : wc.cell? ⟨gb239, 1, none⟩ = some (.slice Ao6 l0_1.length co6) := (blk_cell BK239.out 1).trans rfl
        have hfz12_0 := blk_frozen BK239.out 0
        have hfz12_1 := blk_frozen BK239.out 1
        have hcz13_0 : wc.cell? ⟨gb240, 0, none⟩ = some (.slice none 0 0) := (blk_cell BK240.out 0).trans rfl
        have hcz13_1 : wc.cell? ⟨gb240, 1, none⟩ = some (.slice none 0 0) := (blk_cell BK240.out 1).trans rfl
        have hfz13_0 := blk_frozen BK240.out 0
        have hfz13_1 := blk_frozen BK240.out 1
        go_wp2
        refine bodyPost_ret (results_ct rfl _ _ gb240 40 #[.slice Ao5 l0_0.length co5, .slice Ao6 l0_1.length co6] (0, 0) _ rfl (by (with_reducible repeat (first | refine blk_drewN ?_ _ | refine blk_drew ?_ | refine blk_alloc ?_ _)); refine blk_put (cs := #[.slice Ao5 l0_0.length co5, .slice none 0 0]) ?_ 1 _ rfl; (with_reducible repeat (first | refine blk_drewN ?_ _ | refine blk_drew ?_ | refine blk_alloc ?_ _)); refine blk_put (cs := #[.slice none 0 0, .slice none 0 0]) ?_ 0 _ rfl; (with_reducible repeat (first | refine blk_drewN ?_ _ | refine blk_drew ?_ | refine blk_alloc ?_ _)); exact BK240.out) Try.underlying40 rfl (by kernel_rfl)) rfl ?_
        exact ⟨_, _, by first | rfl | (simp [errW_none, errW_some] <;> rfl) | (simp [*, errW_none, errW_some] <;> rfl), by (with_reducible repeat (first | apply Kd.R_alloc | apply Kd.R_drewN | apply Kd.R_drew)); exact row_mono (Kd.R_far (p := ⟨gb240, 1, none⟩) (Kd.R_far (p := ⟨gb240, 0, none⟩) (Kd.R_types HO_240000.out BK240.out (by decide)) (fun _ hk => hk.2) (.slice Ao5 l0_0.length co5)) (fun _ hk => hk.2) (.slice Ao6 l0_1.length co6)) (fun k_ ho_ hk => by (obtain ⟨a1_, a2_⟩ := hk; (try obtain ⟨a1_, a3_⟩ := a1_); (try obtain ⟨a1_, a4_⟩ := a1_); (try obtain ⟨a1_, a5_⟩ := a1_); (try obtain ⟨a1_, a6_⟩ := a1_); (try obtain ⟨a1_, a7_⟩ := a1_); (try obtain ⟨a2_b1, a2_⟩ := a2_); (try obtain ⟨a2_b2, a2_⟩ := a2_); (try obtain ⟨a2_b3, a2_⟩ := a2_); (try obtain ⟨a2_b4, a2_⟩ := a2_); (try obtain ⟨a2_b5, a2_⟩ := a2_); (try obtain ⟨a3_b1, a3_⟩ := a3_); (try obtain ⟨a3_b2, a3_⟩ := a3_); (try obtain ⟨a3_b3, a3_⟩ := a3_); (try obtain ⟨a3_b4, a3_⟩ := a3_); (try obtain ⟨a3_b5, a3_⟩ := a3_); (try obtain ⟨a4_b1, a4_⟩ := a4_); (try obtain ⟨a4_b2, a4_⟩ := a4_); (try obtain ⟨a4_b3, a4_⟩ := a4_); (try obtain ⟨a4_b4, a4_⟩ := a4_); (try obtain ⟨a4_b5, a4_⟩ := a4_); (try obtain ⟨a5_b1, a5_⟩ := a5_); (try obtain ⟨a5_b2, a5_⟩ := a5_); (try obtain ⟨a5_b3, a5_⟩ := a5_); (try obtain ⟨a5_b4, a5_⟩ := a5_); (try obtain ⟨a5_b5, a5_⟩ := a5_); (try obtain ⟨a6_b1, a6_⟩ := a6_); (try obtain ⟨a6_b2, a6_⟩ := a6_); (try obtain ⟨a6_b3, a6_⟩ := a6_); (try obtain ⟨a6_b4, a6_⟩ := a6_); (try obtain ⟨a6_b5, a6_⟩ := a6_); (try obtain ⟨a7_b1, a7_⟩ := a7_); (try obtain ⟨a7_b2, a7_⟩ := a7_); (try obtain ⟨a7_b3, a7_⟩ := a7_); (try obtain ⟨a7_b4, a7_⟩ := a7_); (try obtain ⟨a7_b5, a7_⟩ := a7_); (repeat' apply And.intro) <;> first | assumption | exact fun e_ => NE_.out k_ ho_ e_.symm | exact fun e_ => NE_.out k_ e_.symm ho_)), by (with_reducible repeat (first | apply Kd.R_alloc | apply Kd.R_drewN | apply Kd.R_drew)); exact row_mono (Kd.R_far (p := ⟨gb240, 1, none⟩) (Kd.R_far (p := ⟨gb240, 0, none⟩) (Kd.R_types HO_240001.out BK240.out (by decide)) (fun _ hk => hk.2) (.slice Ao5 l0_0.length co5)) (fun _ hk => hk.2) (.slice Ao6 l0_1.length co6)) (fun k_ ho_ hk => by (obtain ⟨a1_, a2_⟩ := hk; (try obtain ⟨a1_, a3_⟩ := a1_); (try obtain ⟨a1_, a4_⟩ := a1_); (try obtain ⟨a1_, a5_⟩ := a1_); (try obtain ⟨a1_, a6_⟩ := a1_); (try obtain ⟨a1_, a7_⟩ := a1_); (try obtain ⟨a2_b1, a2_⟩ := a2_); (try obtain ⟨a2_b2, a2_⟩ := a2_); (try obtain ⟨a2_b3, a2_⟩ := a2_); (try obtain ⟨a2_b4, a2_⟩ := a2_); (try obtain ⟨a2_b5, a2_⟩ := a2_); (try obtain ⟨a3_b1, a3_⟩ := a3_); (try obtain ⟨a3_b2, a3_⟩ := a3_); (try obtain ⟨a3_b3, a3_⟩ := a3_); (try obtain ⟨a3_b4, a3_⟩ := a3_); (try obtain ⟨a3_b5, a3_⟩ := a3_); (try obtain ⟨a4_b1, a4_⟩ := a4_); (try obtain ⟨a4_b2, a4_⟩ := a4_); (try obtain ⟨a4_b3, a4_⟩ := a4_); (try obtain ⟨a4_b4, a4_⟩ := a4_); (try obtain ⟨a4_b5, a4_⟩ := a4_); (try obtain ⟨a5_b1, a5_⟩ := a5_); (try obtain ⟨a5_b2, a5_⟩ := a5_); (try obtain ⟨a5_b3, a5_⟩ := a5_); (try obtain ⟨a5_b4, a5_⟩ := a5_); (try obtain ⟨a5_b5, a5_⟩ := a5_); (try obtain ⟨a6_b1, a6_⟩ := a6_); (try obtain ⟨a6_b2, a6_⟩ := a6_); (try obtain ⟨a6_b3, a6_⟩ := a6_); (try obtain ⟨a6_b4, a6_⟩ := a6_); (try obtain ⟨a6_b5, a6_⟩ := a6_); (try obtain ⟨a7_b1, a7_⟩ := a7_); (try obtain ⟨a7_b2, a7_⟩ := a7_); (try obtain ⟨a7_b3, a7_⟩ := a7_); (try obtain ⟨a7_b4, a7_⟩ := a7_); (try obtain ⟨a7_b5, a7_⟩ := a7_); (repeat' apply And.intro) <;> first | assumption | exact fun e_ => NE_.out k_ ho_ e_.symm | exact fun e_ => NE_.out k_ e_.symm ho_)), by repeat (first | (with_reducible first | exact HB.out | apply below_alloc | apply pw_below_drewN | apply below_drew1 | refine below_set ?_ GE239.out | refine below_set ?_ GE240.out) | exact HB.out), by repeat (first | (with_reducible first | exact HK.out | apply Kept.alloc | apply Kept.drewN | apply Kept.drew | refine Kept.setCell ?_ (.inr GW239.out) _ | refine Kept.setCell ?_ (.inr GW240.out) _) | exact HK.out)⟩
      · replace c10 := Bool.eq_false_iff.mpr c10
        subst c10
        have H1 : ((ploverref14_place.f kj3 l0_0 l0_1 a1).bind fun bt241 => (if bt241.2 = true then ((ploverref14_cut.f l0_0 bt241.1 1 (([a1] : List Int))).bind fun t246 => ((ploverref14_cut.f l0_1 bt241.1 1 (([a2] : List Int))).bind fun t252 => (some (t246, t252, 0)))) else (if (l0_0.length : Int) ≥ 4096 then (some (l0_0, l0_1, 2)) else ((ploverref14_cut.f l0_0 bt241.1 0 (([a1] : List Int))).bind fun t258 => ((ploverref14_cut.f l0_1 bt241.1 0 (([a2] : List Int))).bind fun t264 => (some (t258, t264, 0))))))) = some (r1, r2, r3) := by rw [if_neg (show ¬ (false = true) by decide)] at H; exact H
        clear H
        have H := H1
        clear H1
        replace H := Option.bind_eq_some_iff.mp H
        obtain ⟨⟨t241, t242⟩, A140, H⟩ := H
        replace H : (if t242 = true then ((ploverref14_cut.f l0_0 t241 1 (([a1] : List Int))).bind fun t246 => ((ploverref14_cut.f l0_1 t241 1 (([a2] : List Int))).bind fun t252 => (some (t246, t252, 0)))) else (if (l0_0.length : Int) ≥ 4096 then (some (l0_0, l0_1, 2)) else ((ploverref14_cut.f l0_0 t241 0 (([a1] : List Int))).bind fun t258 => ((ploverref14_cut.f l0_1 t241 0 (([a2] : List Int))).bind fun t264 => (some (t258, t264, 0)))))) = some (r1, r2, r3) := H
        have A14 := Aside0.mk A140
        clear A140
        by_cases c15 : t242 = true
        · subst c15
          have H1 : ((ploverref14_cut.f l0_0 t241 1 (([a1] : List Int))).bind fun t246 => ((ploverref14_cut.f l0_1 t241 1 (([a2] : List Int))).bind fun t252 => (some (t246, t252, 0)))) = some (r1, r2, r3) := by rw [if_pos rfl] at H; exact H
          clear H
          have H := H1
          clear H1
          obtain ⟨y243, hy243⟩ : ∃ y_ : List Int, y_ = (([a1] : List Int)) := ⟨_, rfl⟩
          replace H : ((ploverref14_cut.f l0_0 t241 1 y243).bind fun t246 => ((ploverref14_cut.f l0_1 t241 1 (([a2] : List Int))).bind fun t252 => (some (t246, t252, 0)))) = some (r1, r2, r3) := by first | (rw [hy243]; with_reducible exact H) | (have H2_ := (Option.bind_some _ _).symm.trans H; rw [hy243]; with_reducible exact H2_) | (have H2_ := (Option.bind_some _ _).symm.trans H; with_reducible exact H2_) | with_reducible exact H | (rw [hy243]; exact H) | exact H
          have Ny243 := Aside0.mk hy243
          clear hy243
          replace H := Option.bind_eq_some_iff.mp H
          obtain ⟨t246, A160, H⟩ := H
          replace H : ((ploverref14_cut.f l0_1 t241 1 (([a2] : List Int))).bind fun t252 => (some (t246, t252, 0))) = some (r1, r2, r3) := H
          have A16 := Aside0.mk A160
          clear A160
          obtain ⟨y249, hy249⟩ : ∃ y_ : List Int, y_ = (([a2] : List Int)) := ⟨_, rfl⟩
          replace H : ((ploverref14_cut.f l0_1 t241 1 y249).bind fun t252 => (some (t246, t252, 0))) = some (r1, r2, r3) := by first | (rw [hy249]; with_reducible exact H) | (have H2_ := (Option.bind_some _ _).symm.trans H; rw [hy249]; with_reducible exact H2_) | (have H2_ := (Option.bind_some _ _).symm.trans H; with_reducible exact H2_) | with_reducible exact H | (rw [hy249]; exact H) | exact H
          have Ny249 := Aside0.mk hy249
          clear hy249
          replace H := Option.bind_eq_some_iff.mp H
          obtain ⟨t252, A170, H⟩ := H
          replace H : (some (t246, t252, 0)) = some (r1, r2, r3) := H
          have A17 := Aside0.mk A170
          clear A170
          simp only [Option.some.injEq, Prod.mk.injEq] at H
          obtain ⟨rfl, rfl, rfl⟩ := H
          have hnb18 := NB239_240.out
          have hnc18 := NB240_239.out
          have hcz19_0 : wc.cell? ⟨gb239, 0, none⟩ = some (.slice Ao5 l0_0.length co5) := (blk_cell BK239.out 0).trans rfl
          have hcz19_1 : wc.cell? ⟨gb239, 1, none⟩ = some (.slice Ao6 l0_1.length co6) := (blk_cell BK239.out 1).trans rfl
          have hfz19_0 := blk_frozen BK239.out 0
          have hfz19_1 := blk_frozen BK239.out 1
          try go_wp2_with (first | ((with_reducible refine gate_callee (f := 25) rfl ?_); refine goesL_ (some 21) rfl rfl Try.func25 (by kernel_rfl) rfl #[.agg #[.slice Ao5 l0_0.length co5, .slice Ao6 l0_1.length co6], .int .i64 a1] rfl (by (try simp only [List.map_toArray, List.map_cons, List.map_nil]); first | done | rfl | (simp only [List.length_drop, List.length_take]; rfl)) ?_; (with_reducible refine (ploverref14_place.calls kj3 _ _ l0_0 _ _ l0_1 a1 t241 true _ ?side1 ?side2 ?side3 ?side4 A14.out).mono ?_); (case side1 => repeat (first | exact (Kd.R_reads' HO_240000.out).2.2 | (with_reducible refine Kd.C_alloc ?_ _) | (with_reducible refine Kd.C_drewN ?_ _) | (with_reducible refine Kd.C_drew ?_))); (case side2 => exact (Kd.R_reads' HO_240000.out).2.1); (case side3 => repeat (first | exact (Kd.R_reads' HO_240001.out).2.2 | (with_reducible refine Kd.C_alloc ?_ _) | (with_reducible refine Kd.C_drewN ?_ _) | (with_reducible refine Kd.C_drew ?_))); (case side4 => exact (Kd.R_reads' HO_240001.out).2.1); rintro e w20 ⟨rfl, hb⟩; refine ⟨_, rfl, ?_⟩; have n0_ := Aside0.mk (Kd.R_below (by (with_reducible repeat (first | apply Kd.R_alloc | apply Kd.R_drewN | apply Kd.R_drew)); exact HO_240000.out) hb); have n1_ := Aside0.mk (Kd.R_below (by (with_reducible repeat (first | apply Kd.R_alloc | apply Kd.R_drewN | apply Kd.R_drew)); exact HO_240001.out) hb); have n2_ := Aside0.mk (blk_below (g := gb239) (o := .cells #[.slice Ao5 l0_0.length co5, .slice Ao6 l0_1.length co6] 40 (0, 0)) (by (with_reducible repeat (first | refine blk_drewN ?_ _ | refine blk_drew ?_ | refine blk_alloc ?_ _)); exact BK239.out) hb); have n3_ := Aside0.mk (blk_below (g := gb240) (o := .cells #[.slice none 0 0, .slice none 0 0] 40 (0, 0)) (by (with_reducible repeat (first | refine blk_drewN ?_ _ | refine blk_drew ?_ | refine blk_alloc ?_ _)); exact BK240.out) hb); have n4_ := Aside0.mk (Kept.below (S := (fun k_ => P0_0_ k_ ∨ P0_1_ k_)) (by repeat (first | (with_reducible first | exact HK.out | apply Kept.alloc | apply Kept.drewN | apply Kept.drew | refine Kept.setCell ?_ (.inr GW239.out) _ | refine Kept.setCell ?_ (.inr GW240.out) _) | exact HK.out)) hb); have n5_ := Aside0.mk (below_step (by repeat (first | (with_reducible first | exact HB.out | apply below_alloc | apply pw_below_drewN | apply below_drew1 | refine below_set ?_ GE239.out | refine below_set ?_ GE240.out) | exact HB.out)) hb); clear HO_240000; clear HO_240001; clear BK239; clear BK240; clear HK; clear HB; have HO_240000 := n0_; have HO_240001 := n1_; have BK239 := n2_; have BK240 := n3_; have HK := n4_; have HB := n5_; clear n0_ n1_ n2_ n3_ n4_ n5_; (try clear hb); (try clear hb2); (try clear hk); (try clear hi)))
          have n0_ := Aside0.mk (Kd.R_drew HO_240000.out)
          have n1_ := Aside0.mk (Kd.R_drew HO_240001.out)
          have n2_ := Aside0.mk (blk_drew BK239.out)
          have n3_ := Aside0.mk (blk_drew BK240.out)
          have n4_ := Aside0.mk (Kept.drew HK.out)
          have n5_ := Aside0.mk (below_drew1 HB.out)
          clear HO_240000
          clear HO_240001
          clear BK239
          clear BK240
          clear HK
          clear HB
          have HO_240000 := n0_
          have HO_240001 := n1_
          have BK239 := n2_
          have BK240 := n3_
          have HK := n4_
          have HB := n5_
          clear n0_ n1_ n2_ n3_ n4_ n5_
          refine start_ (n := 17) (S := fun w' => True) (ds := []) #[false, false, false, false, false, false, false, false, false, false, false, false, false, false, false, false, false] (by kernel_rfl) rfl rfl trivial (fun hHeld => ?_); refine with_tabW ploverref14_Set.tab9 ploverref14_Set.bits9 (fun HT_ HW_ => ?_)
          generalize w20.drew = w21 at HO_240000 HO_240001 BK239 BK240 HK HB hHeld ⊢
          refine pure_ (i := 0) (N := some 30) (v := ?_) (a' := ?_) #[true, false, false, false, false, false, false, false, false, false, false, false, false, false, false, false, false] rfl rfl (any_of HT_.out (by kernel_rfl)) (fun _ _ _ h => h) (Or.inl ⟨by rfl, ?_⟩) ?_ ?_
          rotate_left
          · intro w'
            go_simp
            with_reducible rfl
          rotate_left
          · simp only [Act.put, List.setIfInBounds_toArray, List.set_cons_zero, List.set_cons_succ, i64_w, i32_w]
            rfl
          refine pure_ (i := 2) (N := some 32) (v := ?_) (a' := ?_) #[true, false, true, false, false, false, false, false, false, false, false, false, false, false, false, false, false] rfl rfl (any_of HT_.out (by kernel_rfl)) (fun _ _ _ h => h) (Or.inl ⟨by rfl, ?_⟩) ?_ ?_
          rotate_left
          · intro w'
            go_simp
            with_reducible rfl
          rotate_left
          · simp only [Act.put, List.setIfInBounds_toArray, List.set_cons_zero, List.set_cons_succ, i64_w, i32_w]
            rfl
          refine pure_ (i := 3) (N := some 33) (v := ?_) (a' := ?_) #[true, false, true, true, false, false, false, false, false, false, false, false, false, false, false, false, false] rfl rfl (any_of HT_.out (by kernel_rfl)) (fun _ _ _ h => h) (Or.inl ⟨by rfl, ?_⟩) ?_ ?_
          rotate_left
          · intro w'
            go_simp
            with_reducible rfl
          rotate_left
          · simp only [Act.put, List.setIfInBounds_toArray, List.set_cons_zero, List.set_cons_succ, i64_w, i32_w]
            rfl
          refine pure_ (i := 4) (N := some 34) (v := ?_) (a' := ?_) #[true, false, true, true, true, false, false, false, false, false, false, false, false, false, false, false, false] rfl rfl (any_of HT_.out (by kernel_rfl)) (fun _ _ _ h => h) (Or.inl ⟨by rfl, ?_⟩) ?_ ?_
          rotate_left
          · intro w'
            go_simp
            with_reducible rfl
          rotate_left
          · simp only [Act.put, List.setIfInBounds_toArray, List.set_cons_zero, List.set_cons_succ, i64_w, i32_w]
            rfl
          refine pure_ (i := 7) (N := some 37) (v := ?_) (a' := ?_) #[true, false, true, true, true, false, false, true, false, false, false, false, false, false, false, false, false] rfl rfl (any_of HT_.out (by kernel_rfl)) (fun _ _ _ h => h) (Or.inl ⟨by rfl, ?_⟩) ?_ ?_
          rotate_left
          · intro w'
            go_simp
            with_reducible rfl
          rotate_left
          · simp only [Act.put, List.setIfInBounds_toArray, List.set_cons_zero, List.set_cons_succ, i64_w, i32_w]
            rfl
          refine pure_ (i := 9) (N := some 39) (v := ?_) (a' := ?_) #[true, false, true, true, true, false, false, true, false, true, false, false, false, false, false, false, false] rfl rfl (any_of HT_.out (by kernel_rfl)) (fun _ _ _ h => h) (Or.inl ⟨by rfl, ?_⟩) ?_ ?_
          rotate_left
          · intro w'
            go_simp
            with_reducible rfl
          rotate_left
          · simp only [Act.put, List.setIfInBounds_toArray, List.set_cons_zero, List.set_cons_succ, i64_w, i32_w]
            rfl
          refine pure_ (i := 10) (N := some 40) (v := ?_) (a' := ?_) #[true, false, true, true, true, false, false, true, false, true, true, false, false, false, false, false, false] rfl rfl (any_of HT_.out (by kernel_rfl)) (fun _ _ _ h => h) (Or.inl ⟨by rfl, ?_⟩) ?_ ?_
          rotate_left
          · intro w'
            go_simp
            with_reducible rfl
          rotate_left
          · simp only [Act.put, List.setIfInBounds_toArray, List.set_cons_zero, List.set_cons_succ, i64_w, i32_w]
            rfl
          refine pure_ (i := 11) (N := some 41) (v := ?_) (a' := ?_) #[true, false, true, true, true, false, false, true, false, true, true, true, false, false, false, false, false] rfl rfl (any_of HT_.out (by kernel_rfl)) (fun _ _ _ h => h) (Or.inl ⟨by rfl, ?_⟩) ?_ ?_
          rotate_left
          · intro w'
            go_simp
            with_reducible rfl
          rotate_left
          · simp only [Act.put, List.setIfInBounds_toArray, List.set_cons_zero, List.set_cons_succ, i64_w, i32_w]
            rfl
          refine inv_at [1, 5, 6, 8, 12, 13, 14, 15, 16] (fun a0_ b a w' => ∃ (v244 : Value) (v247 : Value) (v250 : Value) (v253 : Value) (m14_ : Value), a = putSel a0_ b [(1, 31, .slice Ao5 l0_0.length co5), (5, 35, v244), (6, 36, v247), (8, 38, .slice Ao6 l0_1.length co6), (12, 42, v250), (13, 43, v253), (14, 44, m14_), (16, 7, .int .i64 0)] ∧ (Kd.R (Kd.int .i64) 3 w' w0.heap.size (fun k_ => ((P0_0_ k_ ∨ P0_1_ k_) ∨ w.heap.size ≤ k_) ∧ some k_ ≠ (.slice Ao6 l0_1.length co6 : Value).ownBlock) (.slice Ao5 l0_0.length co5) l0_0) ∧ (Kd.R (Kd.int .i64) 3 w' w0.heap.size (fun k_ => ((P0_0_ k_ ∨ P0_1_ k_) ∨ w.heap.size ≤ k_) ∧ some k_ ≠ (.slice Ao5 l0_0.length co5 : Value).ownBlock) (.slice Ao6 l0_1.length co6) l0_1) ∧ (w'.heap[gb239]? = some (.cells #[.slice Ao5 l0_0.length co5, .slice Ao6 l0_1.length co6] 40 (0, 0))) ∧ (b 15 = false → w'.heap[gb240]? = some (.cells #[.slice none 0 0, .slice none 0 0] 40 (0, 0))) ∧ (Kept w w' (fun k_ => P0_0_ k_ ∨ P0_1_ k_)) ∧ (Below w0.heap.size w0 w') ∧ (b 5 = true → Kd.R (Kd.int .i64) 3 w' w0.heap.size (fun k_ => ((P0_0_ k_ ∨ P0_1_ k_) ∨ w.heap.size ≤ k_) ∧ some k_ ≠ (.slice Ao5 l0_0.length co5 : Value).ownBlock ∧ some k_ ≠ (.slice Ao6 l0_1.length co6 : Value).ownBlock) v244 y243) ∧ (b 6 = true → Kd.R (Kd.int .i64) 3 w' w0.heap.size (fun k_ => ((P0_0_ k_ ∨ P0_1_ k_) ∨ w.heap.size ≤ k_) ∧ some k_ ≠ (.slice Ao5 l0_0.length co5 : Value).ownBlock ∧ some k_ ≠ (.slice Ao6 l0_1.length co6 : Value).ownBlock) v247 t246) ∧ (b 12 = true → Kd.R (Kd.int .i64) 3 w' w0.heap.size (fun k_ => ((P0_0_ k_ ∨ P0_1_ k_) ∨ w.heap.size ≤ k_) ∧ some k_ ≠ (.slice Ao5 l0_0.length co5 : Value).ownBlock ∧ some k_ ≠ (.slice Ao6 l0_1.length co6 : Value).ownBlock) v250 y249) ∧ (b 13 = true → Kd.R (Kd.int .i64) 3 w' w0.heap.size (fun k_ => ((P0_0_ k_ ∨ P0_1_ k_) ∨ w.heap.size ≤ k_) ∧ some k_ ≠ (.slice Ao5 l0_0.length co5 : Value).ownBlock ∧ some k_ ≠ (.slice Ao6 l0_1.length co6 : Value).ownBlock) v253 t252) ∧ (b 15 = true → w'.heap[gb240]? = some (.cells #[v247, v253] 40 (0, 0))) ∧ (b 14 = true → (m14_ : Value) = .agg #[v247, v253]) ∧ (b 13 = true → ∀ k_, v247.ownBlock = some k_ → v253.ownBlock = some k_ → False)) HT_.out HW_.out (by kernel_rfl) (by kernel_rfl) ?_ ?_ ?_
          · exact ⟨.bool false, .bool false, .bool false, .bool false, .bool false, by simp only [putSel, Bool.false_eq_true, if_false], HO_240000.out, HO_240001.out, BK239.out, fun _ => BK240.out, HK.out, HB.out, fun h_ => absurd h_ (by decide), fun h_ => absurd h_ (by decide), fun h_ => absurd h_ (by decide), fun h_ => absurd h_ (by decide), fun h_ => absurd h_ (by decide), fun h_ => absurd h_ (by decide), fun h_ => absurd h_ (by decide)⟩
          · skip
            clear BK239 BK240 HB HK HO_240000 HO_240001
            refine steps_cons ?_ ?_
            · rintro b a w' ⟨v244, v247, v250, v253, m14_, ha, Q_HO_240000, Q_HO_240001, Q_BK239, Q_BK240, Q_HK, Q_HB, Q_HO245, Q_HO248, Q_HO251, Q_HO254, Q_BK240_e15, Q_X14_, Q_NE_⟩ hb_ hon hoff
              refine ⟨_, rfl, fun K hK => ?_⟩
              have e30 : a.tmps[30]? = some (.pointer (some ⟨gb239, 0, none⟩)) := by rw [ha]; exact (putSel_off rfl).trans rfl
              replace ha := Aside0.mk ha
              have HO_240000 := Aside0.mk Q_HO_240000
              have HO_240001 := Aside0.mk Q_HO_240001
              have BK239 := Aside0.mk Q_BK239
              have BK240 := Aside0.mk (Q_BK240 (hoff 15 (by kernel_rfl)))
              have HK := Aside0.mk Q_HK
              have HB := Aside0.mk Q_HB
              have hc0_ : w'.cell? ⟨gb239, 0, none⟩ = some (.slice Ao5 l0_0.length co5) := (blk_cell BK239.out 0).trans rfl
              have hc1_ : w'.cell? ⟨gb239, 1, none⟩ = some (.slice Ao6 l0_1.length co6) := (blk_cell BK239.out 1).trans rfl
              refine value_ (w1 := w') (v := .slice Ao5 l0_0.length co5) (by rfl) rfl ?_ ?_
              · go_simp
                (try simp only [i64_w])
                try rfl
              refine hK.out _ _ ⟨v244, v247, v250, v253, m14_, (by rw [ha.out]; exact putSel_upk 0 hb_ rfl rfl rfl), Q_HO_240000, Q_HO_240001, Q_BK239, Q_BK240, Q_HK, Q_HB, Q_HO245, fun h0_ => absurd ((hoff 6 (by kernel_rfl)).symm.trans h0_) (by decide), Q_HO251, fun h0_ => absurd ((hoff 13 (by kernel_rfl)).symm.trans h0_) (by decide), fun h0_ => absurd ((hoff 15 (by kernel_rfl)).symm.trans h0_) (by decide), fun h0_ => absurd ((hoff 14 (by kernel_rfl)).symm.trans h0_) (by decide), (by first | exact Q_NE_ | exact (fun _ => ne13_) | exact (fun h0_ => absurd ((hoff 13 (by kernel_rfl)).symm.trans h0_) (by decide)))⟩
            refine steps_cons ?_ ?_
            · rintro b a w' ⟨v244, v247, v250, v253, m14_, ha, Q_HO_240000, Q_HO_240001, Q_BK239, Q_BK240, Q_HK, Q_HB, Q_HO245, Q_HO248, Q_HO251, Q_HO254, Q_BK240_e15, Q_X14_, Q_NE_⟩ hb_ hon hoff
              refine ⟨_, rfl, fun K hK => ?_⟩
              have e34 : a.tmps[34]? = some (.int .i64 a1) := by rw [ha]; exact (putSel_off rfl).trans rfl
              replace ha := Aside0.mk ha
              have HO_240000 := Aside0.mk Q_HO_240000
              have HO_240001 := Aside0.mk Q_HO_240001
              have BK239 := Aside0.mk Q_BK239
              have BK240 := Aside0.mk (Q_BK240 (hoff 15 (by kernel_rfl)))
              have HK := Aside0.mk Q_HK
              have HB := Aside0.mk Q_HB
              refine Kd.R_lit_step (Kd.int .i64) _ 3 ?hg (N := 35) ?hd (xs := ([a1] : List Int)) (inner := [.int .i64 a1]) (ok := fun _ => True) (okp := fun _ => True) ?hr ?hp (fun _ hk => hk) trivial (Below.refl _ _) (Nat.le_refl _) (by simp) ?_; (case hd => rfl); (case hg => rfl); (case hr => first | (go_simp; done) | (go_simp; rfl)); (case hp => exact (Reps.one (show Kd.M (Kd.int .i64) _ _ _ a1 [.int .i64 a1] from rfl) (Reps.none _ _)))
              intro v244 w22 ho23 hb hg_ hnew_
              clear hg_ hnew_
              (first | rw [← Ny243.out] at ho23 | (simp only [Int.reduceToNat] at ho23; rw [← Ny243.out] at ho23))
              have n0_ := Aside0.mk (Kd.R_elder' (by (with_reducible repeat (first | apply Kd.R_alloc | apply Kd.R_drewN | apply Kd.R_drew)); exact HO_240000.out) (Kd.R_base ho23) hb)
              have n1_ := Aside0.mk (Kd.R_elder' (by (with_reducible repeat (first | apply Kd.R_alloc | apply Kd.R_drewN | apply Kd.R_drew)); exact HO_240001.out) (Kd.R_base ho23) hb)
              have n2_ := Aside0.mk (Kd.R_lower (Kd.R_new' (Kd.R_new' (Kd.R_newM (M := fun k_ => ((P0_0_ k_ ∨ P0_1_ k_) ∨ w.heap.size ≤ k_)) ho23 (by first | exact HK.out.1 | exact (show Kept w _ (fun k_ => P0_0_ k_ ∨ P0_1_ k_) from by repeat (first | (with_reducible first | exact HK.out | apply Kept.alloc | apply Kept.drewN | apply Kept.drew | refine Kept.setCell ?_ (.inr GW239.out) _ | refine Kept.setCell ?_ (.inr GW240.out) _) | exact HK.out)).1) (fun k_ h_ => .inr h_)) (Kd.R_lt (by (with_reducible repeat (first | apply Kd.R_alloc | apply Kd.R_drewN | apply Kd.R_drew)); exact HO_240000.out))) (Kd.R_lt (by (with_reducible repeat (first | apply Kd.R_alloc | apply Kd.R_drewN | apply Kd.R_drew)); exact HO_240001.out))) (below_size (by repeat (first | (with_reducible first | exact HB.out | apply below_alloc | apply pw_below_drewN | apply below_drew1 | refine below_set ?_ GE239.out | refine below_set ?_ GE240.out) | exact HB.out))))
              have n3_ := Aside0.mk (blk_below (g := gb239) (o := .cells #[.slice Ao5 l0_0.length co5, .slice Ao6 l0_1.length co6] 40 (0, 0)) (by (with_reducible repeat (first | refine blk_drewN ?_ _ | refine blk_drew ?_ | refine blk_alloc ?_ _)); exact BK239.out) hb)
              have n4_ := Aside0.mk (blk_below (g := gb240) (o := .cells #[.slice none 0 0, .slice none 0 0] 40 (0, 0)) (by (with_reducible repeat (first | refine blk_drewN ?_ _ | refine blk_drew ?_ | refine blk_alloc ?_ _)); exact BK240.out) hb)
              have n5_ := Aside0.mk (Kept.below (S := (fun k_ => P0_0_ k_ ∨ P0_1_ k_)) (by repeat (first | (with_reducible first | exact HK.out | apply Kept.alloc | apply Kept.drewN | apply Kept.drew | refine Kept.setCell ?_ (.inr GW239.out) _ | refine Kept.setCell ?_ (.inr GW240.out) _) | exact HK.out)) hb)
              have n6_ := Aside0.mk (below_step (by repeat (first | (with_reducible first | exact HB.out | apply below_alloc | apply pw_below_drewN | apply below_drew1 | refine below_set ?_ GE239.out | refine below_set ?_ GE240.out) | exact HB.out)) hb)
              have z_HO251 := fun (h0_ : b 12 = true) => (show Kd.R (Kd.int .i64) 3 w22 w0.heap.size (fun k_ => ((P0_0_ k_ ∨ P0_1_ k_) ∨ w.heap.size ≤ k_) ∧ some k_ ≠ (.slice Ao5 l0_0.length co5 : Value).ownBlock ∧ some k_ ≠ (.slice Ao6 l0_1.length co6 : Value).ownBlock) v250 y249 from by first | exact (Kd.R_elder' (by (with_reducible repeat (first | apply Kd.R_alloc | apply Kd.R_drewN | apply Kd.R_drew)); exact (Q_HO251 h0_)) (Kd.R_base ho23) hb) | exact Kd.R_mono (Kd.R_elder' (by (with_reducible repeat (first | apply Kd.R_alloc | apply Kd.R_drewN | apply Kd.R_drew)); exact (Q_HO251 h0_)) (Kd.R_base ho23) hb) (fun _ h_ => by first | trivial | exact h_ | exact h_.1))
              clear HO_240000
              clear HO_240001
              clear BK239
              clear BK240
              clear HK
              clear HB
              have HO_240000 := n0_
              have HO_240001 := n1_
              have HO245 := n2_
              have BK239 := n3_
              have BK240 := n4_
              have HK := n5_
              have HB := n6_
              clear n0_ n1_ n2_ n3_ n4_ n5_ n6_
              clear hb ho23
              refine hK.out _ _ ⟨v244, v247, v250, v253, m14_, (by rw [ha.out]; exact putSel_upk 1 hb_ rfl rfl rfl), (by (with_reducible repeat (first | apply Kd.R_alloc | apply Kd.R_drewN | apply Kd.R_drew)); exact Kd.R_mono HO_240000.out (fun _ hk => by (obtain ⟨a1_, a2_⟩ := hk; (try obtain ⟨a1_, a3_⟩ := a1_); (try obtain ⟨a1_, a4_⟩ := a1_); (try obtain ⟨a1_, a5_⟩ := a1_); (try obtain ⟨a1_, a6_⟩ := a1_); (try obtain ⟨a1_, a7_⟩ := a1_); (try obtain ⟨a2_b1, a2_⟩ := a2_); (try obtain ⟨a2_b2, a2_⟩ := a2_); (try obtain ⟨a2_b3, a2_⟩ := a2_); (try obtain ⟨a2_b4, a2_⟩ := a2_); (try obtain ⟨a2_b5, a2_⟩ := a2_); (try obtain ⟨a3_b1, a3_⟩ := a3_); (try obtain ⟨a3_b2, a3_⟩ := a3_); (try obtain ⟨a3_b3, a3_⟩ := a3_); (try obtain ⟨a3_b4, a3_⟩ := a3_); (try obtain ⟨a3_b5, a3_⟩ := a3_); (try obtain ⟨a4_b1, a4_⟩ := a4_); (try obtain ⟨a4_b2, a4_⟩ := a4_); (try obtain ⟨a4_b3, a4_⟩ := a4_); (try obtain ⟨a4_b4, a4_⟩ := a4_); (try obtain ⟨a4_b5, a4_⟩ := a4_); (try obtain ⟨a5_b1, a5_⟩ := a5_); (try obtain ⟨a5_b2, a5_⟩ := a5_); (try obtain ⟨a5_b3, a5_⟩ := a5_); (try obtain ⟨a5_b4, a5_⟩ := a5_); (try obtain ⟨a5_b5, a5_⟩ := a5_); (try obtain ⟨a6_b1, a6_⟩ := a6_); (try obtain ⟨a6_b2, a6_⟩ := a6_); (try obtain ⟨a6_b3, a6_⟩ := a6_); (try obtain ⟨a6_b4, a6_⟩ := a6_); (try obtain ⟨a6_b5, a6_⟩ := a6_); (try obtain ⟨a7_b1, a7_⟩ := a7_); (try obtain ⟨a7_b2, a7_⟩ := a7_); (try obtain ⟨a7_b3, a7_⟩ := a7_); (try obtain ⟨a7_b4, a7_⟩ := a7_); (try obtain ⟨a7_b5, a7_⟩ := a7_); (repeat' apply And.intro) <;> assumption))), (by (with_reducible repeat (first | apply Kd.R_alloc | apply Kd.R_drewN | apply Kd.R_drew)); exact Kd.R_mono HO_240001.out (fun _ hk => by (obtain ⟨a1_, a2_⟩ := hk; (try obtain ⟨a1_, a3_⟩ := a1_); (try obtain ⟨a1_, a4_⟩ := a1_); (try obtain ⟨a1_, a5_⟩ := a1_); (try obtain ⟨a1_, a6_⟩ := a1_); (try obtain ⟨a1_, a7_⟩ := a1_); (try obtain ⟨a2_b1, a2_⟩ := a2_); (try obtain ⟨a2_b2, a2_⟩ := a2_); (try obtain ⟨a2_b3, a2_⟩ := a2_); (try obtain ⟨a2_b4, a2_⟩ := a2_); (try obtain ⟨a2_b5, a2_⟩ := a2_); (try obtain ⟨a3_b1, a3_⟩ := a3_); (try obtain ⟨a3_b2, a3_⟩ := a3_); (try obtain ⟨a3_b3, a3_⟩ := a3_); (try obtain ⟨a3_b4, a3_⟩ := a3_); (try obtain ⟨a3_b5, a3_⟩ := a3_); (try obtain ⟨a4_b1, a4_⟩ := a4_); (try obtain ⟨a4_b2, a4_⟩ := a4_); (try obtain ⟨a4_b3, a4_⟩ := a4_); (try obtain ⟨a4_b4, a4_⟩ := a4_); (try obtain ⟨a4_b5, a4_⟩ := a4_); (try obtain ⟨a5_b1, a5_⟩ := a5_); (try obtain ⟨a5_b2, a5_⟩ := a5_); (try obtain ⟨a5_b3, a5_⟩ := a5_); (try obtain ⟨a5_b4, a5_⟩ := a5_); (try obtain ⟨a5_b5, a5_⟩ := a5_); (try obtain ⟨a6_b1, a6_⟩ := a6_); (try obtain ⟨a6_b2, a6_⟩ := a6_); (try obtain ⟨a6_b3, a6_⟩ := a6_); (try obtain ⟨a6_b4, a6_⟩ := a6_); (try obtain ⟨a6_b5, a6_⟩ := a6_); (try obtain ⟨a7_b1, a7_⟩ := a7_); (try obtain ⟨a7_b2, a7_⟩ := a7_); (try obtain ⟨a7_b3, a7_⟩ := a7_); (try obtain ⟨a7_b4, a7_⟩ := a7_); (try obtain ⟨a7_b5, a7_⟩ := a7_); (repeat' apply And.intro) <;> assumption))), (by (with_reducible repeat (first | refine blk_drewN ?_ _ | refine blk_drew ?_ | refine blk_alloc ?_ _)); exact BK239.out), fun _ => (by (with_reducible repeat (first | refine blk_drewN ?_ _ | refine blk_drew ?_ | refine blk_alloc ?_ _)); exact BK240.out), (by repeat (first | (with_reducible first | exact HK.out | apply Kept.alloc | apply Kept.drewN | apply Kept.drew | refine Kept.setCell ?_ (.inr GW239.out) _ | refine Kept.setCell ?_ (.inr GW240.out) _) | exact HK.out)), (by repeat (first | (with_reducible first | exact HB.out | apply below_alloc | apply pw_below_drewN | apply below_drew1 | refine below_set ?_ GE239.out | refine below_set ?_ GE240.out) | exact HB.out)), fun _ => (by (with_reducible repeat (first | apply Kd.R_alloc | apply Kd.R_drewN | apply Kd.R_drew)); exact Kd.R_mono HO245.out (fun _ hk => by (obtain ⟨a1_, a2_⟩ := hk; (try obtain ⟨a1_, a3_⟩ := a1_); (try obtain ⟨a1_, a4_⟩ := a1_); (try obtain ⟨a1_, a5_⟩ := a1_); (try obtain ⟨a1_, a6_⟩ := a1_); (try obtain ⟨a1_, a7_⟩ := a1_); (try obtain ⟨a2_b1, a2_⟩ := a2_); (try obtain ⟨a2_b2, a2_⟩ := a2_); (try obtain ⟨a2_b3, a2_⟩ := a2_); (try obtain ⟨a2_b4, a2_⟩ := a2_); (try obtain ⟨a2_b5, a2_⟩ := a2_); (try obtain ⟨a3_b1, a3_⟩ := a3_); (try obtain ⟨a3_b2, a3_⟩ := a3_); (try obtain ⟨a3_b3, a3_⟩ := a3_); (try obtain ⟨a3_b4, a3_⟩ := a3_); (try obtain ⟨a3_b5, a3_⟩ := a3_); (try obtain ⟨a4_b1, a4_⟩ := a4_); (try obtain ⟨a4_b2, a4_⟩ := a4_); (try obtain ⟨a4_b3, a4_⟩ := a4_); (try obtain ⟨a4_b4, a4_⟩ := a4_); (try obtain ⟨a4_b5, a4_⟩ := a4_); (try obtain ⟨a5_b1, a5_⟩ := a5_); (try obtain ⟨a5_b2, a5_⟩ := a5_); (try obtain ⟨a5_b3, a5_⟩ := a5_); (try obtain ⟨a5_b4, a5_⟩ := a5_); (try obtain ⟨a5_b5, a5_⟩ := a5_); (try obtain ⟨a6_b1, a6_⟩ := a6_); (try obtain ⟨a6_b2, a6_⟩ := a6_); (try obtain ⟨a6_b3, a6_⟩ := a6_); (try obtain ⟨a6_b4, a6_⟩ := a6_); (try obtain ⟨a6_b5, a6_⟩ := a6_); (try obtain ⟨a7_b1, a7_⟩ := a7_); (try obtain ⟨a7_b2, a7_⟩ := a7_); (try obtain ⟨a7_b3, a7_⟩ := a7_); (try obtain ⟨a7_b4, a7_⟩ := a7_); (try obtain ⟨a7_b5, a7_⟩ := a7_); (repeat' apply And.intro) <;> assumption))), fun h0_ => absurd ((hoff 6 (by kernel_rfl)).symm.trans h0_) (by decide), z_HO251, fun h0_ => absurd ((hoff 13 (by kernel_rfl)).symm.trans h0_) (by decide), fun h0_ => absurd ((hoff 15 (by kernel_rfl)).symm.trans h0_) (by decide), fun h0_ => absurd ((hoff 14 (by kernel_rfl)).symm.trans h0_) (by decide), (by first | exact Q_NE_ | exact (fun _ => ne13_) | exact (fun h0_ => absurd ((hoff 13 (by kernel_rfl)).symm.trans h0_) (by decide)))⟩
            refine steps_cons ?_ ?_
            · rintro b a w' ⟨v244, v247, v250, v253, m14_, ha, Q_HO_240000, Q_HO_240001, Q_BK239, Q_BK240, Q_HK, Q_HB, Q_HO245, Q_HO248, Q_HO251, Q_HO254, Q_BK240_e15, Q_X14_, Q_NE_⟩ hb_ hon hoff
              refine ⟨_, rfl, fun K hK => ?_⟩
              have e31 : a.tmps[31]? = some (.slice Ao5 l0_0.length co5) := by rw [ha]; exact putSel_on (e := (1, 31, .slice Ao5 l0_0.length co5)) 0 rfl rfl (hon 1 (by kernel_rfl)) rfl
              have e32 : a.tmps[32]? = some (.int .i64 t241) := by rw [ha]; exact (putSel_off rfl).trans rfl
              have e33 : a.tmps[33]? = some (.int .i64 1) := by rw [ha]; exact (putSel_off rfl).trans rfl
              have e35 : a.tmps[35]? = some (v244) := by rw [ha]; exact putSel_on (e := (5, 35, v244)) 1 rfl rfl (hon 5 (by kernel_rfl)) rfl
              replace ha := Aside0.mk ha
              have HO_240000 := Aside0.mk Q_HO_240000
              have HO_240001 := Aside0.mk Q_HO_240001
              have BK239 := Aside0.mk Q_BK239
              have BK240 := Aside0.mk (Q_BK240 (hoff 15 (by kernel_rfl)))
              have HK := Aside0.mk Q_HK
              have HB := Aside0.mk Q_HB
              have HO245 := Aside0.mk (Q_HO245 (hon 5 (by kernel_rfl)))
              obtain ⟨Ao25, co25, eo25⟩ := Kd.R_slice HO245.out
              (first | subst eo25 | (injection eo25 with f1_ f2_ f3_; have f4_ := f1_.symm; have f5_ := f3_.symm; clear f1_ f2_ f3_; subst f4_; subst f5_))
              refine goes_ Try.func26 (by kernel_rfl) rfl #[.slice Ao5 l0_0.length co5, .int .i64 t241, .int .i64 1, .slice Ao25 y243.length co25] (by rfl) rfl rfl (by first | (simp only [List.map_toArray, List.map_cons, List.map_nil, Act.eval, Array.getD_eq_getD_getElem?, Option.getD_some, e31, e32, e33, e35]; done) | (simp only [List.map_toArray, List.map_cons, List.map_nil, Act.eval, Array.getD_eq_getD_getElem?, Option.getD_some, e31, e32, e33, e35]; rfl)) ?_
              with_reducible refine (ploverref14_cut.calls _ _ l0_0 t241 1 _ _ y243 t246 _ ?side1 ?side2 ?side3 ?side4 A16.out).mono ?_
              (case side1 => repeat (first | exact (Kd.R_reads' HO_240000.out).2.2 | (with_reducible refine Kd.C_alloc ?_ _) | (with_reducible refine Kd.C_drewN ?_ _) | (with_reducible refine Kd.C_drew ?_)))
              (case side2 => exact (Kd.R_reads' HO_240000.out).2.1)
              (case side3 => repeat (first | exact (Kd.R_reads' HO245.out).2.2 | (with_reducible refine Kd.C_alloc ?_ _) | (with_reducible refine Kd.C_drewN ?_ _) | (with_reducible refine Kd.C_drew ?_)))
              (case side4 => exact (Kd.R_reads' HO245.out).2.1)
              rintro e w26 ⟨v247, rfl, ho0, hb⟩
              refine ⟨_, rfl, ?_⟩
              have n0_ := Aside0.mk (Kd.R_elder' (by (with_reducible repeat (first | apply Kd.R_alloc | apply Kd.R_drewN | apply Kd.R_drew)); exact HO_240000.out) (Kd.R_base ho0) hb)
              have n1_ := Aside0.mk (Kd.R_elder' (by (with_reducible repeat (first | apply Kd.R_alloc | apply Kd.R_drewN | apply Kd.R_drew)); exact HO_240001.out) (Kd.R_base ho0) hb)
              have n2_ := Aside0.mk (Kd.R_elder' (by (with_reducible repeat (first | apply Kd.R_alloc | apply Kd.R_drewN | apply Kd.R_drew)); exact HO245.out) (Kd.R_base ho0) hb)
              have n3_ := Aside0.mk (Kd.R_lower (Kd.R_new' (Kd.R_new' (Kd.R_new' (Kd.R_newM (M := fun k_ => ((P0_0_ k_ ∨ P0_1_ k_) ∨ w.heap.size ≤ k_)) ho0 (by first | exact HK.out.1 | exact (show Kept w _ (fun k_ => P0_0_ k_ ∨ P0_1_ k_) from by repeat (first | (with_reducible first | exact HK.out | apply Kept.alloc | apply Kept.drewN | apply Kept.drew | refine Kept.setCell ?_ (.inr GW239.out) _ | refine Kept.setCell ?_ (.inr GW240.out) _) | exact HK.out)).1) (fun k_ h_ => .inr h_)) (Kd.R_lt (by (with_reducible repeat (first | apply Kd.R_alloc | apply Kd.R_drewN | apply Kd.R_drew)); exact HO_240000.out))) (Kd.R_lt (by (with_reducible repeat (first | apply Kd.R_alloc | apply Kd.R_drewN | apply Kd.R_drew)); exact HO_240001.out))) (Kd.R_lt (by (with_reducible repeat (first | apply Kd.R_alloc | apply Kd.R_drewN | apply Kd.R_drew)); exact HO245.out))) (below_size (by repeat (first | (with_reducible first | exact HB.out | apply below_alloc | apply pw_below_drewN | apply below_drew1 | refine below_set ?_ GE239.out | refine below_set ?_ GE240.out) | exact HB.out))))
              have n4_ := Aside0.mk (blk_below (g := gb239) (o := .cells #[.slice Ao5 l0_0.length co5, .slice Ao6 l0_1.length co6] 40 (0, 0)) (by (with_reducible repeat (first | refine blk_drewN ?_ _ | refine blk_drew ?_ | refine blk_alloc ?_ _)); exact BK239.out) hb)
              have n5_ := Aside0.mk (blk_below (g := gb240) (o := .cells #[.slice none 0 0, .slice none 0 0] 40 (0, 0)) (by (with_reducible repeat (first | refine blk_drewN ?_ _ | refine blk_drew ?_ | refine blk_alloc ?_ _)); exact BK240.out) hb)
              have n6_ := Aside0.mk (Kept.below (S := (fun k_ => P0_0_ k_ ∨ P0_1_ k_)) (by repeat (first | (with_reducible first | exact HK.out | apply Kept.alloc | apply Kept.drewN | apply Kept.drew | refine Kept.setCell ?_ (.inr GW239.out) _ | refine Kept.setCell ?_ (.inr GW240.out) _) | exact HK.out)) hb)
              have n7_ := Aside0.mk (below_step (by repeat (first | (with_reducible first | exact HB.out | apply below_alloc | apply pw_below_drewN | apply below_drew1 | refine below_set ?_ GE239.out | refine below_set ?_ GE240.out) | exact HB.out)) hb)
              have z_HO251 := fun (h0_ : b 12 = true) => (show Kd.R (Kd.int .i64) 3 w26 w0.heap.size (fun k_ => ((P0_0_ k_ ∨ P0_1_ k_) ∨ w.heap.size ≤ k_) ∧ some k_ ≠ (.slice Ao5 l0_0.length co5 : Value).ownBlock ∧ some k_ ≠ (.slice Ao6 l0_1.length co6 : Value).ownBlock) v250 y249 from by first | exact (Kd.R_elder' (by (with_reducible repeat (first | apply Kd.R_alloc | apply Kd.R_drewN | apply Kd.R_drew)); exact (Q_HO251 h0_)) (Kd.R_base ho0) hb) | exact Kd.R_mono (Kd.R_elder' (by (with_reducible repeat (first | apply Kd.R_alloc | apply Kd.R_drewN | apply Kd.R_drew)); exact (Q_HO251 h0_)) (Kd.R_base ho0) hb) (fun _ h_ => by first | trivial | exact h_ | exact h_.1))
              clear HO_240000
              clear HO_240001
              clear HO245
              clear BK239
              clear BK240
              clear HK
              clear HB
              have HO_240000 := n0_
              have HO_240001 := n1_
              have HO245 := n2_
              have HO248 := n3_
              have BK239 := n4_
              have BK240 := n5_
              have HK := n6_
              have HB := n7_
              clear n0_ n1_ n2_ n3_ n4_ n5_ n6_ n7_
              (try clear hb)
              (try clear hb2)
              (try clear hk)
              (try clear hi)
              (try clear ho0)
              refine hK.out _ _ ⟨.slice Ao25 y243.length co25, v247, v250, v253, m14_, (by rw [ha.out]; exact putSel_upk 2 hb_ rfl rfl rfl), (by (with_reducible repeat (first | apply Kd.R_alloc | apply Kd.R_drewN | apply Kd.R_drew)); exact Kd.R_mono HO_240000.out (fun _ hk => by (obtain ⟨a1_, a2_⟩ := hk; (try obtain ⟨a1_, a3_⟩ := a1_); (try obtain ⟨a1_, a4_⟩ := a1_); (try obtain ⟨a1_, a5_⟩ := a1_); (try obtain ⟨a1_, a6_⟩ := a1_); (try obtain ⟨a1_, a7_⟩ := a1_); (try obtain ⟨a2_b1, a2_⟩ := a2_); (try obtain ⟨a2_b2, a2_⟩ := a2_); (try obtain ⟨a2_b3, a2_⟩ := a2_); (try obtain ⟨a2_b4, a2_⟩ := a2_); (try obtain ⟨a2_b5, a2_⟩ := a2_); (try obtain ⟨a3_b1, a3_⟩ := a3_); (try obtain ⟨a3_b2, a3_⟩ := a3_); (try obtain ⟨a3_b3, a3_⟩ := a3_); (try obtain ⟨a3_b4, a3_⟩ := a3_); (try obtain ⟨a3_b5, a3_⟩ := a3_); (try obtain ⟨a4_b1, a4_⟩ := a4_); (try obtain ⟨a4_b2, a4_⟩ := a4_); (try obtain ⟨a4_b3, a4_⟩ := a4_); (try obtain ⟨a4_b4, a4_⟩ := a4_); (try obtain ⟨a4_b5, a4_⟩ := a4_); (try obtain ⟨a5_b1, a5_⟩ := a5_); (try obtain ⟨a5_b2, a5_⟩ := a5_); (try obtain ⟨a5_b3, a5_⟩ := a5_); (try obtain ⟨a5_b4, a5_⟩ := a5_); (try obtain ⟨a5_b5, a5_⟩ := a5_); (try obtain ⟨a6_b1, a6_⟩ := a6_); (try obtain ⟨a6_b2, a6_⟩ := a6_); (try obtain ⟨a6_b3, a6_⟩ := a6_); (try obtain ⟨a6_b4, a6_⟩ := a6_); (try obtain ⟨a6_b5, a6_⟩ := a6_); (try obtain ⟨a7_b1, a7_⟩ := a7_); (try obtain ⟨a7_b2, a7_⟩ := a7_); (try obtain ⟨a7_b3, a7_⟩ := a7_); (try obtain ⟨a7_b4, a7_⟩ := a7_); (try obtain ⟨a7_b5, a7_⟩ := a7_); (repeat' apply And.intro) <;> assumption))), (by (with_reducible repeat (first | apply Kd.R_alloc | apply Kd.R_drewN | apply Kd.R_drew)); exact Kd.R_mono HO_240001.out (fun _ hk => by (obtain ⟨a1_, a2_⟩ := hk; (try obtain ⟨a1_, a3_⟩ := a1_); (try obtain ⟨a1_, a4_⟩ := a1_); (try obtain ⟨a1_, a5_⟩ := a1_); (try obtain ⟨a1_, a6_⟩ := a1_); (try obtain ⟨a1_, a7_⟩ := a1_); (try obtain ⟨a2_b1, a2_⟩ := a2_); (try obtain ⟨a2_b2, a2_⟩ := a2_); (try obtain ⟨a2_b3, a2_⟩ := a2_); (try obtain ⟨a2_b4, a2_⟩ := a2_); (try obtain ⟨a2_b5, a2_⟩ := a2_); (try obtain ⟨a3_b1, a3_⟩ := a3_); (try obtain ⟨a3_b2, a3_⟩ := a3_); (try obtain ⟨a3_b3, a3_⟩ := a3_); (try obtain ⟨a3_b4, a3_⟩ := a3_); (try obtain ⟨a3_b5, a3_⟩ := a3_); (try obtain ⟨a4_b1, a4_⟩ := a4_); (try obtain ⟨a4_b2, a4_⟩ := a4_); (try obtain ⟨a4_b3, a4_⟩ := a4_); (try obtain ⟨a4_b4, a4_⟩ := a4_); (try obtain ⟨a4_b5, a4_⟩ := a4_); (try obtain ⟨a5_b1, a5_⟩ := a5_); (try obtain ⟨a5_b2, a5_⟩ := a5_); (try obtain ⟨a5_b3, a5_⟩ := a5_); (try obtain ⟨a5_b4, a5_⟩ := a5_); (try obtain ⟨a5_b5, a5_⟩ := a5_); (try obtain ⟨a6_b1, a6_⟩ := a6_); (try obtain ⟨a6_b2, a6_⟩ := a6_); (try obtain ⟨a6_b3, a6_⟩ := a6_); (try obtain ⟨a6_b4, a6_⟩ := a6_); (try obtain ⟨a6_b5, a6_⟩ := a6_); (try obtain ⟨a7_b1, a7_⟩ := a7_); (try obtain ⟨a7_b2, a7_⟩ := a7_); (try obtain ⟨a7_b3, a7_⟩ := a7_); (try obtain ⟨a7_b4, a7_⟩ := a7_); (try obtain ⟨a7_b5, a7_⟩ := a7_); (repeat' apply And.intro) <;> assumption))), (by (with_reducible repeat (first | refine blk_drewN ?_ _ | refine blk_drew ?_ | refine blk_alloc ?_ _)); exact BK239.out), fun _ => (by (with_reducible repeat (first | refine blk_drewN ?_ _ | refine blk_drew ?_ | refine blk_alloc ?_ _)); exact BK240.out), (by repeat (first | (with_reducible first | exact HK.out | apply Kept.alloc | apply Kept.drewN | apply Kept.drew | refine Kept.setCell ?_ (.inr GW239.out) _ | refine Kept.setCell ?_ (.inr GW240.out) _) | exact HK.out)), (by repeat (first | (with_reducible first | exact HB.out | apply below_alloc | apply pw_below_drewN | apply below_drew1 | refine below_set ?_ GE239.out | refine below_set ?_ GE240.out) | exact HB.out)), fun _ => (by (with_reducible repeat (first | apply Kd.R_alloc | apply Kd.R_drewN | apply Kd.R_drew)); exact Kd.R_mono HO245.out (fun _ hk => by (obtain ⟨a1_, a2_⟩ := hk; (try obtain ⟨a1_, a3_⟩ := a1_); (try obtain ⟨a1_, a4_⟩ := a1_); (try obtain ⟨a1_, a5_⟩ := a1_); (try obtain ⟨a1_, a6_⟩ := a1_); (try obtain ⟨a1_, a7_⟩ := a1_); (try obtain ⟨a2_b1, a2_⟩ := a2_); (try obtain ⟨a2_b2, a2_⟩ := a2_); (try obtain ⟨a2_b3, a2_⟩ := a2_); (try obtain ⟨a2_b4, a2_⟩ := a2_); (try obtain ⟨a2_b5, a2_⟩ := a2_); (try obtain ⟨a3_b1, a3_⟩ := a3_); (try obtain ⟨a3_b2, a3_⟩ := a3_); (try obtain ⟨a3_b3, a3_⟩ := a3_); (try obtain ⟨a3_b4, a3_⟩ := a3_); (try obtain ⟨a3_b5, a3_⟩ := a3_); (try obtain ⟨a4_b1, a4_⟩ := a4_); (try obtain ⟨a4_b2, a4_⟩ := a4_); (try obtain ⟨a4_b3, a4_⟩ := a4_); (try obtain ⟨a4_b4, a4_⟩ := a4_); (try obtain ⟨a4_b5, a4_⟩ := a4_); (try obtain ⟨a5_b1, a5_⟩ := a5_); (try obtain ⟨a5_b2, a5_⟩ := a5_); (try obtain ⟨a5_b3, a5_⟩ := a5_); (try obtain ⟨a5_b4, a5_⟩ := a5_); (try obtain ⟨a5_b5, a5_⟩ := a5_); (try obtain ⟨a6_b1, a6_⟩ := a6_); (try obtain ⟨a6_b2, a6_⟩ := a6_); (try obtain ⟨a6_b3, a6_⟩ := a6_); (try obtain ⟨a6_b4, a6_⟩ := a6_); (try obtain ⟨a6_b5, a6_⟩ := a6_); (try obtain ⟨a7_b1, a7_⟩ := a7_); (try obtain ⟨a7_b2, a7_⟩ := a7_); (try obtain ⟨a7_b3, a7_⟩ := a7_); (try obtain ⟨a7_b4, a7_⟩ := a7_); (try obtain ⟨a7_b5, a7_⟩ := a7_); (repeat' apply And.intro) <;> assumption))), fun _ => (by (with_reducible repeat (first | apply Kd.R_alloc | apply Kd.R_drewN | apply Kd.R_drew)); exact Kd.R_mono HO248.out (fun _ hk => by (obtain ⟨a1_, a2_⟩ := hk; (try obtain ⟨a1_, a3_⟩ := a1_); (try obtain ⟨a1_, a4_⟩ := a1_); (try obtain ⟨a1_, a5_⟩ := a1_); (try obtain ⟨a1_, a6_⟩ := a1_); (try obtain ⟨a1_, a7_⟩ := a1_); (try obtain ⟨a2_b1, a2_⟩ := a2_); (try obtain ⟨a2_b2, a2_⟩ := a2_); (try obtain ⟨a2_b3, a2_⟩ := a2_); (try obtain ⟨a2_b4, a2_⟩ := a2_); (try obtain ⟨a2_b5, a2_⟩ := a2_); (try obtain ⟨a3_b1, a3_⟩ := a3_); (try obtain ⟨a3_b2, a3_⟩ := a3_); (try obtain ⟨a3_b3, a3_⟩ := a3_); (try obtain ⟨a3_b4, a3_⟩ := a3_); (try obtain ⟨a3_b5, a3_⟩ := a3_); (try obtain ⟨a4_b1, a4_⟩ := a4_); (try obtain ⟨a4_b2, a4_⟩ := a4_); (try obtain ⟨a4_b3, a4_⟩ := a4_); (try obtain ⟨a4_b4, a4_⟩ := a4_); (try obtain ⟨a4_b5, a4_⟩ := a4_); (try obtain ⟨a5_b1, a5_⟩ := a5_); (try obtain ⟨a5_b2, a5_⟩ := a5_); (try obtain ⟨a5_b3, a5_⟩ := a5_); (try obtain ⟨a5_b4, a5_⟩ := a5_); (try obtain ⟨a5_b5, a5_⟩ := a5_); (try obtain ⟨a6_b1, a6_⟩ := a6_); (try obtain ⟨a6_b2, a6_⟩ := a6_); (try obtain ⟨a6_b3, a6_⟩ := a6_); (try obtain ⟨a6_b4, a6_⟩ := a6_); (try obtain ⟨a6_b5, a6_⟩ := a6_); (try obtain ⟨a7_b1, a7_⟩ := a7_); (try obtain ⟨a7_b2, a7_⟩ := a7_); (try obtain ⟨a7_b3, a7_⟩ := a7_); (try obtain ⟨a7_b4, a7_⟩ := a7_); (try obtain ⟨a7_b5, a7_⟩ := a7_); (repeat' apply And.intro) <;> assumption))), z_HO251, fun h0_ => absurd ((hoff 13 (by kernel_rfl)).symm.trans h0_) (by decide), fun h0_ => absurd ((hoff 15 (by kernel_rfl)).symm.trans h0_) (by decide), fun h0_ => absurd ((hoff 14 (by kernel_rfl)).symm.trans h0_) (by decide), (by first | exact Q_NE_ | exact (fun _ => ne13_) | exact (fun h0_ => absurd ((hoff 13 (by kernel_rfl)).symm.trans h0_) (by decide)))⟩
            refine steps_cons ?_ ?_
            · rintro b a w' ⟨v244, v247, v250, v253, m14_, ha, Q_HO_240000, Q_HO_240001, Q_BK239, Q_BK240, Q_HK, Q_HB, Q_HO245, Q_HO248, Q_HO251, Q_HO254, Q_BK240_e15, Q_X14_, Q_NE_⟩ hb_ hon hoff
              refine ⟨_, rfl, fun K hK => ?_⟩
              have e37 : a.tmps[37]? = some (.pointer (some ⟨gb239, 1, none⟩)) := by rw [ha]; exact (putSel_off rfl).trans rfl
              replace ha := Aside0.mk ha
              have HO_240000 := Aside0.mk Q_HO_240000
              have HO_240001 := Aside0.mk Q_HO_240001
              have BK239 := Aside0.mk Q_BK239
              have BK240 := Aside0.mk (Q_BK240 (hoff 15 (by kernel_rfl)))
              have HK := Aside0.mk Q_HK
              have HB := Aside0.mk Q_HB
              have hc0_ : w'.cell? ⟨gb239, 0, none⟩ = some (.slice Ao5 l0_0.length co5) := (blk_cell BK239.out 0).trans rfl
              have hc1_ : w'.cell? ⟨gb239, 1, none⟩ = some (.slice Ao6 l0_1.length co6) := (blk_cell BK239.out 1).trans rfl
              refine value_ (w1 := w') (v := .slice Ao6 l0_1.length co6) (by rfl) rfl ?_ ?_
              · go_simp
                (try simp only [i64_w])
                try rfl
              refine hK.out _ _ ⟨v244, v247, v250, v253, m14_, (by rw [ha.out]; exact putSel_upk 3 hb_ rfl rfl rfl), Q_HO_240000, Q_HO_240001, Q_BK239, Q_BK240, Q_HK, Q_HB, Q_HO245, Q_HO248, Q_HO251, fun h0_ => absurd ((hoff 13 (by kernel_rfl)).symm.trans h0_) (by decide), fun h0_ => absurd ((hoff 15 (by kernel_rfl)).symm.trans h0_) (by decide), fun h0_ => absurd ((hoff 14 (by kernel_rfl)).symm.trans h0_) (by decide), (by first | exact Q_NE_ | exact (fun _ => ne13_) | exact (fun h0_ => absurd ((hoff 13 (by kernel_rfl)).symm.trans h0_) (by decide)))⟩
            refine steps_cons ?_ ?_
            · rintro b a w' ⟨v244, v247, v250, v253, m14_, ha, Q_HO_240000, Q_HO_240001, Q_BK239, Q_BK240, Q_HK, Q_HB, Q_HO245, Q_HO248, Q_HO251, Q_HO254, Q_BK240_e15, Q_X14_, Q_NE_⟩ hb_ hon hoff
              refine ⟨_, rfl, fun K hK => ?_⟩
              have e41 : a.tmps[41]? = some (.int .i64 a2) := by rw [ha]; exact (putSel_off rfl).trans rfl
              replace ha := Aside0.mk ha
              have HO_240000 := Aside0.mk Q_HO_240000
              have HO_240001 := Aside0.mk Q_HO_240001
              have BK239 := Aside0.mk Q_BK239
              have BK240 := Aside0.mk (Q_BK240 (hoff 15 (by kernel_rfl)))
              have HK := Aside0.mk Q_HK
              have HB := Aside0.mk Q_HB
              refine Kd.R_lit_step (Kd.int .i64) _ 3 ?hg (N := 42) ?hd (xs := ([a2] : List Int)) (inner := [.int .i64 a2]) (ok := fun _ => True) (okp := fun _ => True) ?hr ?hp (fun _ hk => hk) trivial (Below.refl _ _) (Nat.le_refl _) (by simp) ?_; (case hd => rfl); (case hg => rfl); (case hr => first | (go_simp; done) | (go_simp; rfl)); (case hp => exact (Reps.one (show Kd.M (Kd.int .i64) _ _ _ a2 [.int .i64 a2] from rfl) (Reps.none _ _)))
              intro v250 w22 ho23 hb hg_ hnew_
              clear hg_ hnew_
              (first | rw [← Ny249.out] at ho23 | (simp only [Int.reduceToNat] at ho23; rw [← Ny249.out] at ho23))
              have n0_ := Aside0.mk (Kd.R_elder' (by (with_reducible repeat (first | apply Kd.R_alloc | apply Kd.R_drewN | apply Kd.R_drew)); exact HO_240000.out) (Kd.R_base ho23) hb)
              have n1_ := Aside0.mk (Kd.R_elder' (by (with_reducible repeat (first | apply Kd.R_alloc | apply Kd.R_drewN | apply Kd.R_drew)); exact HO_240001.out) (Kd.R_base ho23) hb)
              have n2_ := Aside0.mk (Kd.R_lower (Kd.R_new' (Kd.R_new' (Kd.R_newM (M := fun k_ => ((P0_0_ k_ ∨ P0_1_ k_) ∨ w.heap.size ≤ k_)) ho23 (by first | exact HK.out.1 | exact (show Kept w _ (fun k_ => P0_0_ k_ ∨ P0_1_ k_) from by repeat (first | (with_reducible first | exact HK.out | apply Kept.alloc | apply Kept.drewN | apply Kept.drew | refine Kept.setCell ?_ (.inr GW239.out) _ | refine Kept.setCell ?_ (.inr GW240.out) _) | exact HK.out)).1) (fun k_ h_ => .inr h_)) (Kd.R_lt (by (with_reducible repeat (first | apply Kd.R_alloc | apply Kd.R_drewN | apply Kd.R_drew)); exact HO_240000.out))) (Kd.R_lt (by (with_reducible repeat (first | apply Kd.R_alloc | apply Kd.R_drewN | apply Kd.R_drew)); exact HO_240001.out))) (below_size (by repeat (first | (with_reducible first | exact HB.out | apply below_alloc | apply pw_below_drewN | apply below_drew1 | refine below_set ?_ GE239.out | refine below_set ?_ GE240.out) | exact HB.out))))
              have n3_ := Aside0.mk (blk_below (g := gb239) (o := .cells #[.slice Ao5 l0_0.length co5, .slice Ao6 l0_1.length co6] 40 (0, 0)) (by (with_reducible repeat (first | refine blk_drewN ?_ _ | refine blk_drew ?_ | refine blk_alloc ?_ _)); exact BK239.out) hb)
              have n4_ := Aside0.mk (blk_below (g := gb240) (o := .cells #[.slice none 0 0, .slice none 0 0] 40 (0, 0)) (by (with_reducible repeat (first | refine blk_drewN ?_ _ | refine blk_drew ?_ | refine blk_alloc ?_ _)); exact BK240.out) hb)
              have n5_ := Aside0.mk (Kept.below (S := (fun k_ => P0_0_ k_ ∨ P0_1_ k_)) (by repeat (first | (with_reducible first | exact HK.out | apply Kept.alloc | apply Kept.drewN | apply Kept.drew | refine Kept.setCell ?_ (.inr GW239.out) _ | refine Kept.setCell ?_ (.inr GW240.out) _) | exact HK.out)) hb)
              have n6_ := Aside0.mk (below_step (by repeat (first | (with_reducible first | exact HB.out | apply below_alloc | apply pw_below_drewN | apply below_drew1 | refine below_set ?_ GE239.out | refine below_set ?_ GE240.out) | exact HB.out)) hb)
              have z_HO245 := fun (h0_ : b 5 = true) => (show Kd.R (Kd.int .i64) 3 w22 w0.heap.size (fun k_ => ((P0_0_ k_ ∨ P0_1_ k_) ∨ w.heap.size ≤ k_) ∧ some k_ ≠ (.slice Ao5 l0_0.length co5 : Value).ownBlock ∧ some k_ ≠ (.slice Ao6 l0_1.length co6 : Value).ownBlock) v244 y243 from by first | exact (Kd.R_elder' (by (with_reducible repeat (first | apply Kd.R_alloc | apply Kd.R_drewN | apply Kd.R_drew)); exact (Q_HO245 h0_)) (Kd.R_base ho23) hb) | exact Kd.R_mono (Kd.R_elder' (by (with_reducible repeat (first | apply Kd.R_alloc | apply Kd.R_drewN | apply Kd.R_drew)); exact (Q_HO245 h0_)) (Kd.R_base ho23) hb) (fun _ h_ => by first | trivial | exact h_ | exact h_.1))
              have z_HO248 := fun (h0_ : b 6 = true) => (show Kd.R (Kd.int .i64) 3 w22 w0.heap.size (fun k_ => ((P0_0_ k_ ∨ P0_1_ k_) ∨ w.heap.size ≤ k_) ∧ some k_ ≠ (.slice Ao5 l0_0.length co5 : Value).ownBlock ∧ some k_ ≠ (.slice Ao6 l0_1.length co6 : Value).ownBlock) v247 t246 from by first | exact (Kd.R_elder' (by (with_reducible repeat (first | apply Kd.R_alloc | apply Kd.R_drewN | apply Kd.R_drew)); exact (Q_HO248 h0_)) (Kd.R_base ho23) hb) | exact Kd.R_mono (Kd.R_elder' (by (with_reducible repeat (first | apply Kd.R_alloc | apply Kd.R_drewN | apply Kd.R_drew)); exact (Q_HO248 h0_)) (Kd.R_base ho23) hb) (fun _ h_ => by first | trivial | exact h_ | exact h_.1))
              clear HO_240000
              clear HO_240001
              clear BK239
              clear BK240
              clear HK
              clear HB
              have HO_240000 := n0_
              have HO_240001 := n1_
              have HO251 := n2_
              have BK239 := n3_
              have BK240 := n4_
              have HK := n5_
              have HB := n6_
              clear n0_ n1_ n2_ n3_ n4_ n5_ n6_
              clear hb ho23
              refine hK.out _ _ ⟨v244, v247, v250, v253, m14_, (by rw [ha.out]; exact putSel_upk 4 hb_ rfl rfl rfl), (by (with_reducible repeat (first | apply Kd.R_alloc | apply Kd.R_drewN | apply Kd.R_drew)); exact Kd.R_mono HO_240000.out (fun _ hk => by (obtain ⟨a1_, a2_⟩ := hk; (try obtain ⟨a1_, a3_⟩ := a1_); (try obtain ⟨a1_, a4_⟩ := a1_); (try obtain ⟨a1_, a5_⟩ := a1_); (try obtain ⟨a1_, a6_⟩ := a1_); (try obtain ⟨a1_, a7_⟩ := a1_); (try obtain ⟨a2_b1, a2_⟩ := a2_); (try obtain ⟨a2_b2, a2_⟩ := a2_); (try obtain ⟨a2_b3, a2_⟩ := a2_); (try obtain ⟨a2_b4, a2_⟩ := a2_); (try obtain ⟨a2_b5, a2_⟩ := a2_); (try obtain ⟨a3_b1, a3_⟩ := a3_); (try obtain ⟨a3_b2, a3_⟩ := a3_); (try obtain ⟨a3_b3, a3_⟩ := a3_); (try obtain ⟨a3_b4, a3_⟩ := a3_); (try obtain ⟨a3_b5, a3_⟩ := a3_); (try obtain ⟨a4_b1, a4_⟩ := a4_); (try obtain ⟨a4_b2, a4_⟩ := a4_); (try obtain ⟨a4_b3, a4_⟩ := a4_); (try obtain ⟨a4_b4, a4_⟩ := a4_); (try obtain ⟨a4_b5, a4_⟩ := a4_); (try obtain ⟨a5_b1, a5_⟩ := a5_); (try obtain ⟨a5_b2, a5_⟩ := a5_); (try obtain ⟨a5_b3, a5_⟩ := a5_); (try obtain ⟨a5_b4, a5_⟩ := a5_); (try obtain ⟨a5_b5, a5_⟩ := a5_); (try obtain ⟨a6_b1, a6_⟩ := a6_); (try obtain ⟨a6_b2, a6_⟩ := a6_); (try obtain ⟨a6_b3, a6_⟩ := a6_); (try obtain ⟨a6_b4, a6_⟩ := a6_); (try obtain ⟨a6_b5, a6_⟩ := a6_); (try obtain ⟨a7_b1, a7_⟩ := a7_); (try obtain ⟨a7_b2, a7_⟩ := a7_); (try obtain ⟨a7_b3, a7_⟩ := a7_); (try obtain ⟨a7_b4, a7_⟩ := a7_); (try obtain ⟨a7_b5, a7_⟩ := a7_); (repeat' apply And.intro) <;> assumption))), (by (with_reducible repeat (first | apply Kd.R_alloc | apply Kd.R_drewN | apply Kd.R_drew)); exact Kd.R_mono HO_240001.out (fun _ hk => by (obtain ⟨a1_, a2_⟩ := hk; (try obtain ⟨a1_, a3_⟩ := a1_); (try obtain ⟨a1_, a4_⟩ := a1_); (try obtain ⟨a1_, a5_⟩ := a1_); (try obtain ⟨a1_, a6_⟩ := a1_); (try obtain ⟨a1_, a7_⟩ := a1_); (try obtain ⟨a2_b1, a2_⟩ := a2_); (try obtain ⟨a2_b2, a2_⟩ := a2_); (try obtain ⟨a2_b3, a2_⟩ := a2_); (try obtain ⟨a2_b4, a2_⟩ := a2_); (try obtain ⟨a2_b5, a2_⟩ := a2_); (try obtain ⟨a3_b1, a3_⟩ := a3_); (try obtain ⟨a3_b2, a3_⟩ := a3_); (try obtain ⟨a3_b3, a3_⟩ := a3_); (try obtain ⟨a3_b4, a3_⟩ := a3_); (try obtain ⟨a3_b5, a3_⟩ := a3_); (try obtain ⟨a4_b1, a4_⟩ := a4_); (try obtain ⟨a4_b2, a4_⟩ := a4_); (try obtain ⟨a4_b3, a4_⟩ := a4_); (try obtain ⟨a4_b4, a4_⟩ := a4_); (try obtain ⟨a4_b5, a4_⟩ := a4_); (try obtain ⟨a5_b1, a5_⟩ := a5_); (try obtain ⟨a5_b2, a5_⟩ := a5_); (try obtain ⟨a5_b3, a5_⟩ := a5_); (try obtain ⟨a5_b4, a5_⟩ := a5_); (try obtain ⟨a5_b5, a5_⟩ := a5_); (try obtain ⟨a6_b1, a6_⟩ := a6_); (try obtain ⟨a6_b2, a6_⟩ := a6_); (try obtain ⟨a6_b3, a6_⟩ := a6_); (try obtain ⟨a6_b4, a6_⟩ := a6_); (try obtain ⟨a6_b5, a6_⟩ := a6_); (try obtain ⟨a7_b1, a7_⟩ := a7_); (try obtain ⟨a7_b2, a7_⟩ := a7_); (try obtain ⟨a7_b3, a7_⟩ := a7_); (try obtain ⟨a7_b4, a7_⟩ := a7_); (try obtain ⟨a7_b5, a7_⟩ := a7_); (repeat' apply And.intro) <;> assumption))), (by (with_reducible repeat (first | refine blk_drewN ?_ _ | refine blk_drew ?_ | refine blk_alloc ?_ _)); exact BK239.out), fun _ => (by (with_reducible repeat (first | refine blk_drewN ?_ _ | refine blk_drew ?_ | refine blk_alloc ?_ _)); exact BK240.out), (by repeat (first | (with_reducible first | exact HK.out | apply Kept.alloc | apply Kept.drewN | apply Kept.drew | refine Kept.setCell ?_ (.inr GW239.out) _ | refine Kept.setCell ?_ (.inr GW240.out) _) | exact HK.out)), (by repeat (first | (with_reducible first | exact HB.out | apply below_alloc | apply pw_below_drewN | apply below_drew1 | refine below_set ?_ GE239.out | refine below_set ?_ GE240.out) | exact HB.out)), z_HO245, z_HO248, fun _ => (by (with_reducible repeat (first | apply Kd.R_alloc | apply Kd.R_drewN | apply Kd.R_drew)); exact Kd.R_mono HO251.out (fun _ hk => by (obtain ⟨a1_, a2_⟩ := hk; (try obtain ⟨a1_, a3_⟩ := a1_); (try obtain ⟨a1_, a4_⟩ := a1_); (try obtain ⟨a1_, a5_⟩ := a1_); (try obtain ⟨a1_, a6_⟩ := a1_); (try obtain ⟨a1_, a7_⟩ := a1_); (try obtain ⟨a2_b1, a2_⟩ := a2_); (try obtain ⟨a2_b2, a2_⟩ := a2_); (try obtain ⟨a2_b3, a2_⟩ := a2_); (try obtain ⟨a2_b4, a2_⟩ := a2_); (try obtain ⟨a2_b5, a2_⟩ := a2_); (try obtain ⟨a3_b1, a3_⟩ := a3_); (try obtain ⟨a3_b2, a3_⟩ := a3_); (try obtain ⟨a3_b3, a3_⟩ := a3_); (try obtain ⟨a3_b4, a3_⟩ := a3_); (try obtain ⟨a3_b5, a3_⟩ := a3_); (try obtain ⟨a4_b1, a4_⟩ := a4_); (try obtain ⟨a4_b2, a4_⟩ := a4_); (try obtain ⟨a4_b3, a4_⟩ := a4_); (try obtain ⟨a4_b4, a4_⟩ := a4_); (try obtain ⟨a4_b5, a4_⟩ := a4_); (try obtain ⟨a5_b1, a5_⟩ := a5_); (try obtain ⟨a5_b2, a5_⟩ := a5_); (try obtain ⟨a5_b3, a5_⟩ := a5_); (try obtain ⟨a5_b4, a5_⟩ := a5_); (try obtain ⟨a5_b5, a5_⟩ := a5_); (try obtain ⟨a6_b1, a6_⟩ := a6_); (try obtain ⟨a6_b2, a6_⟩ := a6_); (try obtain ⟨a6_b3, a6_⟩ := a6_); (try obtain ⟨a6_b4, a6_⟩ := a6_); (try obtain ⟨a6_b5, a6_⟩ := a6_); (try obtain ⟨a7_b1, a7_⟩ := a7_); (try obtain ⟨a7_b2, a7_⟩ := a7_); (try obtain ⟨a7_b3, a7_⟩ := a7_); (try obtain ⟨a7_b4, a7_⟩ := a7_); (try obtain ⟨a7_b5, a7_⟩ := a7_); (repeat' apply And.intro) <;> assumption))), fun h0_ => absurd ((hoff 13 (by kernel_rfl)).symm.trans h0_) (by decide), fun h0_ => absurd ((hoff 15 (by kernel_rfl)).symm.trans h0_) (by decide), fun h0_ => absurd ((hoff 14 (by kernel_rfl)).symm.trans h0_) (by decide), (by first | exact Q_NE_ | exact (fun _ => ne13_) | exact (fun h0_ => absurd ((hoff 13 (by kernel_rfl)).symm.trans h0_) (by decide)))⟩
            refine steps_cons ?_ ?_
            · rintro b a w' ⟨v244, v247, v250, v253, m14_, ha, Q_HO_240000, Q_HO_240001, Q_BK239, Q_BK240, Q_HK, Q_HB, Q_HO245, Q_HO248, Q_HO251, Q_HO254, Q_BK240_e15, Q_X14_, Q_NE_⟩ hb_ hon hoff
              refine ⟨_, rfl, fun K hK => ?_⟩
              have e38 : a.tmps[38]? = some (.slice Ao6 l0_1.length co6) := by rw [ha]; exact putSel_on (e := (8, 38, .slice Ao6 l0_1.length co6)) 3 rfl rfl (hon 8 (by kernel_rfl)) rfl
              have e39 : a.tmps[39]? = some (.int .i64 t241) := by rw [ha]; exact (putSel_off rfl).trans rfl
              have e40 : a.tmps[40]? = some (.int .i64 1) := by rw [ha]; exact (putSel_off rfl).trans rfl
              have e42 : a.tmps[42]? = some (v250) := by rw [ha]; exact putSel_on (e := (12, 42, v250)) 4 rfl rfl (hon 12 (by kernel_rfl)) rfl
              replace ha := Aside0.mk ha
              have HO_240000 := Aside0.mk Q_HO_240000
              have HO_240001 := Aside0.mk Q_HO_240001
              have BK239 := Aside0.mk Q_BK239
              have BK240 := Aside0.mk (Q_BK240 (hoff 15 (by kernel_rfl)))
              have HK := Aside0.mk Q_HK
              have HB := Aside0.mk Q_HB
              have HO245 := Aside0.mk (Q_HO245 (hon 5 (by kernel_rfl)))
              have HO248 := Aside0.mk (Q_HO248 (hon 6 (by kernel_rfl)))
              have HO251 := Aside0.mk (Q_HO251 (hon 12 (by kernel_rfl)))
              obtain ⟨Ao29, co29, eo29⟩ := Kd.R_slice HO251.out
              (first | subst eo29 | (injection eo29 with f1_ f2_ f3_; have f4_ := f1_.symm; have f5_ := f3_.symm; clear f1_ f2_ f3_; subst f4_; subst f5_))
              refine goes_ Try.func26 (by kernel_rfl) rfl #[.slice Ao6 l0_1.length co6, .int .i64 t241, .int .i64 1, .slice Ao29 y249.length co29] (by rfl) rfl rfl (by first | (simp only [List.map_toArray, List.map_cons, List.map_nil, Act.eval, Array.getD_eq_getD_getElem?, Option.getD_some, e38, e39, e40, e42]; done) | (simp only [List.map_toArray, List.map_cons, List.map_nil, Act.eval, Array.getD_eq_getD_getElem?, Option.getD_some, e38, e39, e40, e42]; rfl)) ?_
              with_reducible refine (ploverref14_cut.calls _ _ l0_1 t241 1 _ _ y249 t252 _ ?side1 ?side2 ?side3 ?side4 A17.out).mono ?_
              (case side1 => repeat (first | exact (Kd.R_reads' HO_240001.out).2.2 | (with_reducible refine Kd.C_alloc ?_ _) | (with_reducible refine Kd.C_drewN ?_ _) | (with_reducible refine Kd.C_drew ?_)))
              (case side2 => exact (Kd.R_reads' HO_240001.out).2.1)
              (case side3 => repeat (first | exact (Kd.R_reads' HO251.out).2.2 | (with_reducible refine Kd.C_alloc ?_ _) | (with_reducible refine Kd.C_drewN ?_ _) | (with_reducible refine Kd.C_drew ?_)))
              (case side4 => exact (Kd.R_reads' HO251.out).2.1)
              rintro e w30 ⟨v253, rfl, ho0, hb⟩
              have ne13_ : ∀ k_, v247.ownBlock = some k_ → v253.ownBlock = some k_ → False := fun k_ h1_ h2_ => by have x1_ := Kd.R_lt HO248.out k_ h1_; have x2_ := Kd.R_base ho0 k_ h2_; (try simp at x2_); omega
              refine ⟨_, rfl, ?_⟩
              have n0_ := Aside0.mk (Kd.R_elder' (by (with_reducible repeat (first | apply Kd.R_alloc | apply Kd.R_drewN | apply Kd.R_drew)); exact HO_240000.out) (Kd.R_base ho0) hb)
              have n1_ := Aside0.mk (Kd.R_elder' (by (with_reducible repeat (first | apply Kd.R_alloc | apply Kd.R_drewN | apply Kd.R_drew)); exact HO_240001.out) (Kd.R_base ho0) hb)
              have n2_ := Aside0.mk (Kd.R_elder' (by (with_reducible repeat (first | apply Kd.R_alloc | apply Kd.R_drewN | apply Kd.R_drew)); exact HO245.out) (Kd.R_base ho0) hb)
              have n3_ := Aside0.mk (Kd.R_elder' (by (with_reducible repeat (first | apply Kd.R_alloc | apply Kd.R_drewN | apply Kd.R_drew)); exact HO248.out) (Kd.R_base ho0) hb)
              have n4_ := Aside0.mk (Kd.R_elder' (by (with_reducible repeat (first | apply Kd.R_alloc | apply Kd.R_drewN | apply Kd.R_drew)); exact HO251.out) (Kd.R_base ho0) hb)
              have n5_ := Aside0.mk (Kd.R_lower (Kd.R_new' (Kd.R_new' (Kd.R_new' (Kd.R_new' (Kd.R_new' (Kd.R_newM (M := fun k_ => ((P0_0_ k_ ∨ P0_1_ k_) ∨ w.heap.size ≤ k_)) ho0 (by first | exact HK.out.1 | exact (show Kept w _ (fun k_ => P0_0_ k_ ∨ P0_1_ k_) from by repeat (first | (with_reducible first | exact HK.out | apply Kept.alloc | apply Kept.drewN | apply Kept.drew | refine Kept.setCell ?_ (.inr GW239.out) _ | refine Kept.setCell ?_ (.inr GW240.out) _) | exact HK.out)).1) (fun k_ h_ => .inr h_)) (Kd.R_lt (by (with_reducible repeat (first | apply Kd.R_alloc | apply Kd.R_drewN | apply Kd.R_drew)); exact HO_240000.out))) (Kd.R_lt (by (with_reducible repeat (first | apply Kd.R_alloc | apply Kd.R_drewN | apply Kd.R_drew)); exact HO_240001.out))) (Kd.R_lt (by (with_reducible repeat (first | apply Kd.R_alloc | apply Kd.R_drewN | apply Kd.R_drew)); exact HO245.out))) (Kd.R_lt (by (with_reducible repeat (first | apply Kd.R_alloc | apply Kd.R_drewN | apply Kd.R_drew)); exact HO248.out))) (Kd.R_lt (by (with_reducible repeat (first | apply Kd.R_alloc | apply Kd.R_drewN | apply Kd.R_drew)); exact HO251.out))) (below_size (by repeat (first | (with_reducible first | exact HB.out | apply below_alloc | apply pw_below_drewN | apply below_drew1 | refine below_set ?_ GE239.out | refine below_set ?_ GE240.out) | exact HB.out))))
              have n6_ := Aside0.mk (blk_below (g := gb239) (o := .cells #[.slice Ao5 l0_0.length co5, .slice Ao6 l0_1.length co6] 40 (0, 0)) (by (with_reducible repeat (first | refine blk_drewN ?_ _ | refine blk_drew ?_ | refine blk_alloc ?_ _)); exact BK239.out) hb)
              have n7_ := Aside0.mk (blk_below (g := gb240) (o := .cells #[.slice none 0 0, .slice none 0 0] 40 (0, 0)) (by (with_reducible repeat (first | refine blk_drewN ?_ _ | refine blk_drew ?_ | refine blk_alloc ?_ _)); exact BK240.out) hb)
              have n8_ := Aside0.mk (Kept.below (S := (fun k_ => P0_0_ k_ ∨ P0_1_ k_)) (by repeat (first | (with_reducible first | exact HK.out | apply Kept.alloc | apply Kept.drewN | apply Kept.drew | refine Kept.setCell ?_ (.inr GW239.out) _ | refine Kept.setCell ?_ (.inr GW240.out) _) | exact HK.out)) hb)
              have n9_ := Aside0.mk (below_step (by repeat (first | (with_reducible first | exact HB.out | apply below_alloc | apply pw_below_drewN | apply below_drew1 | refine below_set ?_ GE239.out | refine below_set ?_ GE240.out) | exact HB.out)) hb)
              clear HO_240000
              clear HO_240001
              clear HO245
              clear HO248
              clear HO251
              clear BK239
              clear BK240
              clear HK
              clear HB
              have HO_240000 := n0_
              have HO_240001 := n1_
              have HO245 := n2_
              have HO248 := n3_
              have HO251 := n4_
              have HO254 := n5_
              have BK239 := n6_
              have BK240 := n7_
              have HK := n8_
              have HB := n9_
              clear n0_ n1_ n2_ n3_ n4_ n5_ n6_ n7_ n8_ n9_
              (try clear hb)
              (try clear hb2)
              (try clear hk)
              (try clear hi)
              (try clear ho0)
              obtain ⟨Ao31, co31, eo31⟩ := Kd.R_slice HO254.out
              (first | subst eo31 | (injection eo31 with f1_ f2_ f3_; have f4_ := f1_.symm; have f5_ := f3_.symm; clear f1_ f2_ f3_; subst f4_; subst f5_))
              obtain ⟨Ao32, co32, eo32⟩ := Kd.R_slice HO248.out
              (first | subst eo32 | (injection eo32 with f1_ f2_ f3_; have f4_ := f1_.symm; have f5_ := f3_.symm; clear f1_ f2_ f3_; subst f4_; subst f5_))
              refine hK.out _ _ ⟨v244, .slice Ao32 t246.length co32, .slice Ao29 y249.length co29, .slice Ao31 t252.length co31, m14_, (by rw [ha.out]; exact putSel_upk 5 hb_ rfl rfl rfl), (by (with_reducible repeat (first | apply Kd.R_alloc | apply Kd.R_drewN | apply Kd.R_drew)); exact Kd.R_mono HO_240000.out (fun _ hk => by (obtain ⟨a1_, a2_⟩ := hk; (try obtain ⟨a1_, a3_⟩ := a1_); (try obtain ⟨a1_, a4_⟩ := a1_); (try obtain ⟨a1_, a5_⟩ := a1_); (try obtain ⟨a1_, a6_⟩ := a1_); (try obtain ⟨a1_, a7_⟩ := a1_); (try obtain ⟨a2_b1, a2_⟩ := a2_); (try obtain ⟨a2_b2, a2_⟩ := a2_); (try obtain ⟨a2_b3, a2_⟩ := a2_); (try obtain ⟨a2_b4, a2_⟩ := a2_); (try obtain ⟨a2_b5, a2_⟩ := a2_); (try obtain ⟨a3_b1, a3_⟩ := a3_); (try obtain ⟨a3_b2, a3_⟩ := a3_); (try obtain ⟨a3_b3, a3_⟩ := a3_); (try obtain ⟨a3_b4, a3_⟩ := a3_); (try obtain ⟨a3_b5, a3_⟩ := a3_); (try obtain ⟨a4_b1, a4_⟩ := a4_); (try obtain ⟨a4_b2, a4_⟩ := a4_); (try obtain ⟨a4_b3, a4_⟩ := a4_); (try obtain ⟨a4_b4, a4_⟩ := a4_); (try obtain ⟨a4_b5, a4_⟩ := a4_); (try obtain ⟨a5_b1, a5_⟩ := a5_); (try obtain ⟨a5_b2, a5_⟩ := a5_); (try obtain ⟨a5_b3, a5_⟩ := a5_); (try obtain ⟨a5_b4, a5_⟩ := a5_); (try obtain ⟨a5_b5, a5_⟩ := a5_); (try obtain ⟨a6_b1, a6_⟩ := a6_); (try obtain ⟨a6_b2, a6_⟩ := a6_); (try obtain ⟨a6_b3, a6_⟩ := a6_); (try obtain ⟨a6_b4, a6_⟩ := a6_); (try obtain ⟨a6_b5, a6_⟩ := a6_); (try obtain ⟨a7_b1, a7_⟩ := a7_); (try obtain ⟨a7_b2, a7_⟩ := a7_); (try obtain ⟨a7_b3, a7_⟩ := a7_); (try obtain ⟨a7_b4, a7_⟩ := a7_); (try obtain ⟨a7_b5, a7_⟩ := a7_); (repeat' apply And.intro) <;> assumption))), (by (with_reducible repeat (first | apply Kd.R_alloc | apply Kd.R_drewN | apply Kd.R_drew)); exact Kd.R_mono HO_240001.out (fun _ hk => by (obtain ⟨a1_, a2_⟩ := hk; (try obtain ⟨a1_, a3_⟩ := a1_); (try obtain ⟨a1_, a4_⟩ := a1_); (try obtain ⟨a1_, a5_⟩ := a1_); (try obtain ⟨a1_, a6_⟩ := a1_); (try obtain ⟨a1_, a7_⟩ := a1_); (try obtain ⟨a2_b1, a2_⟩ := a2_); (try obtain ⟨a2_b2, a2_⟩ := a2_); (try obtain ⟨a2_b3, a2_⟩ := a2_); (try obtain ⟨a2_b4, a2_⟩ := a2_); (try obtain ⟨a2_b5, a2_⟩ := a2_); (try obtain ⟨a3_b1, a3_⟩ := a3_); (try obtain ⟨a3_b2, a3_⟩ := a3_); (try obtain ⟨a3_b3, a3_⟩ := a3_); (try obtain ⟨a3_b4, a3_⟩ := a3_); (try obtain ⟨a3_b5, a3_⟩ := a3_); (try obtain ⟨a4_b1, a4_⟩ := a4_); (try obtain ⟨a4_b2, a4_⟩ := a4_); (try obtain ⟨a4_b3, a4_⟩ := a4_); (try obtain ⟨a4_b4, a4_⟩ := a4_); (try obtain ⟨a4_b5, a4_⟩ := a4_); (try obtain ⟨a5_b1, a5_⟩ := a5_); (try obtain ⟨a5_b2, a5_⟩ := a5_); (try obtain ⟨a5_b3, a5_⟩ := a5_); (try obtain ⟨a5_b4, a5_⟩ := a5_); (try obtain ⟨a5_b5, a5_⟩ := a5_); (try obtain ⟨a6_b1, a6_⟩ := a6_); (try obtain ⟨a6_b2, a6_⟩ := a6_); (try obtain ⟨a6_b3, a6_⟩ := a6_); (try obtain ⟨a6_b4, a6_⟩ := a6_); (try obtain ⟨a6_b5, a6_⟩ := a6_); (try obtain ⟨a7_b1, a7_⟩ := a7_); (try obtain ⟨a7_b2, a7_⟩ := a7_); (try obtain ⟨a7_b3, a7_⟩ := a7_); (try obtain ⟨a7_b4, a7_⟩ := a7_); (try obtain ⟨a7_b5, a7_⟩ := a7_); (repeat' apply And.intro) <;> assumption))), (by (with_reducible repeat (first | refine blk_drewN ?_ _ | refine blk_drew ?_ | refine blk_alloc ?_ _)); exact BK239.out), fun _ => (by (with_reducible repeat (first | refine blk_drewN ?_ _ | refine blk_drew ?_ | refine blk_alloc ?_ _)); exact BK240.out), (by repeat (first | (with_reducible first | exact HK.out | apply Kept.alloc | apply Kept.drewN | apply Kept.drew | refine Kept.setCell ?_ (.inr GW239.out) _ | refine Kept.setCell ?_ (.inr GW240.out) _) | exact HK.out)), (by repeat (first | (with_reducible first | exact HB.out | apply below_alloc | apply pw_below_drewN | apply below_drew1 | refine below_set ?_ GE239.out | refine below_set ?_ GE240.out) | exact HB.out)), fun _ => (by (with_reducible repeat (first | apply Kd.R_alloc | apply Kd.R_drewN | apply Kd.R_drew)); exact Kd.R_mono HO245.out (fun _ hk => by (obtain ⟨a1_, a2_⟩ := hk; (try obtain ⟨a1_, a3_⟩ := a1_); (try obtain ⟨a1_, a4_⟩ := a1_); (try obtain ⟨a1_, a5_⟩ := a1_); (try obtain ⟨a1_, a6_⟩ := a1_); (try obtain ⟨a1_, a7_⟩ := a1_); (try obtain ⟨a2_b1, a2_⟩ := a2_); (try obtain ⟨a2_b2, a2_⟩ := a2_); (try obtain ⟨a2_b3, a2_⟩ := a2_); (try obtain ⟨a2_b4, a2_⟩ := a2_); (try obtain ⟨a2_b5, a2_⟩ := a2_); (try obtain ⟨a3_b1, a3_⟩ := a3_); (try obtain ⟨a3_b2, a3_⟩ := a3_); (try obtain ⟨a3_b3, a3_⟩ := a3_); (try obtain ⟨a3_b4, a3_⟩ := a3_); (try obtain ⟨a3_b5, a3_⟩ := a3_); (try obtain ⟨a4_b1, a4_⟩ := a4_); (try obtain ⟨a4_b2, a4_⟩ := a4_); (try obtain ⟨a4_b3, a4_⟩ := a4_); (try obtain ⟨a4_b4, a4_⟩ := a4_); (try obtain ⟨a4_b5, a4_⟩ := a4_); (try obtain ⟨a5_b1, a5_⟩ := a5_); (try obtain ⟨a5_b2, a5_⟩ := a5_); (try obtain ⟨a5_b3, a5_⟩ := a5_); (try obtain ⟨a5_b4, a5_⟩ := a5_); (try obtain ⟨a5_b5, a5_⟩ := a5_); (try obtain ⟨a6_b1, a6_⟩ := a6_); (try obtain ⟨a6_b2, a6_⟩ := a6_); (try obtain ⟨a6_b3, a6_⟩ := a6_); (try obtain ⟨a6_b4, a6_⟩ := a6_); (try obtain ⟨a6_b5, a6_⟩ := a6_); (try obtain ⟨a7_b1, a7_⟩ := a7_); (try obtain ⟨a7_b2, a7_⟩ := a7_); (try obtain ⟨a7_b3, a7_⟩ := a7_); (try obtain ⟨a7_b4, a7_⟩ := a7_); (try obtain ⟨a7_b5, a7_⟩ := a7_); (repeat' apply And.intro) <;> assumption))), fun _ => (by (with_reducible repeat (first | apply Kd.R_alloc | apply Kd.R_drewN | apply Kd.R_drew)); exact Kd.R_mono HO248.out (fun _ hk => by (obtain ⟨a1_, a2_⟩ := hk; (try obtain ⟨a1_, a3_⟩ := a1_); (try obtain ⟨a1_, a4_⟩ := a1_); (try obtain ⟨a1_, a5_⟩ := a1_); (try obtain ⟨a1_, a6_⟩ := a1_); (try obtain ⟨a1_, a7_⟩ := a1_); (try obtain ⟨a2_b1, a2_⟩ := a2_); (try obtain ⟨a2_b2, a2_⟩ := a2_); (try obtain ⟨a2_b3, a2_⟩ := a2_); (try obtain ⟨a2_b4, a2_⟩ := a2_); (try obtain ⟨a2_b5, a2_⟩ := a2_); (try obtain ⟨a3_b1, a3_⟩ := a3_); (try obtain ⟨a3_b2, a3_⟩ := a3_); (try obtain ⟨a3_b3, a3_⟩ := a3_); (try obtain ⟨a3_b4, a3_⟩ := a3_); (try obtain ⟨a3_b5, a3_⟩ := a3_); (try obtain ⟨a4_b1, a4_⟩ := a4_); (try obtain ⟨a4_b2, a4_⟩ := a4_); (try obtain ⟨a4_b3, a4_⟩ := a4_); (try obtain ⟨a4_b4, a4_⟩ := a4_); (try obtain ⟨a4_b5, a4_⟩ := a4_); (try obtain ⟨a5_b1, a5_⟩ := a5_); (try obtain ⟨a5_b2, a5_⟩ := a5_); (try obtain ⟨a5_b3, a5_⟩ := a5_); (try obtain ⟨a5_b4, a5_⟩ := a5_); (try obtain ⟨a5_b5, a5_⟩ := a5_); (try obtain ⟨a6_b1, a6_⟩ := a6_); (try obtain ⟨a6_b2, a6_⟩ := a6_); (try obtain ⟨a6_b3, a6_⟩ := a6_); (try obtain ⟨a6_b4, a6_⟩ := a6_); (try obtain ⟨a6_b5, a6_⟩ := a6_); (try obtain ⟨a7_b1, a7_⟩ := a7_); (try obtain ⟨a7_b2, a7_⟩ := a7_); (try obtain ⟨a7_b3, a7_⟩ := a7_); (try obtain ⟨a7_b4, a7_⟩ := a7_); (try obtain ⟨a7_b5, a7_⟩ := a7_); (repeat' apply And.intro) <;> assumption))), fun _ => (by (with_reducible repeat (first | apply Kd.R_alloc | apply Kd.R_drewN | apply Kd.R_drew)); exact Kd.R_mono HO251.out (fun _ hk => by (obtain ⟨a1_, a2_⟩ := hk; (try obtain ⟨a1_, a3_⟩ := a1_); (try obtain ⟨a1_, a4_⟩ := a1_); (try obtain ⟨a1_, a5_⟩ := a1_); (try obtain ⟨a1_, a6_⟩ := a1_); (try obtain ⟨a1_, a7_⟩ := a1_); (try obtain ⟨a2_b1, a2_⟩ := a2_); (try obtain ⟨a2_b2, a2_⟩ := a2_); (try obtain ⟨a2_b3, a2_⟩ := a2_); (try obtain ⟨a2_b4, a2_⟩ := a2_); (try obtain ⟨a2_b5, a2_⟩ := a2_); (try obtain ⟨a3_b1, a3_⟩ := a3_); (try obtain ⟨a3_b2, a3_⟩ := a3_); (try obtain ⟨a3_b3, a3_⟩ := a3_); (try obtain ⟨a3_b4, a3_⟩ := a3_); (try obtain ⟨a3_b5, a3_⟩ := a3_); (try obtain ⟨a4_b1, a4_⟩ := a4_); (try obtain ⟨a4_b2, a4_⟩ := a4_); (try obtain ⟨a4_b3, a4_⟩ := a4_); (try obtain ⟨a4_b4, a4_⟩ := a4_); (try obtain ⟨a4_b5, a4_⟩ := a4_); (try obtain ⟨a5_b1, a5_⟩ := a5_); (try obtain ⟨a5_b2, a5_⟩ := a5_); (try obtain ⟨a5_b3, a5_⟩ := a5_); (try obtain ⟨a5_b4, a5_⟩ := a5_); (try obtain ⟨a5_b5, a5_⟩ := a5_); (try obtain ⟨a6_b1, a6_⟩ := a6_); (try obtain ⟨a6_b2, a6_⟩ := a6_); (try obtain ⟨a6_b3, a6_⟩ := a6_); (try obtain ⟨a6_b4, a6_⟩ := a6_); (try obtain ⟨a6_b5, a6_⟩ := a6_); (try obtain ⟨a7_b1, a7_⟩ := a7_); (try obtain ⟨a7_b2, a7_⟩ := a7_); (try obtain ⟨a7_b3, a7_⟩ := a7_); (try obtain ⟨a7_b4, a7_⟩ := a7_); (try obtain ⟨a7_b5, a7_⟩ := a7_); (repeat' apply And.intro) <;> assumption))), fun _ => (by (with_reducible repeat (first | apply Kd.R_alloc | apply Kd.R_drewN | apply Kd.R_drew)); exact Kd.R_mono HO254.out (fun _ hk => by (obtain ⟨a1_, a2_⟩ := hk; (try obtain ⟨a1_, a3_⟩ := a1_); (try obtain ⟨a1_, a4_⟩ := a1_); (try obtain ⟨a1_, a5_⟩ := a1_); (try obtain ⟨a1_, a6_⟩ := a1_); (try obtain ⟨a1_, a7_⟩ := a1_); (try obtain ⟨a2_b1, a2_⟩ := a2_); (try obtain ⟨a2_b2, a2_⟩ := a2_); (try obtain ⟨a2_b3, a2_⟩ := a2_); (try obtain ⟨a2_b4, a2_⟩ := a2_); (try obtain ⟨a2_b5, a2_⟩ := a2_); (try obtain ⟨a3_b1, a3_⟩ := a3_); (try obtain ⟨a3_b2, a3_⟩ := a3_); (try obtain ⟨a3_b3, a3_⟩ := a3_); (try obtain ⟨a3_b4, a3_⟩ := a3_); (try obtain ⟨a3_b5, a3_⟩ := a3_); (try obtain ⟨a4_b1, a4_⟩ := a4_); (try obtain ⟨a4_b2, a4_⟩ := a4_); (try obtain ⟨a4_b3, a4_⟩ := a4_); (try obtain ⟨a4_b4, a4_⟩ := a4_); (try obtain ⟨a4_b5, a4_⟩ := a4_); (try obtain ⟨a5_b1, a5_⟩ := a5_); (try obtain ⟨a5_b2, a5_⟩ := a5_); (try obtain ⟨a5_b3, a5_⟩ := a5_); (try obtain ⟨a5_b4, a5_⟩ := a5_); (try obtain ⟨a5_b5, a5_⟩ := a5_); (try obtain ⟨a6_b1, a6_⟩ := a6_); (try obtain ⟨a6_b2, a6_⟩ := a6_); (try obtain ⟨a6_b3, a6_⟩ := a6_); (try obtain ⟨a6_b4, a6_⟩ := a6_); (try obtain ⟨a6_b5, a6_⟩ := a6_); (try obtain ⟨a7_b1, a7_⟩ := a7_); (try obtain ⟨a7_b2, a7_⟩ := a7_); (try obtain ⟨a7_b3, a7_⟩ := a7_); (try obtain ⟨a7_b4, a7_⟩ := a7_); (try obtain ⟨a7_b5, a7_⟩ := a7_); (repeat' apply And.intro) <;> assumption))), fun h0_ => absurd ((hoff 15 (by kernel_rfl)).symm.trans h0_) (by decide), fun h0_ => absurd ((hoff 14 (by kernel_rfl)).symm.trans h0_) (by decide), (by first | exact Q_NE_ | exact (fun _ => ne13_) | exact (fun h0_ => absurd ((hoff 13 (by kernel_rfl)).symm.trans h0_) (by decide)))⟩
            refine steps_cons ?_ ?_
            · rintro b a w' ⟨v244, v247, v250, v253, m14_, ha, Q_HO_240000, Q_HO_240001, Q_BK239, Q_BK240, Q_HK, Q_HB, Q_HO245, Q_HO248, Q_HO251, Q_HO254, Q_BK240_e15, Q_X14_, Q_NE_⟩ hb_ hon hoff
              refine ⟨_, rfl, fun K hK => ?_⟩
              have e36 : a.tmps[36]? = some (v247) := by rw [ha]; exact putSel_on (e := (6, 36, v247)) 2 rfl rfl (hon 6 (by kernel_rfl)) rfl
              have e43 : a.tmps[43]? = some (v253) := by rw [ha]; exact putSel_on (e := (13, 43, v253)) 5 rfl rfl (hon 13 (by kernel_rfl)) rfl
              replace ha := Aside0.mk ha
              have HO_240000 := Aside0.mk Q_HO_240000
              have HO_240001 := Aside0.mk Q_HO_240001
              have BK239 := Aside0.mk Q_BK239
              have BK240 := Aside0.mk (Q_BK240 (hoff 15 (by kernel_rfl)))
              have HK := Aside0.mk Q_HK
              have HB := Aside0.mk Q_HB
              have HO245 := Aside0.mk (Q_HO245 (hon 5 (by kernel_rfl)))
              have HO248 := Aside0.mk (Q_HO248 (hon 6 (by kernel_rfl)))
              have HO251 := Aside0.mk (Q_HO251 (hon 12 (by kernel_rfl)))
              have HO254 := Aside0.mk (Q_HO254 (hon 13 (by kernel_rfl)))
              obtain ⟨Ao14_0, co14_0, eo_⟩ := Kd.R_slice HO248.out
              subst eo_
              obtain ⟨Ao14_1, co14_1, eo_⟩ := Kd.R_slice HO254.out
              subst eo_
              refine value_ (w1 := w') (v := .agg #[.slice Ao14_0 t246.length co14_0, .slice Ao14_1 t252.length co14_1]) (by rfl) rfl ?_ ?_
              · go_simp
                (try simp only [i64_w])
                try rfl
              refine hK.out _ _ ⟨v244, .slice Ao14_0 t246.length co14_0, v250, .slice Ao14_1 t252.length co14_1, (.agg #[.slice Ao14_0 t246.length co14_0, .slice Ao14_1 t252.length co14_1]), (by rw [ha.out]; exact putSel_upk 6 hb_ rfl rfl rfl), Q_HO_240000, Q_HO_240001, Q_BK239, Q_BK240, Q_HK, Q_HB, Q_HO245, Q_HO248, Q_HO251, Q_HO254, fun h0_ => absurd ((hoff 15 (by kernel_rfl)).symm.trans h0_) (by decide), fun _ => rfl, (by first | exact Q_NE_ | exact (fun _ => ne13_) | exact (fun h0_ => absurd ((hoff 13 (by kernel_rfl)).symm.trans h0_) (by decide)))⟩
            refine steps_cons ?_ ?_
            · rintro b a w' ⟨v244, v247, v250, v253, m14_, ha, Q_HO_240000, Q_HO_240001, Q_BK239, Q_BK240, Q_HK, Q_HB, Q_HO245, Q_HO248, Q_HO251, Q_HO254, Q_BK240_e15, Q_X14_, Q_NE_⟩ hb_ hon hoff
              refine ⟨_, rfl, fun K hK => ?_⟩
              have e6 : a.tmps[6]? = some (.pointer (some ⟨gb240, 0, none⟩)) := by rw [ha]; exact (putSel_off rfl).trans rfl
              have e44 : a.tmps[44]? = some (m14_) := by rw [ha]; exact putSel_on (e := (14, 44, m14_)) 6 rfl rfl (hon 14 (by kernel_rfl)) rfl
              rw [Q_X14_ (hon 14 (by kernel_rfl))] at e44
              replace ha := Aside0.mk ha
              have HO_240000 := Aside0.mk Q_HO_240000
              have HO_240001 := Aside0.mk Q_HO_240001
              have BK239 := Aside0.mk Q_BK239
              have BK240 := Aside0.mk (Q_BK240 hb_)
              have HK := Aside0.mk Q_HK
              have HB := Aside0.mk Q_HB
              have HO245 := Aside0.mk (Q_HO245 (hon 5 (by kernel_rfl)))
              have HO248 := Aside0.mk (Q_HO248 (hon 6 (by kernel_rfl)))
              have HO251 := Aside0.mk (Q_HO251 (hon 12 (by kernel_rfl)))
              have HO254 := Aside0.mk (Q_HO254 (hon 13 (by kernel_rfl)))
              obtain ⟨Ao33, co33, eo33⟩ := Kd.R_slice HO254.out
              (first | subst eo33 | (injection eo33 with f1_ f2_ f3_; have f4_ := f1_.symm; have f5_ := f3_.symm; clear f1_ f2_ f3_; subst f4_; subst f5_))
              obtain ⟨Ao34, co34, eo34⟩ := Kd.R_slice HO248.out
              (first | subst eo34 | (injection eo34 with f1_ f2_ f3_; have f4_ := f1_.symm; have f5_ := f3_.symm; clear f1_ f2_ f3_; subst f4_; subst f5_))
              have hs35 : w'.cell? ⟨gb240, 0, none⟩ = some (.slice none 0 0) := (blk_cell BK240.out 0).trans rfl
              have hfs35 := blk_frozen BK240.out 0
              have hns35_0 := NB239_240.out
              have hms35_0 := NB240_239.out
              have hs36 : w'.cell? ⟨gb240, 1, none⟩ = some (.slice none 0 0) := (blk_cell BK240.out 1).trans rfl
              have hfs36 := blk_frozen BK240.out 1
              have hns36_0 := NB239_240.out
              have hms36_0 := NB240_239.out
              refine skip_ (w1 := ?_) (by rfl) rfl ?_ ?_
              rotate_left
              · go_simp
                rfl
              refine hK.out _ _ ⟨v244, .slice Ao34 t246.length co34, v250, .slice Ao33 t252.length co33, m14_, (by rw [ha.out]; exact putSel_none (v := undef) rfl), (by (with_reducible repeat (first | apply Kd.R_alloc | apply Kd.R_drewN | apply Kd.R_drew)); exact Kd.R_mono (Kd.R_far (p := ⟨gb240, 1, none⟩) (Kd.R_far (p := ⟨gb240, 0, none⟩) (Kd.R_types HO_240000.out BK240.out (by decide)) (fun _ hk => hk.2) (.slice Ao34 t246.length co34)) (fun _ hk => hk.2) (.slice Ao33 t252.length co33)) (fun _ hk => by (obtain ⟨a1_, a2_⟩ := hk; (try obtain ⟨a1_, a3_⟩ := a1_); (try obtain ⟨a1_, a4_⟩ := a1_); (try obtain ⟨a1_, a5_⟩ := a1_); (try obtain ⟨a1_, a6_⟩ := a1_); (try obtain ⟨a1_, a7_⟩ := a1_); (try obtain ⟨a2_b1, a2_⟩ := a2_); (try obtain ⟨a2_b2, a2_⟩ := a2_); (try obtain ⟨a2_b3, a2_⟩ := a2_); (try obtain ⟨a2_b4, a2_⟩ := a2_); (try obtain ⟨a2_b5, a2_⟩ := a2_); (try obtain ⟨a3_b1, a3_⟩ := a3_); (try obtain ⟨a3_b2, a3_⟩ := a3_); (try obtain ⟨a3_b3, a3_⟩ := a3_); (try obtain ⟨a3_b4, a3_⟩ := a3_); (try obtain ⟨a3_b5, a3_⟩ := a3_); (try obtain ⟨a4_b1, a4_⟩ := a4_); (try obtain ⟨a4_b2, a4_⟩ := a4_); (try obtain ⟨a4_b3, a4_⟩ := a4_); (try obtain ⟨a4_b4, a4_⟩ := a4_); (try obtain ⟨a4_b5, a4_⟩ := a4_); (try obtain ⟨a5_b1, a5_⟩ := a5_); (try obtain ⟨a5_b2, a5_⟩ := a5_); (try obtain ⟨a5_b3, a5_⟩ := a5_); (try obtain ⟨a5_b4, a5_⟩ := a5_); (try obtain ⟨a5_b5, a5_⟩ := a5_); (try obtain ⟨a6_b1, a6_⟩ := a6_); (try obtain ⟨a6_b2, a6_⟩ := a6_); (try obtain ⟨a6_b3, a6_⟩ := a6_); (try obtain ⟨a6_b4, a6_⟩ := a6_); (try obtain ⟨a6_b5, a6_⟩ := a6_); (try obtain ⟨a7_b1, a7_⟩ := a7_); (try obtain ⟨a7_b2, a7_⟩ := a7_); (try obtain ⟨a7_b3, a7_⟩ := a7_); (try obtain ⟨a7_b4, a7_⟩ := a7_); (try obtain ⟨a7_b5, a7_⟩ := a7_); (repeat' apply And.intro) <;> assumption))), (by (with_reducible repeat (first | apply Kd.R_alloc | apply Kd.R_drewN | apply Kd.R_drew)); exact Kd.R_mono (Kd.R_far (p := ⟨gb240, 1, none⟩) (Kd.R_far (p := ⟨gb240, 0, none⟩) (Kd.R_types HO_240001.out BK240.out (by decide)) (fun _ hk => hk.2) (.slice Ao34 t246.length co34)) (fun _ hk => hk.2) (.slice Ao33 t252.length co33)) (fun _ hk => by (obtain ⟨a1_, a2_⟩ := hk; (try obtain ⟨a1_, a3_⟩ := a1_); (try obtain ⟨a1_, a4_⟩ := a1_); (try obtain ⟨a1_, a5_⟩ := a1_); (try obtain ⟨a1_, a6_⟩ := a1_); (try obtain ⟨a1_, a7_⟩ := a1_); (try obtain ⟨a2_b1, a2_⟩ := a2_); (try obtain ⟨a2_b2, a2_⟩ := a2_); (try obtain ⟨a2_b3, a2_⟩ := a2_); (try obtain ⟨a2_b4, a2_⟩ := a2_); (try obtain ⟨a2_b5, a2_⟩ := a2_); (try obtain ⟨a3_b1, a3_⟩ := a3_); (try obtain ⟨a3_b2, a3_⟩ := a3_); (try obtain ⟨a3_b3, a3_⟩ := a3_); (try obtain ⟨a3_b4, a3_⟩ := a3_); (try obtain ⟨a3_b5, a3_⟩ := a3_); (try obtain ⟨a4_b1, a4_⟩ := a4_); (try obtain ⟨a4_b2, a4_⟩ := a4_); (try obtain ⟨a4_b3, a4_⟩ := a4_); (try obtain ⟨a4_b4, a4_⟩ := a4_); (try obtain ⟨a4_b5, a4_⟩ := a4_); (try obtain ⟨a5_b1, a5_⟩ := a5_); (try obtain ⟨a5_b2, a5_⟩ := a5_); (try obtain ⟨a5_b3, a5_⟩ := a5_); (try obtain ⟨a5_b4, a5_⟩ := a5_); (try obtain ⟨a5_b5, a5_⟩ := a5_); (try obtain ⟨a6_b1, a6_⟩ := a6_); (try obtain ⟨a6_b2, a6_⟩ := a6_); (try obtain ⟨a6_b3, a6_⟩ := a6_); (try obtain ⟨a6_b4, a6_⟩ := a6_); (try obtain ⟨a6_b5, a6_⟩ := a6_); (try obtain ⟨a7_b1, a7_⟩ := a7_); (try obtain ⟨a7_b2, a7_⟩ := a7_); (try obtain ⟨a7_b3, a7_⟩ := a7_); (try obtain ⟨a7_b4, a7_⟩ := a7_); (try obtain ⟨a7_b5, a7_⟩ := a7_); (repeat' apply And.intro) <;> assumption))), (by (with_reducible repeat (first | refine blk_drewN ?_ _ | refine blk_drew ?_ | refine blk_alloc ?_ _)); refine blk_far ?_ NB239_240.out _; (with_reducible repeat (first | refine blk_drewN ?_ _ | refine blk_drew ?_ | refine blk_alloc ?_ _)); refine blk_far ?_ NB239_240.out _; (with_reducible repeat (first | refine blk_drewN ?_ _ | refine blk_drew ?_ | refine blk_alloc ?_ _)); exact BK239.out), fun h0_ => absurd ((up_self b 15).symm.trans h0_) (by decide), (by repeat (first | (with_reducible first | exact HK.out | apply Kept.alloc | apply Kept.drewN | apply Kept.drew | refine Kept.setCell ?_ (.inr GW239.out) _ | refine Kept.setCell ?_ (.inr GW240.out) _) | exact HK.out)), (by repeat (first | (with_reducible first | exact HB.out | apply below_alloc | apply pw_below_drewN | apply below_drew1 | refine below_set ?_ GE239.out | refine below_set ?_ GE240.out) | exact HB.out)), fun _ => (by (with_reducible repeat (first | apply Kd.R_alloc | apply Kd.R_drewN | apply Kd.R_drew)); exact Kd.R_mono (Kd.R_far (p := ⟨gb240, 1, none⟩) (Kd.R_far (p := ⟨gb240, 0, none⟩) (Kd.R_types HO245.out BK240.out (by decide)) (fun _ hk => hk.2) (.slice Ao34 t246.length co34)) (fun _ hk => hk.2) (.slice Ao33 t252.length co33)) (fun _ hk => by (obtain ⟨a1_, a2_⟩ := hk; (try obtain ⟨a1_, a3_⟩ := a1_); (try obtain ⟨a1_, a4_⟩ := a1_); (try obtain ⟨a1_, a5_⟩ := a1_); (try obtain ⟨a1_, a6_⟩ := a1_); (try obtain ⟨a1_, a7_⟩ := a1_); (try obtain ⟨a2_b1, a2_⟩ := a2_); (try obtain ⟨a2_b2, a2_⟩ := a2_); (try obtain ⟨a2_b3, a2_⟩ := a2_); (try obtain ⟨a2_b4, a2_⟩ := a2_); (try obtain ⟨a2_b5, a2_⟩ := a2_); (try obtain ⟨a3_b1, a3_⟩ := a3_); (try obtain ⟨a3_b2, a3_⟩ := a3_); (try obtain ⟨a3_b3, a3_⟩ := a3_); (try obtain ⟨a3_b4, a3_⟩ := a3_); (try obtain ⟨a3_b5, a3_⟩ := a3_); (try obtain ⟨a4_b1, a4_⟩ := a4_); (try obtain ⟨a4_b2, a4_⟩ := a4_); (try obtain ⟨a4_b3, a4_⟩ := a4_); (try obtain ⟨a4_b4, a4_⟩ := a4_); (try obtain ⟨a4_b5, a4_⟩ := a4_); (try obtain ⟨a5_b1, a5_⟩ := a5_); (try obtain ⟨a5_b2, a5_⟩ := a5_); (try obtain ⟨a5_b3, a5_⟩ := a5_); (try obtain ⟨a5_b4, a5_⟩ := a5_); (try obtain ⟨a5_b5, a5_⟩ := a5_); (try obtain ⟨a6_b1, a6_⟩ := a6_); (try obtain ⟨a6_b2, a6_⟩ := a6_); (try obtain ⟨a6_b3, a6_⟩ := a6_); (try obtain ⟨a6_b4, a6_⟩ := a6_); (try obtain ⟨a6_b5, a6_⟩ := a6_); (try obtain ⟨a7_b1, a7_⟩ := a7_); (try obtain ⟨a7_b2, a7_⟩ := a7_); (try obtain ⟨a7_b3, a7_⟩ := a7_); (try obtain ⟨a7_b4, a7_⟩ := a7_); (try obtain ⟨a7_b5, a7_⟩ := a7_); (repeat' apply And.intro) <;> assumption))), fun _ => (by (with_reducible repeat (first | apply Kd.R_alloc | apply Kd.R_drewN | apply Kd.R_drew)); exact Kd.R_mono (Kd.R_far (p := ⟨gb240, 1, none⟩) (Kd.R_far (p := ⟨gb240, 0, none⟩) (Kd.R_types HO248.out BK240.out (by decide)) (fun _ hk => hk.2) (.slice Ao34 t246.length co34)) (fun _ hk => hk.2) (.slice Ao33 t252.length co33)) (fun _ hk => by (obtain ⟨a1_, a2_⟩ := hk; (try obtain ⟨a1_, a3_⟩ := a1_); (try obtain ⟨a1_, a4_⟩ := a1_); (try obtain ⟨a1_, a5_⟩ := a1_); (try obtain ⟨a1_, a6_⟩ := a1_); (try obtain ⟨a1_, a7_⟩ := a1_); (try obtain ⟨a2_b1, a2_⟩ := a2_); (try obtain ⟨a2_b2, a2_⟩ := a2_); (try obtain ⟨a2_b3, a2_⟩ := a2_); (try obtain ⟨a2_b4, a2_⟩ := a2_); (try obtain ⟨a2_b5, a2_⟩ := a2_); (try obtain ⟨a3_b1, a3_⟩ := a3_); (try obtain ⟨a3_b2, a3_⟩ := a3_); (try obtain ⟨a3_b3, a3_⟩ := a3_); (try obtain ⟨a3_b4, a3_⟩ := a3_); (try obtain ⟨a3_b5, a3_⟩ := a3_); (try obtain ⟨a4_b1, a4_⟩ := a4_); (try obtain ⟨a4_b2, a4_⟩ := a4_); (try obtain ⟨a4_b3, a4_⟩ := a4_); (try obtain ⟨a4_b4, a4_⟩ := a4_); (try obtain ⟨a4_b5, a4_⟩ := a4_); (try obtain ⟨a5_b1, a5_⟩ := a5_); (try obtain ⟨a5_b2, a5_⟩ := a5_); (try obtain ⟨a5_b3, a5_⟩ := a5_); (try obtain ⟨a5_b4, a5_⟩ := a5_); (try obtain ⟨a5_b5, a5_⟩ := a5_); (try obtain ⟨a6_b1, a6_⟩ := a6_); (try obtain ⟨a6_b2, a6_⟩ := a6_); (try obtain ⟨a6_b3, a6_⟩ := a6_); (try obtain ⟨a6_b4, a6_⟩ := a6_); (try obtain ⟨a6_b5, a6_⟩ := a6_); (try obtain ⟨a7_b1, a7_⟩ := a7_); (try obtain ⟨a7_b2, a7_⟩ := a7_); (try obtain ⟨a7_b3, a7_⟩ := a7_); (try obtain ⟨a7_b4, a7_⟩ := a7_); (try obtain ⟨a7_b5, a7_⟩ := a7_); (repeat' apply And.intro) <;> assumption))), fun _ => (by (with_reducible repeat (first | apply Kd.R_alloc | apply Kd.R_drewN | apply Kd.R_drew)); exact Kd.R_mono (Kd.R_far (p := ⟨gb240, 1, none⟩) (Kd.R_far (p := ⟨gb240, 0, none⟩) (Kd.R_types HO251.out BK240.out (by decide)) (fun _ hk => hk.2) (.slice Ao34 t246.length co34)) (fun _ hk => hk.2) (.slice Ao33 t252.length co33)) (fun _ hk => by (obtain ⟨a1_, a2_⟩ := hk; (try obtain ⟨a1_, a3_⟩ := a1_); (try obtain ⟨a1_, a4_⟩ := a1_); (try obtain ⟨a1_, a5_⟩ := a1_); (try obtain ⟨a1_, a6_⟩ := a1_); (try obtain ⟨a1_, a7_⟩ := a1_); (try obtain ⟨a2_b1, a2_⟩ := a2_); (try obtain ⟨a2_b2, a2_⟩ := a2_); (try obtain ⟨a2_b3, a2_⟩ := a2_); (try obtain ⟨a2_b4, a2_⟩ := a2_); (try obtain ⟨a2_b5, a2_⟩ := a2_); (try obtain ⟨a3_b1, a3_⟩ := a3_); (try obtain ⟨a3_b2, a3_⟩ := a3_); (try obtain ⟨a3_b3, a3_⟩ := a3_); (try obtain ⟨a3_b4, a3_⟩ := a3_); (try obtain ⟨a3_b5, a3_⟩ := a3_); (try obtain ⟨a4_b1, a4_⟩ := a4_); (try obtain ⟨a4_b2, a4_⟩ := a4_); (try obtain ⟨a4_b3, a4_⟩ := a4_); (try obtain ⟨a4_b4, a4_⟩ := a4_); (try obtain ⟨a4_b5, a4_⟩ := a4_); (try obtain ⟨a5_b1, a5_⟩ := a5_); (try obtain ⟨a5_b2, a5_⟩ := a5_); (try obtain ⟨a5_b3, a5_⟩ := a5_); (try obtain ⟨a5_b4, a5_⟩ := a5_); (try obtain ⟨a5_b5, a5_⟩ := a5_); (try obtain ⟨a6_b1, a6_⟩ := a6_); (try obtain ⟨a6_b2, a6_⟩ := a6_); (try obtain ⟨a6_b3, a6_⟩ := a6_); (try obtain ⟨a6_b4, a6_⟩ := a6_); (try obtain ⟨a6_b5, a6_⟩ := a6_); (try obtain ⟨a7_b1, a7_⟩ := a7_); (try obtain ⟨a7_b2, a7_⟩ := a7_); (try obtain ⟨a7_b3, a7_⟩ := a7_); (try obtain ⟨a7_b4, a7_⟩ := a7_); (try obtain ⟨a7_b5, a7_⟩ := a7_); (repeat' apply And.intro) <;> assumption))), fun _ => (by (with_reducible repeat (first | apply Kd.R_alloc | apply Kd.R_drewN | apply Kd.R_drew)); exact Kd.R_mono (Kd.R_far (p := ⟨gb240, 1, none⟩) (Kd.R_far (p := ⟨gb240, 0, none⟩) (Kd.R_types HO254.out BK240.out (by decide)) (fun _ hk => hk.2) (.slice Ao34 t246.length co34)) (fun _ hk => hk.2) (.slice Ao33 t252.length co33)) (fun _ hk => by (obtain ⟨a1_, a2_⟩ := hk; (try obtain ⟨a1_, a3_⟩ := a1_); (try obtain ⟨a1_, a4_⟩ := a1_); (try obtain ⟨a1_, a5_⟩ := a1_); (try obtain ⟨a1_, a6_⟩ := a1_); (try obtain ⟨a1_, a7_⟩ := a1_); (try obtain ⟨a2_b1, a2_⟩ := a2_); (try obtain ⟨a2_b2, a2_⟩ := a2_); (try obtain ⟨a2_b3, a2_⟩ := a2_); (try obtain ⟨a2_b4, a2_⟩ := a2_); (try obtain ⟨a2_b5, a2_⟩ := a2_); (try obtain ⟨a3_b1, a3_⟩ := a3_); (try obtain ⟨a3_b2, a3_⟩ := a3_); (try obtain ⟨a3_b3, a3_⟩ := a3_); (try obtain ⟨a3_b4, a3_⟩ := a3_); (try obtain ⟨a3_b5, a3_⟩ := a3_); (try obtain ⟨a4_b1, a4_⟩ := a4_); (try obtain ⟨a4_b2, a4_⟩ := a4_); (try obtain ⟨a4_b3, a4_⟩ := a4_); (try obtain ⟨a4_b4, a4_⟩ := a4_); (try obtain ⟨a4_b5, a4_⟩ := a4_); (try obtain ⟨a5_b1, a5_⟩ := a5_); (try obtain ⟨a5_b2, a5_⟩ := a5_); (try obtain ⟨a5_b3, a5_⟩ := a5_); (try obtain ⟨a5_b4, a5_⟩ := a5_); (try obtain ⟨a5_b5, a5_⟩ := a5_); (try obtain ⟨a6_b1, a6_⟩ := a6_); (try obtain ⟨a6_b2, a6_⟩ := a6_); (try obtain ⟨a6_b3, a6_⟩ := a6_); (try obtain ⟨a6_b4, a6_⟩ := a6_); (try obtain ⟨a6_b5, a6_⟩ := a6_); (try obtain ⟨a7_b1, a7_⟩ := a7_); (try obtain ⟨a7_b2, a7_⟩ := a7_); (try obtain ⟨a7_b3, a7_⟩ := a7_); (try obtain ⟨a7_b4, a7_⟩ := a7_); (try obtain ⟨a7_b5, a7_⟩ := a7_); (repeat' apply And.intro) <;> assumption))), fun _ => (by (with_reducible repeat (first | refine blk_drewN ?_ _ | refine blk_drew ?_ | refine blk_alloc ?_ _)); refine blk_put (cs := #[.slice Ao34 t246.length co34, .slice none 0 0]) ?_ 1 _ rfl; (with_reducible repeat (first | refine blk_drewN ?_ _ | refine blk_drew ?_ | refine blk_alloc ?_ _)); refine blk_put (cs := #[.slice none 0 0, .slice none 0 0]) ?_ 0 _ rfl; (with_reducible repeat (first | refine blk_drewN ?_ _ | refine blk_drew ?_ | refine blk_alloc ?_ _)); exact BK240.out), Q_X14_, (by first | exact Q_NE_ | exact (fun _ => ne13_) | exact (fun h0_ => absurd ((hoff 13 (by kernel_rfl)).symm.trans h0_) (by decide)))⟩
            refine steps_cons ?_ ?_
            · rintro b a w' ⟨v244, v247, v250, v253, m14_, ha, Q_HO_240000, Q_HO_240001, Q_BK239, Q_BK240, Q_HK, Q_HB, Q_HO245, Q_HO248, Q_HO251, Q_HO254, Q_BK240_e15, Q_X14_, Q_NE_⟩ hb_ hon hoff
              refine ⟨_, rfl, fun K hK => ?_⟩
              replace ha := Aside0.mk ha
              have HO_240000 := Aside0.mk Q_HO_240000
              have HO_240001 := Aside0.mk Q_HO_240001
              have BK239 := Aside0.mk Q_BK239
              have HK := Aside0.mk Q_HK
              have HB := Aside0.mk Q_HB
              have HO245 := Aside0.mk (Q_HO245 (hon 5 (by kernel_rfl)))
              have HO248 := Aside0.mk (Q_HO248 (hon 6 (by kernel_rfl)))
              have HO251 := Aside0.mk (Q_HO251 (hon 12 (by kernel_rfl)))
              have HO254 := Aside0.mk (Q_HO254 (hon 13 (by kernel_rfl)))
              have BK240 := Aside0.mk (Q_BK240_e15 (hon 15 (by kernel_rfl)))
              refine value_ (w1 := w') (v := .int .i64 0) (by rfl) rfl ?_ ?_
              · go_simp
                (try simp only [i64_w])
                try rfl
              refine hK.out _ _ ⟨v244, v247, v250, v253, m14_, (by rw [ha.out]; exact putSel_upk 7 hb_ rfl rfl rfl), Q_HO_240000, Q_HO_240001, Q_BK239, fun h0_ => absurd ((hon 15 (by kernel_rfl)).symm.trans h0_) (by decide), Q_HK, Q_HB, Q_HO245, Q_HO248, Q_HO251, Q_HO254, Q_BK240_e15, Q_X14_, (by first | exact Q_NE_ | exact (fun _ => ne13_) | exact (fun h0_ => absurd ((hoff 13 (by kernel_rfl)).symm.trans h0_) (by decide)))⟩
            exact steps_nil
          rintro b a w34 hall ⟨v244, v247, v250, v253, m14_, ha, Q_HO_240000, Q_HO_240001, Q_BK239, Q_BK240, Q_HK, Q_HB, Q_HO245, Q_HO248, Q_HO251, Q_HO254, Q_BK240_e15, Q_X14_, Q_NE_⟩
          clear BK239 BK240 HB HK HO_240000 HO_240001
          have hb1_ := hall 1 (by kernel_rfl)
          have hb5_ := hall 5 (by kernel_rfl)
          have hb6_ := hall 6 (by kernel_rfl)
          have hb8_ := hall 8 (by kernel_rfl)
          have hb12_ := hall 12 (by kernel_rfl)
          have hb13_ := hall 13 (by kernel_rfl)
          have hb14_ := hall 14 (by kernel_rfl)
          have hb15_ := hall 15 (by kernel_rfl)
          have hb16_ := hall 16 (by kernel_rfl)
          subst ha
          obtain rfl := Q_X14_ hb14_
          simp only [putSel, hb1_, hb5_, hb6_, hb8_, hb12_, hb13_, hb14_, hb15_, hb16_, if_true, Act.put, List.setIfInBounds_toArray, List.set_cons_zero, List.set_cons_succ]
          have HO_240000 := Aside0.mk Q_HO_240000
          clear Q_HO_240000
          have HO_240001 := Aside0.mk Q_HO_240001
          clear Q_HO_240001
          have BK239 := Aside0.mk Q_BK239
          clear Q_BK239
          clear Q_BK240
          have HK := Aside0.mk Q_HK
          clear Q_HK
          have HB := Aside0.mk Q_HB
          clear Q_HB
          have HO245 := Aside0.mk (Q_HO245 hb5_)
          clear Q_HO245
          have HO248 := Aside0.mk (Q_HO248 hb6_)
          clear Q_HO248
          have HO251 := Aside0.mk (Q_HO251 hb12_)
          clear Q_HO251
          have HO254 := Aside0.mk (Q_HO254 hb13_)
          clear Q_HO254
          have BK240 := Aside0.mk (Q_BK240_e15 hb15_)
          clear Q_BK240_e15
          have NE_ := Aside0.mk (Q_NE_ hb13_)
          clear Q_NE_
          clear hall hb1_ hb5_ hb6_ hb8_ hb12_ hb13_ hb14_ hb15_ hb16_
          obtain ⟨Ao35, co35, eo35⟩ := Kd.R_slice HO254.out
          (first | subst eo35 | (injection eo35 with f1_ f2_ f3_; have f4_ := f1_.symm; have f5_ := f3_.symm; clear f1_ f2_ f3_; subst f4_; subst f5_))
          obtain ⟨Ao36, co36, eo36⟩ := Kd.R_slice HO248.out
          (first | subst eo36 | (injection eo36 with f1_ f2_ f3_; have f4_ := f1_.symm; have f5_ := f3_.symm; clear f1_ f2_ f3_; subst f4_; subst f5_))
          try go_wp2
          refine bodyPost_ret (results_ct rfl _ _ gb240 40 #[.slice Ao36 t246.length co36, .slice Ao35 t252.length co35] (0, 0) _ rfl (by (with_reducible repeat (first | refine blk_drewN ?_ _ | refine blk_drew ?_ | refine blk_alloc ?_ _)); exact BK240.out) Try.underlying40 rfl (by kernel_rfl)) rfl ?_
          exact ⟨_, _, by first | rfl | (simp [errW_none, errW_some] <;> rfl) | (simp [*, errW_none, errW_some] <;> rfl), by (with_reducible repeat (first | apply Kd.R_alloc | apply Kd.R_drewN | apply Kd.R_drew)); exact row_mono HO248.out (fun k_ ho_ hk => by (obtain ⟨a1_, a2_⟩ := hk; (try obtain ⟨a1_, a3_⟩ := a1_); (try obtain ⟨a1_, a4_⟩ := a1_); (try obtain ⟨a1_, a5_⟩ := a1_); (try obtain ⟨a1_, a6_⟩ := a1_); (try obtain ⟨a1_, a7_⟩ := a1_); (try obtain ⟨a2_b1, a2_⟩ := a2_); (try obtain ⟨a2_b2, a2_⟩ := a2_); (try obtain ⟨a2_b3, a2_⟩ := a2_); (try obtain ⟨a2_b4, a2_⟩ := a2_); (try obtain ⟨a2_b5, a2_⟩ := a2_); (try obtain ⟨a3_b1, a3_⟩ := a3_); (try obtain ⟨a3_b2, a3_⟩ := a3_); (try obtain ⟨a3_b3, a3_⟩ := a3_); (try obtain ⟨a3_b4, a3_⟩ := a3_); (try obtain ⟨a3_b5, a3_⟩ := a3_); (try obtain ⟨a4_b1, a4_⟩ := a4_); (try obtain ⟨a4_b2, a4_⟩ := a4_); (try obtain ⟨a4_b3, a4_⟩ := a4_); (try obtain ⟨a4_b4, a4_⟩ := a4_); (try obtain ⟨a4_b5, a4_⟩ := a4_); (try obtain ⟨a5_b1, a5_⟩ := a5_); (try obtain ⟨a5_b2, a5_⟩ := a5_); (try obtain ⟨a5_b3, a5_⟩ := a5_); (try obtain ⟨a5_b4, a5_⟩ := a5_); (try obtain ⟨a5_b5, a5_⟩ := a5_); (try obtain ⟨a6_b1, a6_⟩ := a6_); (try obtain ⟨a6_b2, a6_⟩ := a6_); (try obtain ⟨a6_b3, a6_⟩ := a6_); (try obtain ⟨a6_b4, a6_⟩ := a6_); (try obtain ⟨a6_b5, a6_⟩ := a6_); (try obtain ⟨a7_b1, a7_⟩ := a7_); (try obtain ⟨a7_b2, a7_⟩ := a7_); (try obtain ⟨a7_b3, a7_⟩ := a7_); (try obtain ⟨a7_b4, a7_⟩ := a7_); (try obtain ⟨a7_b5, a7_⟩ := a7_); (repeat' apply And.intro) <;> first | assumption | exact fun e_ => NE_.out k_ ho_ e_.symm | exact fun e_ => NE_.out k_ e_.symm ho_)), by (with_reducible repeat (first | apply Kd.R_alloc | apply Kd.R_drewN | apply Kd.R_drew)); exact row_mono HO254.out (fun k_ ho_ hk => by (obtain ⟨a1_, a2_⟩ := hk; (try obtain ⟨a1_, a3_⟩ := a1_); (try obtain ⟨a1_, a4_⟩ := a1_); (try obtain ⟨a1_, a5_⟩ := a1_); (try obtain ⟨a1_, a6_⟩ := a1_); (try obtain ⟨a1_, a7_⟩ := a1_); (try obtain ⟨a2_b1, a2_⟩ := a2_); (try obtain ⟨a2_b2, a2_⟩ := a2_); (try obtain ⟨a2_b3, a2_⟩ := a2_); (try obtain ⟨a2_b4, a2_⟩ := a2_); (try obtain ⟨a2_b5, a2_⟩ := a2_); (try obtain ⟨a3_b1, a3_⟩ := a3_); (try obtain ⟨a3_b2, a3_⟩ := a3_); (try obtain ⟨a3_b3, a3_⟩ := a3_); (try obtain ⟨a3_b4, a3_⟩ := a3_); (try obtain ⟨a3_b5, a3_⟩ := a3_); (try obtain ⟨a4_b1, a4_⟩ := a4_); (try obtain ⟨a4_b2, a4_⟩ := a4_); (try obtain ⟨a4_b3, a4_⟩ := a4_); (try obtain ⟨a4_b4, a4_⟩ := a4_); (try obtain ⟨a4_b5, a4_⟩ := a4_); (try obtain ⟨a5_b1, a5_⟩ := a5_); (try obtain ⟨a5_b2, a5_⟩ := a5_); (try obtain ⟨a5_b3, a5_⟩ := a5_); (try obtain ⟨a5_b4, a5_⟩ := a5_); (try obtain ⟨a5_b5, a5_⟩ := a5_); (try obtain ⟨a6_b1, a6_⟩ := a6_); (try obtain ⟨a6_b2, a6_⟩ := a6_); (try obtain ⟨a6_b3, a6_⟩ := a6_); (try obtain ⟨a6_b4, a6_⟩ := a6_); (try obtain ⟨a6_b5, a6_⟩ := a6_); (try obtain ⟨a7_b1, a7_⟩ := a7_); (try obtain ⟨a7_b2, a7_⟩ := a7_); (try obtain ⟨a7_b3, a7_⟩ := a7_); (try obtain ⟨a7_b4, a7_⟩ := a7_); (try obtain ⟨a7_b5, a7_⟩ := a7_); (repeat' apply And.intro) <;> first | assumption | exact fun e_ => NE_.out k_ ho_ e_.symm | exact fun e_ => NE_.out k_ e_.symm ho_)), by repeat (first | (with_reducible first | exact HB.out | apply below_alloc | apply pw_below_drewN | apply below_drew1 | refine below_set ?_ GE239.out | refine below_set ?_ GE240.out) | exact HB.out), by repeat (first | (with_reducible first | exact HK.out | apply Kept.alloc | apply Kept.drewN | apply Kept.drew | refine Kept.setCell ?_ (.inr GW239.out) _ | refine Kept.setCell ?_ (.inr GW240.out) _) | exact HK.out)⟩
        · replace c15 := Bool.eq_false_iff.mpr c15
          subst c15
          have H1 : (if (l0_0.length : Int) ≥ 4096 then (some (l0_0, l0_1, 2)) else ((ploverref14_cut.f l0_0 t241 0 (([a1] : List Int))).bind fun t258 => ((ploverref14_cut.f l0_1 t241 0 (([a2] : List Int))).bind fun t264 => (some (t258, t264, 0))))) = some (r1, r2, r3) := by rw [if_neg (show ¬ (false = true) by decide)] at H; exact H
          clear H
          have H := H1
          clear H1
          by_cases c37 : (l0_0.length : Int) ≥ 4096
          · rw [if_pos c37] at H
            have c37b0 : decide (4096 ≤ (l0_0.length : Int)) = true := decide_eq_true c37
            have c37b1 : decide (4096 ≤ l0_0.length) = true := decide_eq_true (by omega)
            clear c37
            simp only [Option.some.injEq, Prod.mk.injEq] at H
            obtain ⟨rfl, rfl, rfl⟩ := H
            have hnb38 := NB239_240.out
            have hnc38 := NB240_239.out
            have hcz39_0 : wc.cell? ⟨gb239, 0, none⟩ = some (.slice Ao5 l0_0.length co5) := (blk_cell BK239.out 0).trans rfl
            have hcz39_1 : wc.cell? ⟨gb239, 1, none⟩ = some (.slice Ao6 l0_1.length co6) := (blk_cell BK239.out 1).trans rfl
            have hfz39_0 := blk_frozen BK239.out 0
            have hfz39_1 := blk_frozen BK239.out 1
            go_wp2_with (first | ((with_reducible refine gate_callee (f := 25) rfl ?_); refine goesL_ (some 21) rfl rfl Try.func25 (by kernel_rfl) rfl #[.agg #[.slice Ao5 l0_0.length co5, .slice Ao6 l0_1.length co6], .int .i64 a1] rfl (by (try simp only [List.map_toArray, List.map_cons, List.map_nil]); first | done | rfl | (simp only [List.length_drop, List.length_take]; rfl)) ?_; (with_reducible refine (ploverref14_place.calls kj3 _ _ l0_0 _ _ l0_1 a1 t241 false _ ?side1 ?side2 ?side3 ?side4 A14.out).mono ?_); (case side1 => repeat (first | exact (Kd.R_reads' HO_240000.out).2.2 | (with_reducible refine Kd.C_alloc ?_ _) | (with_reducible refine Kd.C_drewN ?_ _) | (with_reducible refine Kd.C_drew ?_))); (case side2 => exact (Kd.R_reads' HO_240000.out).2.1); (case side3 => repeat (first | exact (Kd.R_reads' HO_240001.out).2.2 | (with_reducible refine Kd.C_alloc ?_ _) | (with_reducible refine Kd.C_drewN ?_ _) | (with_reducible refine Kd.C_drew ?_))); (case side4 => exact (Kd.R_reads' HO_240001.out).2.1); rintro e w40 ⟨rfl, hb⟩; refine ⟨_, rfl, ?_⟩; have n0_ := Aside0.mk (Kd.R_below (by (with_reducible repeat (first | apply Kd.R_alloc | apply Kd.R_drewN | apply Kd.R_drew)); exact HO_240000.out) hb); have n1_ := Aside0.mk (Kd.R_below (by (with_reducible repeat (first | apply Kd.R_alloc | apply Kd.R_drewN | apply Kd.R_drew)); exact HO_240001.out) hb); have n2_ := Aside0.mk (blk_below (g := gb239) (o := .cells #[.slice Ao5 l0_0.length co5, .slice Ao6 l0_1.length co6] 40 (0, 0)) (by (with_reducible repeat (first | refine blk_drewN ?_ _ | refine blk_drew ?_ | refine blk_alloc ?_ _)); exact BK239.out) hb); have n3_ := Aside0.mk (blk_below (g := gb240) (o := .cells #[.slice none 0 0, .slice none 0 0] 40 (0, 0)) (by (with_reducible repeat (first | refine blk_drewN ?_ _ | refine blk_drew ?_ | refine blk_alloc ?_ _)); exact BK240.out) hb); have n4_ := Aside0.mk (Kept.below (S := (fun k_ => P0_0_ k_ ∨ P0_1_ k_)) (by repeat (first | (with_reducible first | exact HK.out | apply Kept.alloc | apply Kept.drewN | apply Kept.drew | refine Kept.setCell ?_ (.inr GW239.out) _ | refine Kept.setCell ?_ (.inr GW240.out) _) | exact HK.out)) hb); have n5_ := Aside0.mk (below_step (by repeat (first | (with_reducible first | exact HB.out | apply below_alloc | apply pw_below_drewN | apply below_drew1 | refine below_set ?_ GE239.out | refine below_set ?_ GE240.out) | exact HB.out)) hb); clear HO_240000; clear HO_240001; clear BK239; clear BK240; clear HK; clear HB; have HO_240000 := n0_; have HO_240001 := n1_; have BK239 := n2_; have BK240 := n3_; have HK := n4_; have HB := n5_; clear n0_ n1_ n2_ n3_ n4_ n5_; (try clear hb); (try clear hb2); (try clear hk); (try clear hi); have hcz41_0 : w40.cell? ⟨gb239, 0, none⟩ = some (.slice Ao5 l0_0.length co5) := (blk_cell BK239.out 0).trans rfl; have hcz41_1 : w40.cell? ⟨gb239, 1, none⟩ = some (.slice Ao6 l0_1.length co6) := (blk_cell BK239.out 1).trans rfl; have hfz41_0 := blk_frozen BK239.out 0; have hfz41_1 := blk_frozen BK239.out 1; have hcz42_0 : w40.cell? ⟨gb240, 0, none⟩ = some (.slice none 0 0) := (blk_cell BK240.out 0).trans rfl; have hcz42_1 : w40.cell? ⟨gb240, 1, none⟩ = some (.slice none 0 0) := (blk_cell BK240.out 1).trans rfl; have hfz42_0 := blk_frozen BK240.out 0; have hfz42_1 := blk_frozen BK240.out 1))
            refine bodyPost_ret (results_ct rfl _ _ gb240 40 #[.slice Ao5 l0_0.length co5, .slice Ao6 l0_1.length co6] (0, 0) _ rfl (by (with_reducible repeat (first | refine blk_drewN ?_ _ | refine blk_drew ?_ | refine blk_alloc ?_ _)); refine blk_put (cs := #[.slice Ao5 l0_0.length co5, .slice none 0 0]) ?_ 1 _ rfl; (with_reducible repeat (first | refine blk_drewN ?_ _ | refine blk_drew ?_ | refine blk_alloc ?_ _)); refine blk_put (cs := #[.slice none 0 0, .slice none 0 0]) ?_ 0 _ rfl; (with_reducible repeat (first | refine blk_drewN ?_ _ | refine blk_drew ?_ | refine blk_alloc ?_ _)); exact BK240.out) Try.underlying40 rfl (by kernel_rfl)) rfl ?_
            exact ⟨_, _, by first | rfl | (simp [errW_none, errW_some] <;> rfl) | (simp [*, errW_none, errW_some] <;> rfl), by (with_reducible repeat (first | apply Kd.R_alloc | apply Kd.R_drewN | apply Kd.R_drew)); exact row_mono (Kd.R_far (p := ⟨gb240, 1, none⟩) (Kd.R_far (p := ⟨gb240, 0, none⟩) (Kd.R_types HO_240000.out BK240.out (by decide)) (fun _ hk => hk.2) (.slice Ao5 l0_0.length co5)) (fun _ hk => hk.2) (.slice Ao6 l0_1.length co6)) (fun k_ ho_ hk => by (obtain ⟨a1_, a2_⟩ := hk; (try obtain ⟨a1_, a3_⟩ := a1_); (try obtain ⟨a1_, a4_⟩ := a1_); (try obtain ⟨a1_, a5_⟩ := a1_); (try obtain ⟨a1_, a6_⟩ := a1_); (try obtain ⟨a1_, a7_⟩ := a1_); (try obtain ⟨a2_b1, a2_⟩ := a2_); (try obtain ⟨a2_b2, a2_⟩ := a2_); (try obtain ⟨a2_b3, a2_⟩ := a2_); (try obtain ⟨a2_b4, a2_⟩ := a2_); (try obtain ⟨a2_b5, a2_⟩ := a2_); (try obtain ⟨a3_b1, a3_⟩ := a3_); (try obtain ⟨a3_b2, a3_⟩ := a3_); (try obtain ⟨a3_b3, a3_⟩ := a3_); (try obtain ⟨a3_b4, a3_⟩ := a3_); (try obtain ⟨a3_b5, a3_⟩ := a3_); (try obtain ⟨a4_b1, a4_⟩ := a4_); (try obtain ⟨a4_b2, a4_⟩ := a4_); (try obtain ⟨a4_b3, a4_⟩ := a4_); (try obtain ⟨a4_b4, a4_⟩ := a4_); (try obtain ⟨a4_b5, a4_⟩ := a4_); (try obtain ⟨a5_b1, a5_⟩ := a5_); (try obtain ⟨a5_b2, a5_⟩ := a5_); (try obtain ⟨a5_b3, a5_⟩ := a5_); (try obtain ⟨a5_b4, a5_⟩ := a5_); (try obtain ⟨a5_b5, a5_⟩ := a5_); (try obtain ⟨a6_b1, a6_⟩ := a6_); (try obtain ⟨a6_b2, a6_⟩ := a6_); (try obtain ⟨a6_b3, a6_⟩ := a6_); (try obtain ⟨a6_b4, a6_⟩ := a6_); (try obtain ⟨a6_b5, a6_⟩ := a6_); (try obtain ⟨a7_b1, a7_⟩ := a7_); (try obtain ⟨a7_b2, a7_⟩ := a7_); (try obtain ⟨a7_b3, a7_⟩ := a7_); (try obtain ⟨a7_b4, a7_⟩ := a7_); (try obtain ⟨a7_b5, a7_⟩ := a7_); (repeat' apply And.intro) <;> first | assumption | exact fun e_ => NE_.out k_ ho_ e_.symm | exact fun e_ => NE_.out k_ e_.symm ho_)), by (with_reducible repeat (first | apply Kd.R_alloc | apply Kd.R_drewN | apply Kd.R_drew)); exact row_mono (Kd.R_far (p := ⟨gb240, 1, none⟩) (Kd.R_far (p := ⟨gb240, 0, none⟩) (Kd.R_types HO_240001.out BK240.out (by decide)) (fun _ hk => hk.2) (.slice Ao5 l0_0.length co5)) (fun _ hk => hk.2) (.slice Ao6 l0_1.length co6)) (fun k_ ho_ hk => by (obtain ⟨a1_, a2_⟩ := hk; (try obtain ⟨a1_, a3_⟩ := a1_); (try obtain ⟨a1_, a4_⟩ := a1_); (try obtain ⟨a1_, a5_⟩ := a1_); (try obtain ⟨a1_, a6_⟩ := a1_); (try obtain ⟨a1_, a7_⟩ := a1_); (try obtain ⟨a2_b1, a2_⟩ := a2_); (try obtain ⟨a2_b2, a2_⟩ := a2_); (try obtain ⟨a2_b3, a2_⟩ := a2_); (try obtain ⟨a2_b4, a2_⟩ := a2_); (try obtain ⟨a2_b5, a2_⟩ := a2_); (try obtain ⟨a3_b1, a3_⟩ := a3_); (try obtain ⟨a3_b2, a3_⟩ := a3_); (try obtain ⟨a3_b3, a3_⟩ := a3_); (try obtain ⟨a3_b4, a3_⟩ := a3_); (try obtain ⟨a3_b5, a3_⟩ := a3_); (try obtain ⟨a4_b1, a4_⟩ := a4_); (try obtain ⟨a4_b2, a4_⟩ := a4_); (try obtain ⟨a4_b3, a4_⟩ := a4_); (try obtain ⟨a4_b4, a4_⟩ := a4_); (try obtain ⟨a4_b5, a4_⟩ := a4_); (try obtain ⟨a5_b1, a5_⟩ := a5_); (try obtain ⟨a5_b2, a5_⟩ := a5_); (try obtain ⟨a5_b3, a5_⟩ := a5_); (try obtain ⟨a5_b4, a5_⟩ := a5_); (try obtain ⟨a5_b5, a5_⟩ := a5_); (try obtain ⟨a6_b1, a6_⟩ := a6_); (try obtain ⟨a6_b2, a6_⟩ := a6_); (try obtain ⟨a6_b3, a6_⟩ := a6_); (try obtain ⟨a6_b4, a6_⟩ := a6_); (try obtain ⟨a6_b5, a6_⟩ := a6_); (try obtain ⟨a7_b1, a7_⟩ := a7_); (try obtain ⟨a7_b2, a7_⟩ := a7_); (try obtain ⟨a7_b3, a7_⟩ := a7_); (try obtain ⟨a7_b4, a7_⟩ := a7_); (try obtain ⟨a7_b5, a7_⟩ := a7_); (repeat' apply And.intro) <;> first | assumption | exact fun e_ => NE_.out k_ ho_ e_.symm | exact fun e_ => NE_.out k_ e_.symm ho_)), by repeat (first | (with_reducible first | exact HB.out | apply below_alloc | apply pw_below_drewN | apply below_drew1 | refine below_set ?_ GE239.out | refine below_set ?_ GE240.out) | exact HB.out), by repeat (first | (with_reducible first | exact HK.out | apply Kept.alloc | apply Kept.drewN | apply Kept.drew | refine Kept.setCell ?_ (.inr GW239.out) _ | refine Kept.setCell ?_ (.inr GW240.out) _) | exact HK.out)⟩
          · rw [if_neg c37] at H
            have c37b0 : decide (4096 ≤ (l0_0.length : Int)) = false := decide_eq_false c37
            have c37b1 : decide (4096 ≤ l0_0.length) = false := decide_eq_false (by omega)
            clear c37
            obtain ⟨y255, hy255⟩ : ∃ y_ : List Int, y_ = (([a1] : List Int)) := ⟨_, rfl⟩
            replace H : ((ploverref14_cut.f l0_0 t241 0 y255).bind fun t258 => ((ploverref14_cut.f l0_1 t241 0 (([a2] : List Int))).bind fun t264 => (some (t258, t264, 0)))) = some (r1, r2, r3) := by first | (rw [hy255]; with_reducible exact H) | (have H2_ := (Option.bind_some _ _).symm.trans H; rw [hy255]; with_reducible exact H2_) | (have H2_ := (Option.bind_some _ _).symm.trans H; with_reducible exact H2_) | with_reducible exact H | (rw [hy255]; exact H) | exact H
            have Ny255 := Aside0.mk hy255
            clear hy255
            replace H := Option.bind_eq_some_iff.mp H
            obtain ⟨t258, A430, H⟩ := H
            replace H : ((ploverref14_cut.f l0_1 t241 0 (([a2] : List Int))).bind fun t264 => (some (t258, t264, 0))) = some (r1, r2, r3) := H
            have A43 := Aside0.mk A430
            clear A430
            obtain ⟨y261, hy261⟩ : ∃ y_ : List Int, y_ = (([a2] : List Int)) := ⟨_, rfl⟩
            replace H : ((ploverref14_cut.f l0_1 t241 0 y261).bind fun t264 => (some (t258, t264, 0))) = some (r1, r2, r3) := by first | (rw [hy261]; with_reducible exact H) | (have H2_ := (Option.bind_some _ _).symm.trans H; rw [hy261]; with_reducible exact H2_) | (have H2_ := (Option.bind_some _ _).symm.trans H; with_reducible exact H2_) | with_reducible exact H | (rw [hy261]; exact H) | exact H
            have Ny261 := Aside0.mk hy261
            clear hy261
            replace H := Option.bind_eq_some_iff.mp H
            obtain ⟨t264, A440, H⟩ := H
            replace H : (some (t258, t264, 0)) = some (r1, r2, r3) := H
            have A44 := Aside0.mk A440
            clear A440
            simp only [Option.some.injEq, Prod.mk.injEq] at H
            obtain ⟨rfl, rfl, rfl⟩ := H
            have hnb45 := NB239_240.out
            have hnc45 := NB240_239.out
            have hcz46_0 : wc.cell? ⟨gb239, 0, none⟩ = some (.slice Ao5 l0_0.length co5) := (blk_cell BK239.out 0).trans rfl
            have hcz46_1 : wc.cell? ⟨gb239, 1, none⟩ = some (.slice Ao6 l0_1.length co6) := (blk_cell BK239.out 1).trans rfl
            have hfz46_0 := blk_frozen BK239.out 0
            have hfz46_1 := blk_frozen BK239.out 1
            try go_wp2_with (first | ((with_reducible refine gate_callee (f := 25) rfl ?_); refine goesL_ (some 21) rfl rfl Try.func25 (by kernel_rfl) rfl #[.agg #[.slice Ao5 l0_0.length co5, .slice Ao6 l0_1.length co6], .int .i64 a1] rfl (by (try simp only [List.map_toArray, List.map_cons, List.map_nil]); first | done | rfl | (simp only [List.length_drop, List.length_take]; rfl)) ?_; (with_reducible refine (ploverref14_place.calls kj3 _ _ l0_0 _ _ l0_1 a1 t241 false _ ?side1 ?side2 ?side3 ?side4 A14.out).mono ?_); (case side1 => repeat (first | exact (Kd.R_reads' HO_240000.out).2.2 | (with_reducible refine Kd.C_alloc ?_ _) | (with_reducible refine Kd.C_drewN ?_ _) | (with_reducible refine Kd.C_drew ?_))); (case side2 => exact (Kd.R_reads' HO_240000.out).2.1); (case side3 => repeat (first | exact (Kd.R_reads' HO_240001.out).2.2 | (with_reducible refine Kd.C_alloc ?_ _) | (with_reducible refine Kd.C_drewN ?_ _) | (with_reducible refine Kd.C_drew ?_))); (case side4 => exact (Kd.R_reads' HO_240001.out).2.1); rintro e w47 ⟨rfl, hb⟩; refine ⟨_, rfl, ?_⟩; have n0_ := Aside0.mk (Kd.R_below (by (with_reducible repeat (first | apply Kd.R_alloc | apply Kd.R_drewN | apply Kd.R_drew)); exact HO_240000.out) hb); have n1_ := Aside0.mk (Kd.R_below (by (with_reducible repeat (first | apply Kd.R_alloc | apply Kd.R_drewN | apply Kd.R_drew)); exact HO_240001.out) hb); have n2_ := Aside0.mk (blk_below (g := gb239) (o := .cells #[.slice Ao5 l0_0.length co5, .slice Ao6 l0_1.length co6] 40 (0, 0)) (by (with_reducible repeat (first | refine blk_drewN ?_ _ | refine blk_drew ?_ | refine blk_alloc ?_ _)); exact BK239.out) hb); have n3_ := Aside0.mk (blk_below (g := gb240) (o := .cells #[.slice none 0 0, .slice none 0 0] 40 (0, 0)) (by (with_reducible repeat (first | refine blk_drewN ?_ _ | refine blk_drew ?_ | refine blk_alloc ?_ _)); exact BK240.out) hb); have n4_ := Aside0.mk (Kept.below (S := (fun k_ => P0_0_ k_ ∨ P0_1_ k_)) (by repeat (first | (with_reducible first | exact HK.out | apply Kept.alloc | apply Kept.drewN | apply Kept.drew | refine Kept.setCell ?_ (.inr GW239.out) _ | refine Kept.setCell ?_ (.inr GW240.out) _) | exact HK.out)) hb); have n5_ := Aside0.mk (below_step (by repeat (first | (with_reducible first | exact HB.out | apply below_alloc | apply pw_below_drewN | apply below_drew1 | refine below_set ?_ GE239.out | refine below_set ?_ GE240.out) | exact HB.out)) hb); clear HO_240000; clear HO_240001; clear BK239; clear BK240; clear HK; clear HB; have HO_240000 := n0_; have HO_240001 := n1_; have BK239 := n2_; have BK240 := n3_; have HK := n4_; have HB := n5_; clear n0_ n1_ n2_ n3_ n4_ n5_; (try clear hb); (try clear hb2); (try clear hk); (try clear hi); have hcz48_0 : w47.cell? ⟨gb239, 0, none⟩ = some (.slice Ao5 l0_0.length co5) := (blk_cell BK239.out 0).trans rfl; have hcz48_1 : w47.cell? ⟨gb239, 1, none⟩ = some (.slice Ao6 l0_1.length co6) := (blk_cell BK239.out 1).trans rfl; have hfz48_0 := blk_frozen BK239.out 0; have hfz48_1 := blk_frozen BK239.out 1))
            have n0_ := Aside0.mk (Kd.R_drew HO_240000.out)
            have n1_ := Aside0.mk (Kd.R_drew HO_240001.out)
            have n2_ := Aside0.mk (blk_drew BK239.out)
            have n3_ := Aside0.mk (blk_drew BK240.out)
            have n4_ := Aside0.mk (Kept.drew HK.out)
            have n5_ := Aside0.mk (below_drew1 HB.out)
            clear HO_240000
            clear HO_240001
            clear BK239
            clear BK240
            clear HK
            clear HB
            have HO_240000 := n0_
            have HO_240001 := n1_
            have BK239 := n2_
            have BK240 := n3_
            have HK := n4_
            have HB := n5_
            clear n0_ n1_ n2_ n3_ n4_ n5_
            refine start_ (n := 17) (S := fun w' => True) (ds := []) #[false, false, false, false, false, false, false, false, false, false, false, false, false, false, false, false, false] (by kernel_rfl) rfl rfl trivial (fun hHeld => ?_); refine with_tabW ploverref14_Set.tab9 ploverref14_Set.bits9 (fun HT_ HW_ => ?_)
            generalize w47.drew = w49 at HO_240000 HO_240001 BK239 BK240 HK HB hHeld ⊢
            refine pure_ (i := 0) (N := some 30) (v := ?_) (a' := ?_) #[true, false, false, false, false, false, false, false, false, false, false, false, false, false, false, false, false] rfl rfl (any_of HT_.out (by kernel_rfl)) (fun _ _ _ h => h) (Or.inl ⟨by rfl, ?_⟩) ?_ ?_
            rotate_left
            · intro w'
              go_simp
              with_reducible rfl
            rotate_left
            · simp only [Act.put, List.setIfInBounds_toArray, List.set_cons_zero, List.set_cons_succ, i64_w, i32_w]
              rfl
            refine pure_ (i := 2) (N := some 32) (v := ?_) (a' := ?_) #[true, false, true, false, false, false, false, false, false, false, false, false, false, false, false, false, false] rfl rfl (any_of HT_.out (by kernel_rfl)) (fun _ _ _ h => h) (Or.inl ⟨by rfl, ?_⟩) ?_ ?_
            rotate_left
            · intro w'
              go_simp
              with_reducible rfl
            rotate_left
            · simp only [Act.put, List.setIfInBounds_toArray, List.set_cons_zero, List.set_cons_succ, i64_w, i32_w]
              rfl
            refine pure_ (i := 3) (N := some 33) (v := ?_) (a' := ?_) #[true, false, true, true, false, false, false, false, false, false, false, false, false, false, false, false, false] rfl rfl (any_of HT_.out (by kernel_rfl)) (fun _ _ _ h => h) (Or.inl ⟨by rfl, ?_⟩) ?_ ?_
            rotate_left
            · intro w'
              go_simp
              with_reducible rfl
            rotate_left
            · simp only [Act.put, List.setIfInBounds_toArray, List.set_cons_zero, List.set_cons_succ, i64_w, i32_w]
              rfl
            refine pure_ (i := 4) (N := some 34) (v := ?_) (a' := ?_) #[true, false, true, true, true, false, false, false, false, false, false, false, false, false, false, false, false] rfl rfl (any_of HT_.out (by kernel_rfl)) (fun _ _ _ h => h) (Or.inl ⟨by rfl, ?_⟩) ?_ ?_
            rotate_left
            · intro w'
              go_simp
              with_reducible rfl
            rotate_left
            · simp only [Act.put, List.setIfInBounds_toArray, List.set_cons_zero, List.set_cons_succ, i64_w, i32_w]
              rfl
            refine pure_ (i := 7) (N := some 37) (v := ?_) (a' := ?_) #[true, false, true, true, true, false, false, true, false, false, false, false, false, false, false, false, false] rfl rfl (any_of HT_.out (by kernel_rfl)) (fun _ _ _ h => h) (Or.inl ⟨by rfl, ?_⟩) ?_ ?_
            rotate_left
            · intro w'
              go_simp
              with_reducible rfl
            rotate_left
            · simp only [Act.put, List.setIfInBounds_toArray, List.set_cons_zero, List.set_cons_succ, i64_w, i32_w]
              rfl
            refine pure_ (i := 9) (N := some 39) (v := ?_) (a' := ?_) #[true, false, true, true, true, false, false, true, false, true, false, false, false, false, false, false, false] rfl rfl (any_of HT_.out (by kernel_rfl)) (fun _ _ _ h => h) (Or.inl ⟨by rfl, ?_⟩) ?_ ?_
            rotate_left
            · intro w'
              go_simp
              with_reducible rfl
            rotate_left
            · simp only [Act.put, List.setIfInBounds_toArray, List.set_cons_zero, List.set_cons_succ, i64_w, i32_w]
              rfl
            refine pure_ (i := 10) (N := some 40) (v := ?_) (a' := ?_) #[true, false, true, true, true, false, false, true, false, true, true, false, false, false, false, false, false] rfl rfl (any_of HT_.out (by kernel_rfl)) (fun _ _ _ h => h) (Or.inl ⟨by rfl, ?_⟩) ?_ ?_
            rotate_left
            · intro w'
              go_simp
              with_reducible rfl
            rotate_left
            · simp only [Act.put, List.setIfInBounds_toArray, List.set_cons_zero, List.set_cons_succ, i64_w, i32_w]
              rfl
            refine pure_ (i := 11) (N := some 41) (v := ?_) (a' := ?_) #[true, false, true, true, true, false, false, true, false, true, true, true, false, false, false, false, false] rfl rfl (any_of HT_.out (by kernel_rfl)) (fun _ _ _ h => h) (Or.inl ⟨by rfl, ?_⟩) ?_ ?_
            rotate_left
            · intro w'
              go_simp
              with_reducible rfl
            rotate_left
            · simp only [Act.put, List.setIfInBounds_toArray, List.set_cons_zero, List.set_cons_succ, i64_w, i32_w]
              rfl
            refine inv_at [1, 5, 6, 8, 12, 13, 14, 15, 16] (fun a0_ b a w' => ∃ (v256 : Value) (v259 : Value) (v262 : Value) (v265 : Value) (m14_ : Value), a = putSel a0_ b [(1, 31, .slice Ao5 l0_0.length co5), (5, 35, v256), (6, 36, v259), (8, 38, .slice Ao6 l0_1.length co6), (12, 42, v262), (13, 43, v265), (14, 44, m14_), (16, 7, .int .i64 0)] ∧ (Kd.R (Kd.int .i64) 3 w' w0.heap.size (fun k_ => ((P0_0_ k_ ∨ P0_1_ k_) ∨ w.heap.size ≤ k_) ∧ some k_ ≠ (.slice Ao6 l0_1.length co6 : Value).ownBlock) (.slice Ao5 l0_0.length co5) l0_0) ∧ (Kd.R (Kd.int .i64) 3 w' w0.heap.size (fun k_ => ((P0_0_ k_ ∨ P0_1_ k_) ∨ w.heap.size ≤ k_) ∧ some k_ ≠ (.slice Ao5 l0_0.length co5 : Value).ownBlock) (.slice Ao6 l0_1.length co6) l0_1) ∧ (w'.heap[gb239]? = some (.cells #[.slice Ao5 l0_0.length co5, .slice Ao6 l0_1.length co6] 40 (0, 0))) ∧ (b 15 = false → w'.heap[gb240]? = some (.cells #[.slice none 0 0, .slice none 0 0] 40 (0, 0))) ∧ (Kept w w' (fun k_ => P0_0_ k_ ∨ P0_1_ k_)) ∧ (Below w0.heap.size w0 w') ∧ (b 5 = true → Kd.R (Kd.int .i64) 3 w' w0.heap.size (fun k_ => ((P0_0_ k_ ∨ P0_1_ k_) ∨ w.heap.size ≤ k_) ∧ some k_ ≠ (.slice Ao5 l0_0.length co5 : Value).ownBlock ∧ some k_ ≠ (.slice Ao6 l0_1.length co6 : Value).ownBlock) v256 y255) ∧ (b 6 = true → Kd.R (Kd.int .i64) 3 w' w0.heap.size (fun k_ => ((P0_0_ k_ ∨ P0_1_ k_) ∨ w.heap.size ≤ k_) ∧ some k_ ≠ (.slice Ao5 l0_0.length co5 : Value).ownBlock ∧ some k_ ≠ (.slice Ao6 l0_1.length co6 : Value).ownBlock) v259 t258) ∧ (b 12 = true → Kd.R (Kd.int .i64) 3 w' w0.heap.size (fun k_ => ((P0_0_ k_ ∨ P0_1_ k_) ∨ w.heap.size ≤ k_) ∧ some k_ ≠ (.slice Ao5 l0_0.length co5 : Value).ownBlock ∧ some k_ ≠ (.slice Ao6 l0_1.length co6 : Value).ownBlock) v262 y261) ∧ (b 13 = true → Kd.R (Kd.int .i64) 3 w' w0.heap.size (fun k_ => ((P0_0_ k_ ∨ P0_1_ k_) ∨ w.heap.size ≤ k_) ∧ some k_ ≠ (.slice Ao5 l0_0.length co5 : Value).ownBlock ∧ some k_ ≠ (.slice Ao6 l0_1.length co6 : Value).ownBlock) v265 t264) ∧ (b 15 = true → w'.heap[gb240]? = some (.cells #[v259, v265] 40 (0, 0))) ∧ (b 14 = true → (m14_ : Value) = .agg #[v259, v265]) ∧ (b 13 = true → ∀ k_, v259.ownBlock = some k_ → v265.ownBlock = some k_ → False)) HT_.out HW_.out (by kernel_rfl) (by kernel_rfl) ?_ ?_ ?_
            · exact ⟨.bool false, .bool false, .bool false, .bool false, .bool false, by simp only [putSel, Bool.false_eq_true, if_false], HO_240000.out, HO_240001.out, BK239.out, fun _ => BK240.out, HK.out, HB.out, fun h_ => absurd h_ (by decide), fun h_ => absurd h_ (by decide), fun h_ => absurd h_ (by decide), fun h_ => absurd h_ (by decide), fun h_ => absurd h_ (by decide), fun h_ => absurd h_ (by decide), fun h_ => absurd h_ (by decide)⟩
            · skip
              clear BK239 BK240 HB HK HO_240000 HO_240001
              refine steps_cons ?_ ?_
              · rintro b a w' ⟨v256, v259, v262, v265, m14_, ha, Q_HO_240000, Q_HO_240001, Q_BK239, Q_BK240, Q_HK, Q_HB, Q_HO257, Q_HO260, Q_HO263, Q_HO266, Q_BK240_e15, Q_X14_, Q_NE_⟩ hb_ hon hoff
                refine ⟨_, rfl, fun K hK => ?_⟩
                have e30 : a.tmps[30]? = some (.pointer (some ⟨gb239, 0, none⟩)) := by rw [ha]; exact (putSel_off rfl).trans rfl
                replace ha := Aside0.mk ha
                have HO_240000 := Aside0.mk Q_HO_240000
                have HO_240001 := Aside0.mk Q_HO_240001
                have BK239 := Aside0.mk Q_BK239
                have BK240 := Aside0.mk (Q_BK240 (hoff 15 (by kernel_rfl)))
                have HK := Aside0.mk Q_HK
                have HB := Aside0.mk Q_HB
                have hc0_ : w'.cell? ⟨gb239, 0, none⟩ = some (.slice Ao5 l0_0.length co5) := (blk_cell BK239.out 0).trans rfl
                have hc1_ : w'.cell? ⟨gb239, 1, none⟩ = some (.slice Ao6 l0_1.length co6) := (blk_cell BK239.out 1).trans rfl
                refine value_ (w1 := w') (v := .slice Ao5 l0_0.length co5) (by rfl) rfl ?_ ?_
                · go_simp
                  (try simp only [i64_w])
                  try rfl
                refine hK.out _ _ ⟨v256, v259, v262, v265, m14_, (by rw [ha.out]; exact putSel_upk 0 hb_ rfl rfl rfl), Q_HO_240000, Q_HO_240001, Q_BK239, Q_BK240, Q_HK, Q_HB, Q_HO257, fun h0_ => absurd ((hoff 6 (by kernel_rfl)).symm.trans h0_) (by decide), Q_HO263, fun h0_ => absurd ((hoff 13 (by kernel_rfl)).symm.trans h0_) (by decide), fun h0_ => absurd ((hoff 15 (by kernel_rfl)).symm.trans h0_) (by decide), fun h0_ => absurd ((hoff 14 (by kernel_rfl)).symm.trans h0_) (by decide), (by first | exact Q_NE_ | exact (fun _ => ne13_) | exact (fun h0_ => absurd ((hoff 13 (by kernel_rfl)).symm.trans h0_) (by decide)))⟩
              refine steps_cons ?_ ?_
              · rintro b a w' ⟨v256, v259, v262, v265, m14_, ha, Q_HO_240000, Q_HO_240001, Q_BK239, Q_BK240, Q_HK, Q_HB, Q_HO257, Q_HO260, Q_HO263, Q_HO266, Q_BK240_e15, Q_X14_, Q_NE_⟩ hb_ hon hoff
                refine ⟨_, rfl, fun K hK => ?_⟩
                have e34 : a.tmps[34]? = some (.int .i64 a1) := by rw [ha]; exact (putSel_off rfl).trans rfl
                replace ha := Aside0.mk ha
                have HO_240000 := Aside0.mk Q_HO_240000
                have HO_240001 := Aside0.mk Q_HO_240001
                have BK239 := Aside0.mk Q_BK239
                have BK240 := Aside0.mk (Q_BK240 (hoff 15 (by kernel_rfl)))
                have HK := Aside0.mk Q_HK
                have HB := Aside0.mk Q_HB
                refine Kd.R_lit_step (Kd.int .i64) _ 3 ?hg (N := 35) ?hd (xs := ([a1] : List Int)) (inner := [.int .i64 a1]) (ok := fun _ => True) (okp := fun _ => True) ?hr ?hp (fun _ hk => hk) trivial (Below.refl _ _) (Nat.le_refl _) (by simp) ?_; (case hd => rfl); (case hg => rfl); (case hr => first | (go_simp; done) | (go_simp; rfl)); (case hp => exact (Reps.one (show Kd.M (Kd.int .i64) _ _ _ a1 [.int .i64 a1] from rfl) (Reps.none _ _)))
                intro v256 w50 ho51 hb hg_ hnew_
                clear hg_ hnew_
                (first | rw [← Ny255.out] at ho51 | (simp only [Int.reduceToNat] at ho51; rw [← Ny255.out] at ho51))
                have n0_ := Aside0.mk (Kd.R_elder' (by (with_reducible repeat (first | apply Kd.R_alloc | apply Kd.R_drewN | apply Kd.R_drew)); exact HO_240000.out) (Kd.R_base ho51) hb)
                have n1_ := Aside0.mk (Kd.R_elder' (by (with_reducible repeat (first | apply Kd.R_alloc | apply Kd.R_drewN | apply Kd.R_drew)); exact HO_240001.out) (Kd.R_base ho51) hb)
                have n2_ := Aside0.mk (Kd.R_lower (Kd.R_new' (Kd.R_new' (Kd.R_newM (M := fun k_ => ((P0_0_ k_ ∨ P0_1_ k_) ∨ w.heap.size ≤ k_)) ho51 (by first | exact HK.out.1 | exact (show Kept w _ (fun k_ => P0_0_ k_ ∨ P0_1_ k_) from by repeat (first | (with_reducible first | exact HK.out | apply Kept.alloc | apply Kept.drewN | apply Kept.drew | refine Kept.setCell ?_ (.inr GW239.out) _ | refine Kept.setCell ?_ (.inr GW240.out) _) | exact HK.out)).1) (fun k_ h_ => .inr h_)) (Kd.R_lt (by (with_reducible repeat (first | apply Kd.R_alloc | apply Kd.R_drewN | apply Kd.R_drew)); exact HO_240000.out))) (Kd.R_lt (by (with_reducible repeat (first | apply Kd.R_alloc | apply Kd.R_drewN | apply Kd.R_drew)); exact HO_240001.out))) (below_size (by repeat (first | (with_reducible first | exact HB.out | apply below_alloc | apply pw_below_drewN | apply below_drew1 | refine below_set ?_ GE239.out | refine below_set ?_ GE240.out) | exact HB.out))))
                have n3_ := Aside0.mk (blk_below (g := gb239) (o := .cells #[.slice Ao5 l0_0.length co5, .slice Ao6 l0_1.length co6] 40 (0, 0)) (by (with_reducible repeat (first | refine blk_drewN ?_ _ | refine blk_drew ?_ | refine blk_alloc ?_ _)); exact BK239.out) hb)
                have n4_ := Aside0.mk (blk_below (g := gb240) (o := .cells #[.slice none 0 0, .slice none 0 0] 40 (0, 0)) (by (with_reducible repeat (first | refine blk_drewN ?_ _ | refine blk_drew ?_ | refine blk_alloc ?_ _)); exact BK240.out) hb)
                have n5_ := Aside0.mk (Kept.below (S := (fun k_ => P0_0_ k_ ∨ P0_1_ k_)) (by repeat (first | (with_reducible first | exact HK.out | apply Kept.alloc | apply Kept.drewN | apply Kept.drew | refine Kept.setCell ?_ (.inr GW239.out) _ | refine Kept.setCell ?_ (.inr GW240.out) _) | exact HK.out)) hb)
                have n6_ := Aside0.mk (below_step (by repeat (first | (with_reducible first | exact HB.out | apply below_alloc | apply pw_below_drewN | apply below_drew1 | refine below_set ?_ GE239.out | refine below_set ?_ GE240.out) | exact HB.out)) hb)
                have z_HO263 := fun (h0_ : b 12 = true) => (show Kd.R (Kd.int .i64) 3 w50 w0.heap.size (fun k_ => ((P0_0_ k_ ∨ P0_1_ k_) ∨ w.heap.size ≤ k_) ∧ some k_ ≠ (.slice Ao5 l0_0.length co5 : Value).ownBlock ∧ some k_ ≠ (.slice Ao6 l0_1.length co6 : Value).ownBlock) v262 y261 from by first | exact (Kd.R_elder' (by (with_reducible repeat (first | apply Kd.R_alloc | apply Kd.R_drewN | apply Kd.R_drew)); exact (Q_HO263 h0_)) (Kd.R_base ho51) hb) | exact Kd.R_mono (Kd.R_elder' (by (with_reducible repeat (first | apply Kd.R_alloc | apply Kd.R_drewN | apply Kd.R_drew)); exact (Q_HO263 h0_)) (Kd.R_base ho51) hb) (fun _ h_ => by first | trivial | exact h_ | exact h_.1))
                clear HO_240000
                clear HO_240001
                clear BK239
                clear BK240
                clear HK
                clear HB
                have HO_240000 := n0_
                have HO_240001 := n1_
                have HO257 := n2_
                have BK239 := n3_
                have BK240 := n4_
                have HK := n5_
                have HB := n6_
                clear n0_ n1_ n2_ n3_ n4_ n5_ n6_
                clear hb ho51
                refine hK.out _ _ ⟨v256, v259, v262, v265, m14_, (by rw [ha.out]; exact putSel_upk 1 hb_ rfl rfl rfl), (by (with_reducible repeat (first | apply Kd.R_alloc | apply Kd.R_drewN | apply Kd.R_drew)); exact Kd.R_mono HO_240000.out (fun _ hk => by (obtain ⟨a1_, a2_⟩ := hk; (try obtain ⟨a1_, a3_⟩ := a1_); (try obtain ⟨a1_, a4_⟩ := a1_); (try obtain ⟨a1_, a5_⟩ := a1_); (try obtain ⟨a1_, a6_⟩ := a1_); (try obtain ⟨a1_, a7_⟩ := a1_); (try obtain ⟨a2_b1, a2_⟩ := a2_); (try obtain ⟨a2_b2, a2_⟩ := a2_); (try obtain ⟨a2_b3, a2_⟩ := a2_); (try obtain ⟨a2_b4, a2_⟩ := a2_); (try obtain ⟨a2_b5, a2_⟩ := a2_); (try obtain ⟨a3_b1, a3_⟩ := a3_); (try obtain ⟨a3_b2, a3_⟩ := a3_); (try obtain ⟨a3_b3, a3_⟩ := a3_); (try obtain ⟨a3_b4, a3_⟩ := a3_); (try obtain ⟨a3_b5, a3_⟩ := a3_); (try obtain ⟨a4_b1, a4_⟩ := a4_); (try obtain ⟨a4_b2, a4_⟩ := a4_); (try obtain ⟨a4_b3, a4_⟩ := a4_); (try obtain ⟨a4_b4, a4_⟩ := a4_); (try obtain ⟨a4_b5, a4_⟩ := a4_); (try obtain ⟨a5_b1, a5_⟩ := a5_); (try obtain ⟨a5_b2, a5_⟩ := a5_); (try obtain ⟨a5_b3, a5_⟩ := a5_); (try obtain ⟨a5_b4, a5_⟩ := a5_); (try obtain ⟨a5_b5, a5_⟩ := a5_); (try obtain ⟨a6_b1, a6_⟩ := a6_); (try obtain ⟨a6_b2, a6_⟩ := a6_); (try obtain ⟨a6_b3, a6_⟩ := a6_); (try obtain ⟨a6_b4, a6_⟩ := a6_); (try obtain ⟨a6_b5, a6_⟩ := a6_); (try obtain ⟨a7_b1, a7_⟩ := a7_); (try obtain ⟨a7_b2, a7_⟩ := a7_); (try obtain ⟨a7_b3, a7_⟩ := a7_); (try obtain ⟨a7_b4, a7_⟩ := a7_); (try obtain ⟨a7_b5, a7_⟩ := a7_); (repeat' apply And.intro) <;> assumption))), (by (with_reducible repeat (first | apply Kd.R_alloc | apply Kd.R_drewN | apply Kd.R_drew)); exact Kd.R_mono HO_240001.out (fun _ hk => by (obtain ⟨a1_, a2_⟩ := hk; (try obtain ⟨a1_, a3_⟩ := a1_); (try obtain ⟨a1_, a4_⟩ := a1_); (try obtain ⟨a1_, a5_⟩ := a1_); (try obtain ⟨a1_, a6_⟩ := a1_); (try obtain ⟨a1_, a7_⟩ := a1_); (try obtain ⟨a2_b1, a2_⟩ := a2_); (try obtain ⟨a2_b2, a2_⟩ := a2_); (try obtain ⟨a2_b3, a2_⟩ := a2_); (try obtain ⟨a2_b4, a2_⟩ := a2_); (try obtain ⟨a2_b5, a2_⟩ := a2_); (try obtain ⟨a3_b1, a3_⟩ := a3_); (try obtain ⟨a3_b2, a3_⟩ := a3_); (try obtain ⟨a3_b3, a3_⟩ := a3_); (try obtain ⟨a3_b4, a3_⟩ := a3_); (try obtain ⟨a3_b5, a3_⟩ := a3_); (try obtain ⟨a4_b1, a4_⟩ := a4_); (try obtain ⟨a4_b2, a4_⟩ := a4_); (try obtain ⟨a4_b3, a4_⟩ := a4_); (try obtain ⟨a4_b4, a4_⟩ := a4_); (try obtain ⟨a4_b5, a4_⟩ := a4_); (try obtain ⟨a5_b1, a5_⟩ := a5_); (try obtain ⟨a5_b2, a5_⟩ := a5_); (try obtain ⟨a5_b3, a5_⟩ := a5_); (try obtain ⟨a5_b4, a5_⟩ := a5_); (try obtain ⟨a5_b5, a5_⟩ := a5_); (try obtain ⟨a6_b1, a6_⟩ := a6_); (try obtain ⟨a6_b2, a6_⟩ := a6_); (try obtain ⟨a6_b3, a6_⟩ := a6_); (try obtain ⟨a6_b4, a6_⟩ := a6_); (try obtain ⟨a6_b5, a6_⟩ := a6_); (try obtain ⟨a7_b1, a7_⟩ := a7_); (try obtain ⟨a7_b2, a7_⟩ := a7_); (try obtain ⟨a7_b3, a7_⟩ := a7_); (try obtain ⟨a7_b4, a7_⟩ := a7_); (try obtain ⟨a7_b5, a7_⟩ := a7_); (repeat' apply And.intro) <;> assumption))), (by (with_reducible repeat (first | refine blk_drewN ?_ _ | refine blk_drew ?_ | refine blk_alloc ?_ _)); exact BK239.out), fun _ => (by (with_reducible repeat (first | refine blk_drewN ?_ _ | refine blk_drew ?_ | refine blk_alloc ?_ _)); exact BK240.out), (by repeat (first | (with_reducible first | exact HK.out | apply Kept.alloc | apply Kept.drewN | apply Kept.drew | refine Kept.setCell ?_ (.inr GW239.out) _ | refine Kept.setCell ?_ (.inr GW240.out) _) | exact HK.out)), (by repeat (first | (with_reducible first | exact HB.out | apply below_alloc | apply pw_below_drewN | apply below_drew1 | refine below_set ?_ GE239.out | refine below_set ?_ GE240.out) | exact HB.out)), fun _ => (by (with_reducible repeat (first | apply Kd.R_alloc | apply Kd.R_drewN | apply Kd.R_drew)); exact Kd.R_mono HO257.out (fun _ hk => by (obtain ⟨a1_, a2_⟩ := hk; (try obtain ⟨a1_, a3_⟩ := a1_); (try obtain ⟨a1_, a4_⟩ := a1_); (try obtain ⟨a1_, a5_⟩ := a1_); (try obtain ⟨a1_, a6_⟩ := a1_); (try obtain ⟨a1_, a7_⟩ := a1_); (try obtain ⟨a2_b1, a2_⟩ := a2_); (try obtain ⟨a2_b2, a2_⟩ := a2_); (try obtain ⟨a2_b3, a2_⟩ := a2_); (try obtain ⟨a2_b4, a2_⟩ := a2_); (try obtain ⟨a2_b5, a2_⟩ := a2_); (try obtain ⟨a3_b1, a3_⟩ := a3_); (try obtain ⟨a3_b2, a3_⟩ := a3_); (try obtain ⟨a3_b3, a3_⟩ := a3_); (try obtain ⟨a3_b4, a3_⟩ := a3_); (try obtain ⟨a3_b5, a3_⟩ := a3_); (try obtain ⟨a4_b1, a4_⟩ := a4_); (try obtain ⟨a4_b2, a4_⟩ := a4_); (try obtain ⟨a4_b3, a4_⟩ := a4_); (try obtain ⟨a4_b4, a4_⟩ := a4_); (try obtain ⟨a4_b5, a4_⟩ := a4_); (try obtain ⟨a5_b1, a5_⟩ := a5_); (try obtain ⟨a5_b2, a5_⟩ := a5_); (try obtain ⟨a5_b3, a5_⟩ := a5_); (try obtain ⟨a5_b4, a5_⟩ := a5_); (try obtain ⟨a5_b5, a5_⟩ := a5_); (try obtain ⟨a6_b1, a6_⟩ := a6_); (try obtain ⟨a6_b2, a6_⟩ := a6_); (try obtain ⟨a6_b3, a6_⟩ := a6_); (try obtain ⟨a6_b4, a6_⟩ := a6_); (try obtain ⟨a6_b5, a6_⟩ := a6_); (try obtain ⟨a7_b1, a7_⟩ := a7_); (try obtain ⟨a7_b2, a7_⟩ := a7_); (try obtain ⟨a7_b3, a7_⟩ := a7_); (try obtain ⟨a7_b4, a7_⟩ := a7_); (try obtain ⟨a7_b5, a7_⟩ := a7_); (repeat' apply And.intro) <;> assumption))), fun h0_ => absurd ((hoff 6 (by kernel_rfl)).symm.trans h0_) (by decide), z_HO263, fun h0_ => absurd ((hoff 13 (by kernel_rfl)).symm.trans h0_) (by decide), fun h0_ => absurd ((hoff 15 (by kernel_rfl)).symm.trans h0_) (by decide), fun h0_ => absurd ((hoff 14 (by kernel_rfl)).symm.trans h0_) (by decide), (by first | exact Q_NE_ | exact (fun _ => ne13_) | exact (fun h0_ => absurd ((hoff 13 (by kernel_rfl)).symm.trans h0_) (by decide)))⟩
              refine steps_cons ?_ ?_
              · rintro b a w' ⟨v256, v259, v262, v265, m14_, ha, Q_HO_240000, Q_HO_240001, Q_BK239, Q_BK240, Q_HK, Q_HB, Q_HO257, Q_HO260, Q_HO263, Q_HO266, Q_BK240_e15, Q_X14_, Q_NE_⟩ hb_ hon hoff
                refine ⟨_, rfl, fun K hK => ?_⟩
                have e31 : a.tmps[31]? = some (.slice Ao5 l0_0.length co5) := by rw [ha]; exact putSel_on (e := (1, 31, .slice Ao5 l0_0.length co5)) 0 rfl rfl (hon 1 (by kernel_rfl)) rfl
                have e32 : a.tmps[32]? = some (.int .i64 t241) := by rw [ha]; exact (putSel_off rfl).trans rfl
                have e33 : a.tmps[33]? = some (.int .i64 0) := by rw [ha]; exact (putSel_off rfl).trans rfl
                have e35 : a.tmps[35]? = some (v256) := by rw [ha]; exact putSel_on (e := (5, 35, v256)) 1 rfl rfl (hon 5 (by kernel_rfl)) rfl
                replace ha := Aside0.mk ha
                have HO_240000 := Aside0.mk Q_HO_240000
                have HO_240001 := Aside0.mk Q_HO_240001
                have BK239 := Aside0.mk Q_BK239
                have BK240 := Aside0.mk (Q_BK240 (hoff 15 (by kernel_rfl)))
                have HK := Aside0.mk Q_HK
                have HB := Aside0.mk Q_HB
                have HO257 := Aside0.mk (Q_HO257 (hon 5 (by kernel_rfl)))
                obtain ⟨Ao53, co53, eo53⟩ := Kd.R_slice HO257.out
                (first | subst eo53 | (injection eo53 with f1_ f2_ f3_; have f4_ := f1_.symm; have f5_ := f3_.symm; clear f1_ f2_ f3_; subst f4_; subst f5_))
                refine goes_ Try.func26 (by kernel_rfl) rfl #[.slice Ao5 l0_0.length co5, .int .i64 t241, .int .i64 0, .slice Ao53 y255.length co53] (by rfl) rfl rfl (by first | (simp only [List.map_toArray, List.map_cons, List.map_nil, Act.eval, Array.getD_eq_getD_getElem?, Option.getD_some, e31, e32, e33, e35]; done) | (simp only [List.map_toArray, List.map_cons, List.map_nil, Act.eval, Array.getD_eq_getD_getElem?, Option.getD_some, e31, e32, e33, e35]; rfl)) ?_
                with_reducible refine (ploverref14_cut.calls _ _ l0_0 t241 0 _ _ y255 t258 _ ?side1 ?side2 ?side3 ?side4 A43.out).mono ?_
                (case side1 => repeat (first | exact (Kd.R_reads' HO_240000.out).2.2 | (with_reducible refine Kd.C_alloc ?_ _) | (with_reducible refine Kd.C_drewN ?_ _) | (with_reducible refine Kd.C_drew ?_)))
                (case side2 => exact (Kd.R_reads' HO_240000.out).2.1)
                (case side3 => repeat (first | exact (Kd.R_reads' HO257.out).2.2 | (with_reducible refine Kd.C_alloc ?_ _) | (with_reducible refine Kd.C_drewN ?_ _) | (with_reducible refine Kd.C_drew ?_)))
                (case side4 => exact (Kd.R_reads' HO257.out).2.1)
                rintro e w54 ⟨v259, rfl, ho0, hb⟩
                refine ⟨_, rfl, ?_⟩
                have n0_ := Aside0.mk (Kd.R_elder' (by (with_reducible repeat (first | apply Kd.R_alloc | apply Kd.R_drewN | apply Kd.R_drew)); exact HO_240000.out) (Kd.R_base ho0) hb)
                have n1_ := Aside0.mk (Kd.R_elder' (by (with_reducible repeat (first | apply Kd.R_alloc | apply Kd.R_drewN | apply Kd.R_drew)); exact HO_240001.out) (Kd.R_base ho0) hb)
                have n2_ := Aside0.mk (Kd.R_elder' (by (with_reducible repeat (first | apply Kd.R_alloc | apply Kd.R_drewN | apply Kd.R_drew)); exact HO257.out) (Kd.R_base ho0) hb)
                have n3_ := Aside0.mk (Kd.R_lower (Kd.R_new' (Kd.R_new' (Kd.R_new' (Kd.R_newM (M := fun k_ => ((P0_0_ k_ ∨ P0_1_ k_) ∨ w.heap.size ≤ k_)) ho0 (by first | exact HK.out.1 | exact (show Kept w _ (fun k_ => P0_0_ k_ ∨ P0_1_ k_) from by repeat (first | (with_reducible first | exact HK.out | apply Kept.alloc | apply Kept.drewN | apply Kept.drew | refine Kept.setCell ?_ (.inr GW239.out) _ | refine Kept.setCell ?_ (.inr GW240.out) _) | exact HK.out)).1) (fun k_ h_ => .inr h_)) (Kd.R_lt (by (with_reducible repeat (first | apply Kd.R_alloc | apply Kd.R_drewN | apply Kd.R_drew)); exact HO_240000.out))) (Kd.R_lt (by (with_reducible repeat (first | apply Kd.R_alloc | apply Kd.R_drewN | apply Kd.R_drew)); exact HO_240001.out))) (Kd.R_lt (by (with_reducible repeat (first | apply Kd.R_alloc | apply Kd.R_drewN | apply Kd.R_drew)); exact HO257.out))) (below_size (by repeat (first | (with_reducible first | exact HB.out | apply below_alloc | apply pw_below_drewN | apply below_drew1 | refine below_set ?_ GE239.out | refine below_set ?_ GE240.out) | exact HB.out))))
                have n4_ := Aside0.mk (blk_below (g := gb239) (o := .cells #[.slice Ao5 l0_0.length co5, .slice Ao6 l0_1.length co6] 40 (0, 0)) (by (with_reducible repeat (first | refine blk_drewN ?_ _ | refine blk_drew ?_ | refine blk_alloc ?_ _)); exact BK239.out) hb)
                have n5_ := Aside0.mk (blk_below (g := gb240) (o := .cells #[.slice none 0 0, .slice none 0 0] 40 (0, 0)) (by (with_reducible repeat (first | refine blk_drewN ?_ _ | refine blk_drew ?_ | refine blk_alloc ?_ _)); exact BK240.out) hb)
                have n6_ := Aside0.mk (Kept.below (S := (fun k_ => P0_0_ k_ ∨ P0_1_ k_)) (by repeat (first | (with_reducible first | exact HK.out | apply Kept.alloc | apply Kept.drewN | apply Kept.drew | refine Kept.setCell ?_ (.inr GW239.out) _ | refine Kept.setCell ?_ (.inr GW240.out) _) | exact HK.out)) hb)
                have n7_ := Aside0.mk (below_step (by repeat (first | (with_reducible first | exact HB.out | apply below_alloc | apply pw_below_drewN | apply below_drew1 | refine below_set ?_ GE239.out | refine below_set ?_ GE240.out) | exact HB.out)) hb)
                have z_HO263 := fun (h0_ : b 12 = true) => (show Kd.R (Kd.int .i64) 3 w54 w0.heap.size (fun k_ => ((P0_0_ k_ ∨ P0_1_ k_) ∨ w.heap.size ≤ k_) ∧ some k_ ≠ (.slice Ao5 l0_0.length co5 : Value).ownBlock ∧ some k_ ≠ (.slice Ao6 l0_1.length co6 : Value).ownBlock) v262 y261 from by first | exact (Kd.R_elder' (by (with_reducible repeat (first | apply Kd.R_alloc | apply Kd.R_drewN | apply Kd.R_drew)); exact (Q_HO263 h0_)) (Kd.R_base ho0) hb) | exact Kd.R_mono (Kd.R_elder' (by (with_reducible repeat (first | apply Kd.R_alloc | apply Kd.R_drewN | apply Kd.R_drew)); exact (Q_HO263 h0_)) (Kd.R_base ho0) hb) (fun _ h_ => by first | trivial | exact h_ | exact h_.1))
                clear HO_240000
                clear HO_240001
                clear HO257
                clear BK239
                clear BK240
                clear HK
                clear HB
                have HO_240000 := n0_
                have HO_240001 := n1_
                have HO257 := n2_
                have HO260 := n3_
                have BK239 := n4_
                have BK240 := n5_
                have HK := n6_
                have HB := n7_
                clear n0_ n1_ n2_ n3_ n4_ n5_ n6_ n7_
                (try clear hb)
                (try clear hb2)
                (try clear hk)
                (try clear hi)
                (try clear ho0)
                refine hK.out _ _ ⟨.slice Ao53 y255.length co53, v259, v262, v265, m14_, (by rw [ha.out]; exact putSel_upk 2 hb_ rfl rfl rfl), (by (with_reducible repeat (first | apply Kd.R_alloc | apply Kd.R_drewN | apply Kd.R_drew)); exact Kd.R_mono HO_240000.out (fun _ hk => by (obtain ⟨a1_, a2_⟩ := hk; (try obtain ⟨a1_, a3_⟩ := a1_); (try obtain ⟨a1_, a4_⟩ := a1_); (try obtain ⟨a1_, a5_⟩ := a1_); (try obtain ⟨a1_, a6_⟩ := a1_); (try obtain ⟨a1_, a7_⟩ := a1_); (try obtain ⟨a2_b1, a2_⟩ := a2_); (try obtain ⟨a2_b2, a2_⟩ := a2_); (try obtain ⟨a2_b3, a2_⟩ := a2_); (try obtain ⟨a2_b4, a2_⟩ := a2_); (try obtain ⟨a2_b5, a2_⟩ := a2_); (try obtain ⟨a3_b1, a3_⟩ := a3_); (try obtain ⟨a3_b2, a3_⟩ := a3_); (try obtain ⟨a3_b3, a3_⟩ := a3_); (try obtain ⟨a3_b4, a3_⟩ := a3_); (try obtain ⟨a3_b5, a3_⟩ := a3_); (try obtain ⟨a4_b1, a4_⟩ := a4_); (try obtain ⟨a4_b2, a4_⟩ := a4_); (try obtain ⟨a4_b3, a4_⟩ := a4_); (try obtain ⟨a4_b4, a4_⟩ := a4_); (try obtain ⟨a4_b5, a4_⟩ := a4_); (try obtain ⟨a5_b1, a5_⟩ := a5_); (try obtain ⟨a5_b2, a5_⟩ := a5_); (try obtain ⟨a5_b3, a5_⟩ := a5_); (try obtain ⟨a5_b4, a5_⟩ := a5_); (try obtain ⟨a5_b5, a5_⟩ := a5_); (try obtain ⟨a6_b1, a6_⟩ := a6_); (try obtain ⟨a6_b2, a6_⟩ := a6_); (try obtain ⟨a6_b3, a6_⟩ := a6_); (try obtain ⟨a6_b4, a6_⟩ := a6_); (try obtain ⟨a6_b5, a6_⟩ := a6_); (try obtain ⟨a7_b1, a7_⟩ := a7_); (try obtain ⟨a7_b2, a7_⟩ := a7_); (try obtain ⟨a7_b3, a7_⟩ := a7_); (try obtain ⟨a7_b4, a7_⟩ := a7_); (try obtain ⟨a7_b5, a7_⟩ := a7_); (repeat' apply And.intro) <;> assumption))), (by (with_reducible repeat (first | apply Kd.R_alloc | apply Kd.R_drewN | apply Kd.R_drew)); exact Kd.R_mono HO_240001.out (fun _ hk => by (obtain ⟨a1_, a2_⟩ := hk; (try obtain ⟨a1_, a3_⟩ := a1_); (try obtain ⟨a1_, a4_⟩ := a1_); (try obtain ⟨a1_, a5_⟩ := a1_); (try obtain ⟨a1_, a6_⟩ := a1_); (try obtain ⟨a1_, a7_⟩ := a1_); (try obtain ⟨a2_b1, a2_⟩ := a2_); (try obtain ⟨a2_b2, a2_⟩ := a2_); (try obtain ⟨a2_b3, a2_⟩ := a2_); (try obtain ⟨a2_b4, a2_⟩ := a2_); (try obtain ⟨a2_b5, a2_⟩ := a2_); (try obtain ⟨a3_b1, a3_⟩ := a3_); (try obtain ⟨a3_b2, a3_⟩ := a3_); (try obtain ⟨a3_b3, a3_⟩ := a3_); (try obtain ⟨a3_b4, a3_⟩ := a3_); (try obtain ⟨a3_b5, a3_⟩ := a3_); (try obtain ⟨a4_b1, a4_⟩ := a4_); (try obtain ⟨a4_b2, a4_⟩ := a4_); (try obtain ⟨a4_b3, a4_⟩ := a4_); (try obtain ⟨a4_b4, a4_⟩ := a4_); (try obtain ⟨a4_b5, a4_⟩ := a4_); (try obtain ⟨a5_b1, a5_⟩ := a5_); (try obtain ⟨a5_b2, a5_⟩ := a5_); (try obtain ⟨a5_b3, a5_⟩ := a5_); (try obtain ⟨a5_b4, a5_⟩ := a5_); (try obtain ⟨a5_b5, a5_⟩ := a5_); (try obtain ⟨a6_b1, a6_⟩ := a6_); (try obtain ⟨a6_b2, a6_⟩ := a6_); (try obtain ⟨a6_b3, a6_⟩ := a6_); (try obtain ⟨a6_b4, a6_⟩ := a6_); (try obtain ⟨a6_b5, a6_⟩ := a6_); (try obtain ⟨a7_b1, a7_⟩ := a7_); (try obtain ⟨a7_b2, a7_⟩ := a7_); (try obtain ⟨a7_b3, a7_⟩ := a7_); (try obtain ⟨a7_b4, a7_⟩ := a7_); (try obtain ⟨a7_b5, a7_⟩ := a7_); (repeat' apply And.intro) <;> assumption))), (by (with_reducible repeat (first | refine blk_drewN ?_ _ | refine blk_drew ?_ | refine blk_alloc ?_ _)); exact BK239.out), fun _ => (by (with_reducible repeat (first | refine blk_drewN ?_ _ | refine blk_drew ?_ | refine blk_alloc ?_ _)); exact BK240.out), (by repeat (first | (with_reducible first | exact HK.out | apply Kept.alloc | apply Kept.drewN | apply Kept.drew | refine Kept.setCell ?_ (.inr GW239.out) _ | refine Kept.setCell ?_ (.inr GW240.out) _) | exact HK.out)), (by repeat (first | (with_reducible first | exact HB.out | apply below_alloc | apply pw_below_drewN | apply below_drew1 | refine below_set ?_ GE239.out | refine below_set ?_ GE240.out) | exact HB.out)), fun _ => (by (with_reducible repeat (first | apply Kd.R_alloc | apply Kd.R_drewN | apply Kd.R_drew)); exact Kd.R_mono HO257.out (fun _ hk => by (obtain ⟨a1_, a2_⟩ := hk; (try obtain ⟨a1_, a3_⟩ := a1_); (try obtain ⟨a1_, a4_⟩ := a1_); (try obtain ⟨a1_, a5_⟩ := a1_); (try obtain ⟨a1_, a6_⟩ := a1_); (try obtain ⟨a1_, a7_⟩ := a1_); (try obtain ⟨a2_b1, a2_⟩ := a2_); (try obtain ⟨a2_b2, a2_⟩ := a2_); (try obtain ⟨a2_b3, a2_⟩ := a2_); (try obtain ⟨a2_b4, a2_⟩ := a2_); (try obtain ⟨a2_b5, a2_⟩ := a2_); (try obtain ⟨a3_b1, a3_⟩ := a3_); (try obtain ⟨a3_b2, a3_⟩ := a3_); (try obtain ⟨a3_b3, a3_⟩ := a3_); (try obtain ⟨a3_b4, a3_⟩ := a3_); (try obtain ⟨a3_b5, a3_⟩ := a3_); (try obtain ⟨a4_b1, a4_⟩ := a4_); (try obtain ⟨a4_b2, a4_⟩ := a4_); (try obtain ⟨a4_b3, a4_⟩ := a4_); (try obtain ⟨a4_b4, a4_⟩ := a4_); (try obtain ⟨a4_b5, a4_⟩ := a4_); (try obtain ⟨a5_b1, a5_⟩ := a5_); (try obtain ⟨a5_b2, a5_⟩ := a5_); (try obtain ⟨a5_b3, a5_⟩ := a5_); (try obtain ⟨a5_b4, a5_⟩ := a5_); (try obtain ⟨a5_b5, a5_⟩ := a5_); (try obtain ⟨a6_b1, a6_⟩ := a6_); (try obtain ⟨a6_b2, a6_⟩ := a6_); (try obtain ⟨a6_b3, a6_⟩ := a6_); (try obtain ⟨a6_b4, a6_⟩ := a6_); (try obtain ⟨a6_b5, a6_⟩ := a6_); (try obtain ⟨a7_b1, a7_⟩ := a7_); (try obtain ⟨a7_b2, a7_⟩ := a7_); (try obtain ⟨a7_b3, a7_⟩ := a7_); (try obtain ⟨a7_b4, a7_⟩ := a7_); (try obtain ⟨a7_b5, a7_⟩ := a7_); (repeat' apply And.intro) <;> assumption))), fun _ => (by (with_reducible repeat (first | apply Kd.R_alloc | apply Kd.R_drewN | apply Kd.R_drew)); exact Kd.R_mono HO260.out (fun _ hk => by (obtain ⟨a1_, a2_⟩ := hk; (try obtain ⟨a1_, a3_⟩ := a1_); (try obtain ⟨a1_, a4_⟩ := a1_); (try obtain ⟨a1_, a5_⟩ := a1_); (try obtain ⟨a1_, a6_⟩ := a1_); (try obtain ⟨a1_, a7_⟩ := a1_); (try obtain ⟨a2_b1, a2_⟩ := a2_); (try obtain ⟨a2_b2, a2_⟩ := a2_); (try obtain ⟨a2_b3, a2_⟩ := a2_); (try obtain ⟨a2_b4, a2_⟩ := a2_); (try obtain ⟨a2_b5, a2_⟩ := a2_); (try obtain ⟨a3_b1, a3_⟩ := a3_); (try obtain ⟨a3_b2, a3_⟩ := a3_); (try obtain ⟨a3_b3, a3_⟩ := a3_); (try obtain ⟨a3_b4, a3_⟩ := a3_); (try obtain ⟨a3_b5, a3_⟩ := a3_); (try obtain ⟨a4_b1, a4_⟩ := a4_); (try obtain ⟨a4_b2, a4_⟩ := a4_); (try obtain ⟨a4_b3, a4_⟩ := a4_); (try obtain ⟨a4_b4, a4_⟩ := a4_); (try obtain ⟨a4_b5, a4_⟩ := a4_); (try obtain ⟨a5_b1, a5_⟩ := a5_); (try obtain ⟨a5_b2, a5_⟩ := a5_); (try obtain ⟨a5_b3, a5_⟩ := a5_); (try obtain ⟨a5_b4, a5_⟩ := a5_); (try obtain ⟨a5_b5, a5_⟩ := a5_); (try obtain ⟨a6_b1, a6_⟩ := a6_); (try obtain ⟨a6_b2, a6_⟩ := a6_); (try obtain ⟨a6_b3, a6_⟩ := a6_); (try obtain ⟨a6_b4, a6_⟩ := a6_); (try obtain ⟨a6_b5, a6_⟩ := a6_); (try obtain ⟨a7_b1, a7_⟩ := a7_); (try obtain ⟨a7_b2, a7_⟩ := a7_); (try obtain ⟨a7_b3, a7_⟩ := a7_); (try obtain ⟨a7_b4, a7_⟩ := a7_); (try obtain ⟨a7_b5, a7_⟩ := a7_); (repeat' apply And.intro) <;> assumption))), z_HO263, fun h0_ => absurd ((hoff 13 (by kernel_rfl)).symm.trans h0_) (by decide), fun h0_ => absurd ((hoff 15 (by kernel_rfl)).symm.trans h0_) (by decide), fun h0_ => absurd ((hoff 14 (by kernel_rfl)).symm.trans h0_) (by decide), (by first | exact Q_NE_ | exact (fun _ => ne13_) | exact (fun h0_ => absurd ((hoff 13 (by kernel_rfl)).symm.trans h0_) (by decide)))⟩
              refine steps_cons ?_ ?_
              · rintro b a w' ⟨v256, v259, v262, v265, m14_, ha, Q_HO_240000, Q_HO_240001, Q_BK239, Q_BK240, Q_HK, Q_HB, Q_HO257, Q_HO260, Q_HO263, Q_HO266, Q_BK240_e15, Q_X14_, Q_NE_⟩ hb_ hon hoff
                refine ⟨_, rfl, fun K hK => ?_⟩
                have e37 : a.tmps[37]? = some (.pointer (some ⟨gb239, 1, none⟩)) := by rw [ha]; exact (putSel_off rfl).trans rfl
                replace ha := Aside0.mk ha
                have HO_240000 := Aside0.mk Q_HO_240000
                have HO_240001 := Aside0.mk Q_HO_240001
                have BK239 := Aside0.mk Q_BK239
                have BK240 := Aside0.mk (Q_BK240 (hoff 15 (by kernel_rfl)))
                have HK := Aside0.mk Q_HK
                have HB := Aside0.mk Q_HB
                have hc0_ : w'.cell? ⟨gb239, 0, none⟩ = some (.slice Ao5 l0_0.length co5) := (blk_cell BK239.out 0).trans rfl
                have hc1_ : w'.cell? ⟨gb239, 1, none⟩ = some (.slice Ao6 l0_1.length co6) := (blk_cell BK239.out 1).trans rfl
                refine value_ (w1 := w') (v := .slice Ao6 l0_1.length co6) (by rfl) rfl ?_ ?_
                · go_simp
                  (try simp only [i64_w])
                  try rfl
                refine hK.out _ _ ⟨v256, v259, v262, v265, m14_, (by rw [ha.out]; exact putSel_upk 3 hb_ rfl rfl rfl), Q_HO_240000, Q_HO_240001, Q_BK239, Q_BK240, Q_HK, Q_HB, Q_HO257, Q_HO260, Q_HO263, fun h0_ => absurd ((hoff 13 (by kernel_rfl)).symm.trans h0_) (by decide), fun h0_ => absurd ((hoff 15 (by kernel_rfl)).symm.trans h0_) (by decide), fun h0_ => absurd ((hoff 14 (by kernel_rfl)).symm.trans h0_) (by decide), (by first | exact Q_NE_ | exact (fun _ => ne13_) | exact (fun h0_ => absurd ((hoff 13 (by kernel_rfl)).symm.trans h0_) (by decide)))⟩
              refine steps_cons ?_ ?_
              · rintro b a w' ⟨v256, v259, v262, v265, m14_, ha, Q_HO_240000, Q_HO_240001, Q_BK239, Q_BK240, Q_HK, Q_HB, Q_HO257, Q_HO260, Q_HO263, Q_HO266, Q_BK240_e15, Q_X14_, Q_NE_⟩ hb_ hon hoff
                refine ⟨_, rfl, fun K hK => ?_⟩
                have e41 : a.tmps[41]? = some (.int .i64 a2) := by rw [ha]; exact (putSel_off rfl).trans rfl
                replace ha := Aside0.mk ha
                have HO_240000 := Aside0.mk Q_HO_240000
                have HO_240001 := Aside0.mk Q_HO_240001
                have BK239 := Aside0.mk Q_BK239
                have BK240 := Aside0.mk (Q_BK240 (hoff 15 (by kernel_rfl)))
                have HK := Aside0.mk Q_HK
                have HB := Aside0.mk Q_HB
                refine Kd.R_lit_step (Kd.int .i64) _ 3 ?hg (N := 42) ?hd (xs := ([a2] : List Int)) (inner := [.int .i64 a2]) (ok := fun _ => True) (okp := fun _ => True) ?hr ?hp (fun _ hk => hk) trivial (Below.refl _ _) (Nat.le_refl _) (by simp) ?_; (case hd => rfl); (case hg => rfl); (case hr => first | (go_simp; done) | (go_simp; rfl)); (case hp => exact (Reps.one (show Kd.M (Kd.int .i64) _ _ _ a2 [.int .i64 a2] from rfl) (Reps.none _ _)))
                intro v262 w50 ho51 hb hg_ hnew_
                clear hg_ hnew_
                (first | rw [← Ny261.out] at ho51 | (simp only [Int.reduceToNat] at ho51; rw [← Ny261.out] at ho51))
                have n0_ := Aside0.mk (Kd.R_elder' (by (with_reducible repeat (first | apply Kd.R_alloc | apply Kd.R_drewN | apply Kd.R_drew)); exact HO_240000.out) (Kd.R_base ho51) hb)
                have n1_ := Aside0.mk (Kd.R_elder' (by (with_reducible repeat (first | apply Kd.R_alloc | apply Kd.R_drewN | apply Kd.R_drew)); exact HO_240001.out) (Kd.R_base ho51) hb)
                have n2_ := Aside0.mk (Kd.R_lower (Kd.R_new' (Kd.R_new' (Kd.R_newM (M := fun k_ => ((P0_0_ k_ ∨ P0_1_ k_) ∨ w.heap.size ≤ k_)) ho51 (by first | exact HK.out.1 | exact (show Kept w _ (fun k_ => P0_0_ k_ ∨ P0_1_ k_) from by repeat (first | (with_reducible first | exact HK.out | apply Kept.alloc | apply Kept.drewN | apply Kept.drew | refine Kept.setCell ?_ (.inr GW239.out) _ | refine Kept.setCell ?_ (.inr GW240.out) _) | exact HK.out)).1) (fun k_ h_ => .inr h_)) (Kd.R_lt (by (with_reducible repeat (first | apply Kd.R_alloc | apply Kd.R_drewN | apply Kd.R_drew)); exact HO_240000.out))) (Kd.R_lt (by (with_reducible repeat (first | apply Kd.R_alloc | apply Kd.R_drewN | apply Kd.R_drew)); exact HO_240001.out))) (below_size (by repeat (first | (with_reducible first | exact HB.out | apply below_alloc | apply pw_below_drewN | apply below_drew1 | refine below_set ?_ GE239.out | refine below_set ?_ GE240.out) | exact HB.out))))
                have n3_ := Aside0.mk (blk_below (g := gb239) (o := .cells #[.slice Ao5 l0_0.length co5, .slice Ao6 l0_1.length co6] 40 (0, 0)) (by (with_reducible repeat (first | refine blk_drewN ?_ _ | refine blk_drew ?_ | refine blk_alloc ?_ _)); exact BK239.out) hb)
                have n4_ := Aside0.mk (blk_below (g := gb240) (o := .cells #[.slice none 0 0, .slice none 0 0] 40 (0, 0)) (by (with_reducible repeat (first | refine blk_drewN ?_ _ | refine blk_drew ?_ | refine blk_alloc ?_ _)); exact BK240.out) hb)
                have n5_ := Aside0.mk (Kept.below (S := (fun k_ => P0_0_ k_ ∨ P0_1_ k_)) (by repeat (first | (with_reducible first | exact HK.out | apply Kept.alloc | apply Kept.drewN | apply Kept.drew | refine Kept.setCell ?_ (.inr GW239.out) _ | refine Kept.setCell ?_ (.inr GW240.out) _) | exact HK.out)) hb)
                have n6_ := Aside0.mk (below_step (by repeat (first | (with_reducible first | exact HB.out | apply below_alloc | apply pw_below_drewN | apply below_drew1 | refine below_set ?_ GE239.out | refine below_set ?_ GE240.out) | exact HB.out)) hb)
                have z_HO257 := fun (h0_ : b 5 = true) => (show Kd.R (Kd.int .i64) 3 w50 w0.heap.size (fun k_ => ((P0_0_ k_ ∨ P0_1_ k_) ∨ w.heap.size ≤ k_) ∧ some k_ ≠ (.slice Ao5 l0_0.length co5 : Value).ownBlock ∧ some k_ ≠ (.slice Ao6 l0_1.length co6 : Value).ownBlock) v256 y255 from by first | exact (Kd.R_elder' (by (with_reducible repeat (first | apply Kd.R_alloc | apply Kd.R_drewN | apply Kd.R_drew)); exact (Q_HO257 h0_)) (Kd.R_base ho51) hb) | exact Kd.R_mono (Kd.R_elder' (by (with_reducible repeat (first | apply Kd.R_alloc | apply Kd.R_drewN | apply Kd.R_drew)); exact (Q_HO257 h0_)) (Kd.R_base ho51) hb) (fun _ h_ => by first | trivial | exact h_ | exact h_.1))
                have z_HO260 := fun (h0_ : b 6 = true) => (show Kd.R (Kd.int .i64) 3 w50 w0.heap.size (fun k_ => ((P0_0_ k_ ∨ P0_1_ k_) ∨ w.heap.size ≤ k_) ∧ some k_ ≠ (.slice Ao5 l0_0.length co5 : Value).ownBlock ∧ some k_ ≠ (.slice Ao6 l0_1.length co6 : Value).ownBlock) v259 t258 from by first | exact (Kd.R_elder' (by (with_reducible repeat (first | apply Kd.R_alloc | apply Kd.R_drewN | apply Kd.R_drew)); exact (Q_HO260 h0_)) (Kd.R_base ho51) hb) | exact Kd.R_mono (Kd.R_elder' (by (with_reducible repeat (first | apply Kd.R_alloc | apply Kd.R_drewN | apply Kd.R_drew)); exact (Q_HO260 h0_)) (Kd.R_base ho51) hb) (fun _ h_ => by first | trivial | exact h_ | exact h_.1))
                clear HO_240000
                clear HO_240001
                clear BK239
                clear BK240
                clear HK
                clear HB
                have HO_240000 := n0_
                have HO_240001 := n1_
                have HO263 := n2_
                have BK239 := n3_
                have BK240 := n4_
                have HK := n5_
                have HB := n6_
                clear n0_ n1_ n2_ n3_ n4_ n5_ n6_
                clear hb ho51
                refine hK.out _ _ ⟨v256, v259, v262, v265, m14_, (by rw [ha.out]; exact putSel_upk 4 hb_ rfl rfl rfl), (by (with_reducible repeat (first | apply Kd.R_alloc | apply Kd.R_drewN | apply Kd.R_drew)); exact Kd.R_mono HO_240000.out (fun _ hk => by (obtain ⟨a1_, a2_⟩ := hk; (try obtain ⟨a1_, a3_⟩ := a1_); (try obtain ⟨a1_, a4_⟩ := a1_); (try obtain ⟨a1_, a5_⟩ := a1_); (try obtain ⟨a1_, a6_⟩ := a1_); (try obtain ⟨a1_, a7_⟩ := a1_); (try obtain ⟨a2_b1, a2_⟩ := a2_); (try obtain ⟨a2_b2, a2_⟩ := a2_); (try obtain ⟨a2_b3, a2_⟩ := a2_); (try obtain ⟨a2_b4, a2_⟩ := a2_); (try obtain ⟨a2_b5, a2_⟩ := a2_); (try obtain ⟨a3_b1, a3_⟩ := a3_); (try obtain ⟨a3_b2, a3_⟩ := a3_); (try obtain ⟨a3_b3, a3_⟩ := a3_); (try obtain ⟨a3_b4, a3_⟩ := a3_); (try obtain ⟨a3_b5, a3_⟩ := a3_); (try obtain ⟨a4_b1, a4_⟩ := a4_); (try obtain ⟨a4_b2, a4_⟩ := a4_); (try obtain ⟨a4_b3, a4_⟩ := a4_); (try obtain ⟨a4_b4, a4_⟩ := a4_); (try obtain ⟨a4_b5, a4_⟩ := a4_); (try obtain ⟨a5_b1, a5_⟩ := a5_); (try obtain ⟨a5_b2, a5_⟩ := a5_); (try obtain ⟨a5_b3, a5_⟩ := a5_); (try obtain ⟨a5_b4, a5_⟩ := a5_); (try obtain ⟨a5_b5, a5_⟩ := a5_); (try obtain ⟨a6_b1, a6_⟩ := a6_); (try obtain ⟨a6_b2, a6_⟩ := a6_); (try obtain ⟨a6_b3, a6_⟩ := a6_); (try obtain ⟨a6_b4, a6_⟩ := a6_); (try obtain ⟨a6_b5, a6_⟩ := a6_); (try obtain ⟨a7_b1, a7_⟩ := a7_); (try obtain ⟨a7_b2, a7_⟩ := a7_); (try obtain ⟨a7_b3, a7_⟩ := a7_); (try obtain ⟨a7_b4, a7_⟩ := a7_); (try obtain ⟨a7_b5, a7_⟩ := a7_); (repeat' apply And.intro) <;> assumption))), (by (with_reducible repeat (first | apply Kd.R_alloc | apply Kd.R_drewN | apply Kd.R_drew)); exact Kd.R_mono HO_240001.out (fun _ hk => by (obtain ⟨a1_, a2_⟩ := hk; (try obtain ⟨a1_, a3_⟩ := a1_); (try obtain ⟨a1_, a4_⟩ := a1_); (try obtain ⟨a1_, a5_⟩ := a1_); (try obtain ⟨a1_, a6_⟩ := a1_); (try obtain ⟨a1_, a7_⟩ := a1_); (try obtain ⟨a2_b1, a2_⟩ := a2_); (try obtain ⟨a2_b2, a2_⟩ := a2_); (try obtain ⟨a2_b3, a2_⟩ := a2_); (try obtain ⟨a2_b4, a2_⟩ := a2_); (try obtain ⟨a2_b5, a2_⟩ := a2_); (try obtain ⟨a3_b1, a3_⟩ := a3_); (try obtain ⟨a3_b2, a3_⟩ := a3_); (try obtain ⟨a3_b3, a3_⟩ := a3_); (try obtain ⟨a3_b4, a3_⟩ := a3_); (try obtain ⟨a3_b5, a3_⟩ := a3_); (try obtain ⟨a4_b1, a4_⟩ := a4_); (try obtain ⟨a4_b2, a4_⟩ := a4_); (try obtain ⟨a4_b3, a4_⟩ := a4_); (try obtain ⟨a4_b4, a4_⟩ := a4_); (try obtain ⟨a4_b5, a4_⟩ := a4_); (try obtain ⟨a5_b1, a5_⟩ := a5_); (try obtain ⟨a5_b2, a5_⟩ := a5_); (try obtain ⟨a5_b3, a5_⟩ := a5_); (try obtain ⟨a5_b4, a5_⟩ := a5_); (try obtain ⟨a5_b5, a5_⟩ := a5_); (try obtain ⟨a6_b1, a6_⟩ := a6_); (try obtain ⟨a6_b2, a6_⟩ := a6_); (try obtain ⟨a6_b3, a6_⟩ := a6_); (try obtain ⟨a6_b4, a6_⟩ := a6_); (try obtain ⟨a6_b5, a6_⟩ := a6_); (try obtain ⟨a7_b1, a7_⟩ := a7_); (try obtain ⟨a7_b2, a7_⟩ := a7_); (try obtain ⟨a7_b3, a7_⟩ := a7_); (try obtain ⟨a7_b4, a7_⟩ := a7_); (try obtain ⟨a7_b5, a7_⟩ := a7_); (repeat' apply And.intro) <;> assumption))), (by (with_reducible repeat (first | refine blk_drewN ?_ _ | refine blk_drew ?_ | refine blk_alloc ?_ _)); exact BK239.out), fun _ => (by (with_reducible repeat (first | refine blk_drewN ?_ _ | refine blk_drew ?_ | refine blk_alloc ?_ _)); exact BK240.out), (by repeat (first | (with_reducible first | exact HK.out | apply Kept.alloc | apply Kept.drewN | apply Kept.drew | refine Kept.setCell ?_ (.inr GW239.out) _ | refine Kept.setCell ?_ (.inr GW240.out) _) | exact HK.out)), (by repeat (first | (with_reducible first | exact HB.out | apply below_alloc | apply pw_below_drewN | apply below_drew1 | refine below_set ?_ GE239.out | refine below_set ?_ GE240.out) | exact HB.out)), z_HO257, z_HO260, fun _ => (by (with_reducible repeat (first | apply Kd.R_alloc | apply Kd.R_drewN | apply Kd.R_drew)); exact Kd.R_mono HO263.out (fun _ hk => by (obtain ⟨a1_, a2_⟩ := hk; (try obtain ⟨a1_, a3_⟩ := a1_); (try obtain ⟨a1_, a4_⟩ := a1_); (try obtain ⟨a1_, a5_⟩ := a1_); (try obtain ⟨a1_, a6_⟩ := a1_); (try obtain ⟨a1_, a7_⟩ := a1_); (try obtain ⟨a2_b1, a2_⟩ := a2_); (try obtain ⟨a2_b2, a2_⟩ := a2_); (try obtain ⟨a2_b3, a2_⟩ := a2_); (try obtain ⟨a2_b4, a2_⟩ := a2_); (try obtain ⟨a2_b5, a2_⟩ := a2_); (try obtain ⟨a3_b1, a3_⟩ := a3_); (try obtain ⟨a3_b2, a3_⟩ := a3_); (try obtain ⟨a3_b3, a3_⟩ := a3_); (try obtain ⟨a3_b4, a3_⟩ := a3_); (try obtain ⟨a3_b5, a3_⟩ := a3_); (try obtain ⟨a4_b1, a4_⟩ := a4_); (try obtain ⟨a4_b2, a4_⟩ := a4_); (try obtain ⟨a4_b3, a4_⟩ := a4_); (try obtain ⟨a4_b4, a4_⟩ := a4_); (try obtain ⟨a4_b5, a4_⟩ := a4_); (try obtain ⟨a5_b1, a5_⟩ := a5_); (try obtain ⟨a5_b2, a5_⟩ := a5_); (try obtain ⟨a5_b3, a5_⟩ := a5_); (try obtain ⟨a5_b4, a5_⟩ := a5_); (try obtain ⟨a5_b5, a5_⟩ := a5_); (try obtain ⟨a6_b1, a6_⟩ := a6_); (try obtain ⟨a6_b2, a6_⟩ := a6_); (try obtain ⟨a6_b3, a6_⟩ := a6_); (try obtain ⟨a6_b4, a6_⟩ := a6_); (try obtain ⟨a6_b5, a6_⟩ := a6_); (try obtain ⟨a7_b1, a7_⟩ := a7_); (try obtain ⟨a7_b2, a7_⟩ := a7_); (try obtain ⟨a7_b3, a7_⟩ := a7_); (try obtain ⟨a7_b4, a7_⟩ := a7_); (try obtain ⟨a7_b5, a7_⟩ := a7_); (repeat' apply And.intro) <;> assumption))), fun h0_ => absurd ((hoff 13 (by kernel_rfl)).symm.trans h0_) (by decide), fun h0_ => absurd ((hoff 15 (by kernel_rfl)).symm.trans h0_) (by decide), fun h0_ => absurd ((hoff 14 (by kernel_rfl)).symm.trans h0_) (by decide), (by first | exact Q_NE_ | exact (fun _ => ne13_) | exact (fun h0_ => absurd ((hoff 13 (by kernel_rfl)).symm.trans h0_) (by decide)))⟩
              refine steps_cons ?_ ?_
              · rintro b a w' ⟨v256, v259, v262, v265, m14_, ha, Q_HO_240000, Q_HO_240001, Q_BK239, Q_BK240, Q_HK, Q_HB, Q_HO257, Q_HO260, Q_HO263, Q_HO266, Q_BK240_e15, Q_X14_, Q_NE_⟩ hb_ hon hoff
                refine ⟨_, rfl, fun K hK => ?_⟩
                have e38 : a.tmps[38]? = some (.slice Ao6 l0_1.length co6) := by rw [ha]; exact putSel_on (e := (8, 38, .slice Ao6 l0_1.length co6)) 3 rfl rfl (hon 8 (by kernel_rfl)) rfl
                have e39 : a.tmps[39]? = some (.int .i64 t241) := by rw [ha]; exact (putSel_off rfl).trans rfl
                have e40 : a.tmps[40]? = some (.int .i64 0) := by rw [ha]; exact (putSel_off rfl).trans rfl
                have e42 : a.tmps[42]? = some (v262) := by rw [ha]; exact putSel_on (e := (12, 42, v262)) 4 rfl rfl (hon 12 (by kernel_rfl)) rfl
                replace ha := Aside0.mk ha
                have HO_240000 := Aside0.mk Q_HO_240000
                have HO_240001 := Aside0.mk Q_HO_240001
                have BK239 := Aside0.mk Q_BK239
                have BK240 := Aside0.mk (Q_BK240 (hoff 15 (by kernel_rfl)))
                have HK := Aside0.mk Q_HK
                have HB := Aside0.mk Q_HB
                have HO257 := Aside0.mk (Q_HO257 (hon 5 (by kernel_rfl)))
                have HO260 := Aside0.mk (Q_HO260 (hon 6 (by kernel_rfl)))
                have HO263 := Aside0.mk (Q_HO263 (hon 12 (by kernel_rfl)))
                obtain ⟨Ao57, co57, eo57⟩ := Kd.R_slice HO263.out
                (first | subst eo57 | (injection eo57 with f1_ f2_ f3_; have f4_ := f1_.symm; have f5_ := f3_.symm; clear f1_ f2_ f3_; subst f4_; subst f5_))
                refine goes_ Try.func26 (by kernel_rfl) rfl #[.slice Ao6 l0_1.length co6, .int .i64 t241, .int .i64 0, .slice Ao57 y261.length co57] (by rfl) rfl rfl (by first | (simp only [List.map_toArray, List.map_cons, List.map_nil, Act.eval, Array.getD_eq_getD_getElem?, Option.getD_some, e38, e39, e40, e42]; done) | (simp only [List.map_toArray, List.map_cons, List.map_nil, Act.eval, Array.getD_eq_getD_getElem?, Option.getD_some, e38, e39, e40, e42]; rfl)) ?_
                with_reducible refine (ploverref14_cut.calls _ _ l0_1 t241 0 _ _ y261 t264 _ ?side1 ?side2 ?side3 ?side4 A44.out).mono ?_
                (case side1 => repeat (first | exact (Kd.R_reads' HO_240001.out).2.2 | (with_reducible refine Kd.C_alloc ?_ _) | (with_reducible refine Kd.C_drewN ?_ _) | (with_reducible refine Kd.C_drew ?_)))
                (case side2 => exact (Kd.R_reads' HO_240001.out).2.1)
                (case side3 => repeat (first | exact (Kd.R_reads' HO263.out).2.2 | (with_reducible refine Kd.C_alloc ?_ _) | (with_reducible refine Kd.C_drewN ?_ _) | (with_reducible refine Kd.C_drew ?_)))
                (case side4 => exact (Kd.R_reads' HO263.out).2.1)
                rintro e w58 ⟨v265, rfl, ho0, hb⟩
                have ne13_ : ∀ k_, v259.ownBlock = some k_ → v265.ownBlock = some k_ → False := fun k_ h1_ h2_ => by have x1_ := Kd.R_lt HO260.out k_ h1_; have x2_ := Kd.R_base ho0 k_ h2_; (try simp at x2_); omega
                refine ⟨_, rfl, ?_⟩
                have n0_ := Aside0.mk (Kd.R_elder' (by (with_reducible repeat (first | apply Kd.R_alloc | apply Kd.R_drewN | apply Kd.R_drew)); exact HO_240000.out) (Kd.R_base ho0) hb)
                have n1_ := Aside0.mk (Kd.R_elder' (by (with_reducible repeat (first | apply Kd.R_alloc | apply Kd.R_drewN | apply Kd.R_drew)); exact HO_240001.out) (Kd.R_base ho0) hb)
                have n2_ := Aside0.mk (Kd.R_elder' (by (with_reducible repeat (first | apply Kd.R_alloc | apply Kd.R_drewN | apply Kd.R_drew)); exact HO257.out) (Kd.R_base ho0) hb)
                have n3_ := Aside0.mk (Kd.R_elder' (by (with_reducible repeat (first | apply Kd.R_alloc | apply Kd.R_drewN | apply Kd.R_drew)); exact HO260.out) (Kd.R_base ho0) hb)
                have n4_ := Aside0.mk (Kd.R_elder' (by (with_reducible repeat (first | apply Kd.R_alloc | apply Kd.R_drewN | apply Kd.R_drew)); exact HO263.out) (Kd.R_base ho0) hb)
                have n5_ := Aside0.mk (Kd.R_lower (Kd.R_new' (Kd.R_new' (Kd.R_new' (Kd.R_new' (Kd.R_new' (Kd.R_newM (M := fun k_ => ((P0_0_ k_ ∨ P0_1_ k_) ∨ w.heap.size ≤ k_)) ho0 (by first | exact HK.out.1 | exact (show Kept w _ (fun k_ => P0_0_ k_ ∨ P0_1_ k_) from by repeat (first | (with_reducible first | exact HK.out | apply Kept.alloc | apply Kept.drewN | apply Kept.drew | refine Kept.setCell ?_ (.inr GW239.out) _ | refine Kept.setCell ?_ (.inr GW240.out) _) | exact HK.out)).1) (fun k_ h_ => .inr h_)) (Kd.R_lt (by (with_reducible repeat (first | apply Kd.R_alloc | apply Kd.R_drewN | apply Kd.R_drew)); exact HO_240000.out))) (Kd.R_lt (by (with_reducible repeat (first | apply Kd.R_alloc | apply Kd.R_drewN | apply Kd.R_drew)); exact HO_240001.out))) (Kd.R_lt (by (with_reducible repeat (first | apply Kd.R_alloc | apply Kd.R_drewN | apply Kd.R_drew)); exact HO257.out))) (Kd.R_lt (by (with_reducible repeat (first | apply Kd.R_alloc | apply Kd.R_drewN | apply Kd.R_drew)); exact HO260.out))) (Kd.R_lt (by (with_reducible repeat (first | apply Kd.R_alloc | apply Kd.R_drewN | apply Kd.R_drew)); exact HO263.out))) (below_size (by repeat (first | (with_reducible first | exact HB.out | apply below_alloc | apply pw_below_drewN | apply below_drew1 | refine below_set ?_ GE239.out | refine below_set ?_ GE240.out) | exact HB.out))))
                have n6_ := Aside0.mk (blk_below (g := gb239) (o := .cells #[.slice Ao5 l0_0.length co5, .slice Ao6 l0_1.length co6] 40 (0, 0)) (by (with_reducible repeat (first | refine blk_drewN ?_ _ | refine blk_drew ?_ | refine blk_alloc ?_ _)); exact BK239.out) hb)
                have n7_ := Aside0.mk (blk_below (g := gb240) (o := .cells #[.slice none 0 0, .slice none 0 0] 40 (0, 0)) (by (with_reducible repeat (first | refine blk_drewN ?_ _ | refine blk_drew ?_ | refine blk_alloc ?_ _)); exact BK240.out) hb)
                have n8_ := Aside0.mk (Kept.below (S := (fun k_ => P0_0_ k_ ∨ P0_1_ k_)) (by repeat (first | (with_reducible first | exact HK.out | apply Kept.alloc | apply Kept.drewN | apply Kept.drew | refine Kept.setCell ?_ (.inr GW239.out) _ | refine Kept.setCell ?_ (.inr GW240.out) _) | exact HK.out)) hb)
                have n9_ := Aside0.mk (below_step (by repeat (first | (with_reducible first | exact HB.out | apply below_alloc | apply pw_below_drewN | apply below_drew1 | refine below_set ?_ GE239.out | refine below_set ?_ GE240.out) | exact HB.out)) hb)
                clear HO_240000
                clear HO_240001
                clear HO257
                clear HO260
                clear HO263
                clear BK239
                clear BK240
                clear HK
                clear HB
                have HO_240000 := n0_
                have HO_240001 := n1_
                have HO257 := n2_
                have HO260 := n3_
                have HO263 := n4_
                have HO266 := n5_
                have BK239 := n6_
                have BK240 := n7_
                have HK := n8_
                have HB := n9_
                clear n0_ n1_ n2_ n3_ n4_ n5_ n6_ n7_ n8_ n9_
                (try clear hb)
                (try clear hb2)
                (try clear hk)
                (try clear hi)
                (try clear ho0)
                obtain ⟨Ao59, co59, eo59⟩ := Kd.R_slice HO266.out
                (first | subst eo59 | (injection eo59 with f1_ f2_ f3_; have f4_ := f1_.symm; have f5_ := f3_.symm; clear f1_ f2_ f3_; subst f4_; subst f5_))
                obtain ⟨Ao60, co60, eo60⟩ := Kd.R_slice HO260.out
                (first | subst eo60 | (injection eo60 with f1_ f2_ f3_; have f4_ := f1_.symm; have f5_ := f3_.symm; clear f1_ f2_ f3_; subst f4_; subst f5_))
                refine hK.out _ _ ⟨v256, .slice Ao60 t258.length co60, .slice Ao57 y261.length co57, .slice Ao59 t264.length co59, m14_, (by rw [ha.out]; exact putSel_upk 5 hb_ rfl rfl rfl), (by (with_reducible repeat (first | apply Kd.R_alloc | apply Kd.R_drewN | apply Kd.R_drew)); exact Kd.R_mono HO_240000.out (fun _ hk => by (obtain ⟨a1_, a2_⟩ := hk; (try obtain ⟨a1_, a3_⟩ := a1_); (try obtain ⟨a1_, a4_⟩ := a1_); (try obtain ⟨a1_, a5_⟩ := a1_); (try obtain ⟨a1_, a6_⟩ := a1_); (try obtain ⟨a1_, a7_⟩ := a1_); (try obtain ⟨a2_b1, a2_⟩ := a2_); (try obtain ⟨a2_b2, a2_⟩ := a2_); (try obtain ⟨a2_b3, a2_⟩ := a2_); (try obtain ⟨a2_b4, a2_⟩ := a2_); (try obtain ⟨a2_b5, a2_⟩ := a2_); (try obtain ⟨a3_b1, a3_⟩ := a3_); (try obtain ⟨a3_b2, a3_⟩ := a3_); (try obtain ⟨a3_b3, a3_⟩ := a3_); (try obtain ⟨a3_b4, a3_⟩ := a3_); (try obtain ⟨a3_b5, a3_⟩ := a3_); (try obtain ⟨a4_b1, a4_⟩ := a4_); (try obtain ⟨a4_b2, a4_⟩ := a4_); (try obtain ⟨a4_b3, a4_⟩ := a4_); (try obtain ⟨a4_b4, a4_⟩ := a4_); (try obtain ⟨a4_b5, a4_⟩ := a4_); (try obtain ⟨a5_b1, a5_⟩ := a5_); (try obtain ⟨a5_b2, a5_⟩ := a5_); (try obtain ⟨a5_b3, a5_⟩ := a5_); (try obtain ⟨a5_b4, a5_⟩ := a5_); (try obtain ⟨a5_b5, a5_⟩ := a5_); (try obtain ⟨a6_b1, a6_⟩ := a6_); (try obtain ⟨a6_b2, a6_⟩ := a6_); (try obtain ⟨a6_b3, a6_⟩ := a6_); (try obtain ⟨a6_b4, a6_⟩ := a6_); (try obtain ⟨a6_b5, a6_⟩ := a6_); (try obtain ⟨a7_b1, a7_⟩ := a7_); (try obtain ⟨a7_b2, a7_⟩ := a7_); (try obtain ⟨a7_b3, a7_⟩ := a7_); (try obtain ⟨a7_b4, a7_⟩ := a7_); (try obtain ⟨a7_b5, a7_⟩ := a7_); (repeat' apply And.intro) <;> assumption))), (by (with_reducible repeat (first | apply Kd.R_alloc | apply Kd.R_drewN | apply Kd.R_drew)); exact Kd.R_mono HO_240001.out (fun _ hk => by (obtain ⟨a1_, a2_⟩ := hk; (try obtain ⟨a1_, a3_⟩ := a1_); (try obtain ⟨a1_, a4_⟩ := a1_); (try obtain ⟨a1_, a5_⟩ := a1_); (try obtain ⟨a1_, a6_⟩ := a1_); (try obtain ⟨a1_, a7_⟩ := a1_); (try obtain ⟨a2_b1, a2_⟩ := a2_); (try obtain ⟨a2_b2, a2_⟩ := a2_); (try obtain ⟨a2_b3, a2_⟩ := a2_); (try obtain ⟨a2_b4, a2_⟩ := a2_); (try obtain ⟨a2_b5, a2_⟩ := a2_); (try obtain ⟨a3_b1, a3_⟩ := a3_); (try obtain ⟨a3_b2, a3_⟩ := a3_); (try obtain ⟨a3_b3, a3_⟩ := a3_); (try obtain ⟨a3_b4, a3_⟩ := a3_); (try obtain ⟨a3_b5, a3_⟩ := a3_); (try obtain ⟨a4_b1, a4_⟩ := a4_); (try obtain ⟨a4_b2, a4_⟩ := a4_); (try obtain ⟨a4_b3, a4_⟩ := a4_); (try obtain ⟨a4_b4, a4_⟩ := a4_); (try obtain ⟨a4_b5, a4_⟩ := a4_); (try obtain ⟨a5_b1, a5_⟩ := a5_); (try obtain ⟨a5_b2, a5_⟩ := a5_); (try obtain ⟨a5_b3, a5_⟩ := a5_); (try obtain ⟨a5_b4, a5_⟩ := a5_); (try obtain ⟨a5_b5, a5_⟩ := a5_); (try obtain ⟨a6_b1, a6_⟩ := a6_); (try obtain ⟨a6_b2, a6_⟩ := a6_); (try obtain ⟨a6_b3, a6_⟩ := a6_); (try obtain ⟨a6_b4, a6_⟩ := a6_); (try obtain ⟨a6_b5, a6_⟩ := a6_); (try obtain ⟨a7_b1, a7_⟩ := a7_); (try obtain ⟨a7_b2, a7_⟩ := a7_); (try obtain ⟨a7_b3, a7_⟩ := a7_); (try obtain ⟨a7_b4, a7_⟩ := a7_); (try obtain ⟨a7_b5, a7_⟩ := a7_); (repeat' apply And.intro) <;> assumption))), (by (with_reducible repeat (first | refine blk_drewN ?_ _ | refine blk_drew ?_ | refine blk_alloc ?_ _)); exact BK239.out), fun _ => (by (with_reducible repeat (first | refine blk_drewN ?_ _ | refine blk_drew ?_ | refine blk_alloc ?_ _)); exact BK240.out), (by repeat (first | (with_reducible first | exact HK.out | apply Kept.alloc | apply Kept.drewN | apply Kept.drew | refine Kept.setCell ?_ (.inr GW239.out) _ | refine Kept.setCell ?_ (.inr GW240.out) _) | exact HK.out)), (by repeat (first | (with_reducible first | exact HB.out | apply below_alloc | apply pw_below_drewN | apply below_drew1 | refine below_set ?_ GE239.out | refine below_set ?_ GE240.out) | exact HB.out)), fun _ => (by (with_reducible repeat (first | apply Kd.R_alloc | apply Kd.R_drewN | apply Kd.R_drew)); exact Kd.R_mono HO257.out (fun _ hk => by (obtain ⟨a1_, a2_⟩ := hk; (try obtain ⟨a1_, a3_⟩ := a1_); (try obtain ⟨a1_, a4_⟩ := a1_); (try obtain ⟨a1_, a5_⟩ := a1_); (try obtain ⟨a1_, a6_⟩ := a1_); (try obtain ⟨a1_, a7_⟩ := a1_); (try obtain ⟨a2_b1, a2_⟩ := a2_); (try obtain ⟨a2_b2, a2_⟩ := a2_); (try obtain ⟨a2_b3, a2_⟩ := a2_); (try obtain ⟨a2_b4, a2_⟩ := a2_); (try obtain ⟨a2_b5, a2_⟩ := a2_); (try obtain ⟨a3_b1, a3_⟩ := a3_); (try obtain ⟨a3_b2, a3_⟩ := a3_); (try obtain ⟨a3_b3, a3_⟩ := a3_); (try obtain ⟨a3_b4, a3_⟩ := a3_); (try obtain ⟨a3_b5, a3_⟩ := a3_); (try obtain ⟨a4_b1, a4_⟩ := a4_); (try obtain ⟨a4_b2, a4_⟩ := a4_); (try obtain ⟨a4_b3, a4_⟩ := a4_); (try obtain ⟨a4_b4, a4_⟩ := a4_); (try obtain ⟨a4_b5, a4_⟩ := a4_); (try obtain ⟨a5_b1, a5_⟩ := a5_); (try obtain ⟨a5_b2, a5_⟩ := a5_); (try obtain ⟨a5_b3, a5_⟩ := a5_); (try obtain ⟨a5_b4, a5_⟩ := a5_); (try obtain ⟨a5_b5, a5_⟩ := a5_); (try obtain ⟨a6_b1, a6_⟩ := a6_); (try obtain ⟨a6_b2, a6_⟩ := a6_); (try obtain ⟨a6_b3, a6_⟩ := a6_); (try obtain ⟨a6_b4, a6_⟩ := a6_); (try obtain ⟨a6_b5, a6_⟩ := a6_); (try obtain ⟨a7_b1, a7_⟩ := a7_); (try obtain ⟨a7_b2, a7_⟩ := a7_); (try obtain ⟨a7_b3, a7_⟩ := a7_); (try obtain ⟨a7_b4, a7_⟩ := a7_); (try obtain ⟨a7_b5, a7_⟩ := a7_); (repeat' apply And.intro) <;> assumption))), fun _ => (by (with_reducible repeat (first | apply Kd.R_alloc | apply Kd.R_drewN | apply Kd.R_drew)); exact Kd.R_mono HO260.out (fun _ hk => by (obtain ⟨a1_, a2_⟩ := hk; (try obtain ⟨a1_, a3_⟩ := a1_); (try obtain ⟨a1_, a4_⟩ := a1_); (try obtain ⟨a1_, a5_⟩ := a1_); (try obtain ⟨a1_, a6_⟩ := a1_); (try obtain ⟨a1_, a7_⟩ := a1_); (try obtain ⟨a2_b1, a2_⟩ := a2_); (try obtain ⟨a2_b2, a2_⟩ := a2_); (try obtain ⟨a2_b3, a2_⟩ := a2_); (try obtain ⟨a2_b4, a2_⟩ := a2_); (try obtain ⟨a2_b5, a2_⟩ := a2_); (try obtain ⟨a3_b1, a3_⟩ := a3_); (try obtain ⟨a3_b2, a3_⟩ := a3_); (try obtain ⟨a3_b3, a3_⟩ := a3_); (try obtain ⟨a3_b4, a3_⟩ := a3_); (try obtain ⟨a3_b5, a3_⟩ := a3_); (try obtain ⟨a4_b1, a4_⟩ := a4_); (try obtain ⟨a4_b2, a4_⟩ := a4_); (try obtain ⟨a4_b3, a4_⟩ := a4_); (try obtain ⟨a4_b4, a4_⟩ := a4_); (try obtain ⟨a4_b5, a4_⟩ := a4_); (try obtain ⟨a5_b1, a5_⟩ := a5_); (try obtain ⟨a5_b2, a5_⟩ := a5_); (try obtain ⟨a5_b3, a5_⟩ := a5_); (try obtain ⟨a5_b4, a5_⟩ := a5_); (try obtain ⟨a5_b5, a5_⟩ := a5_); (try obtain ⟨a6_b1, a6_⟩ := a6_); (try obtain ⟨a6_b2, a6_⟩ := a6_); (try obtain ⟨a6_b3, a6_⟩ := a6_); (try obtain ⟨a6_b4, a6_⟩ := a6_); (try obtain ⟨a6_b5, a6_⟩ := a6_); (try obtain ⟨a7_b1, a7_⟩ := a7_); (try obtain ⟨a7_b2, a7_⟩ := a7_); (try obtain ⟨a7_b3, a7_⟩ := a7_); (try obtain ⟨a7_b4, a7_⟩ := a7_); (try obtain ⟨a7_b5, a7_⟩ := a7_); (repeat' apply And.intro) <;> assumption))), fun _ => (by (with_reducible repeat (first | apply Kd.R_alloc | apply Kd.R_drewN | apply Kd.R_drew)); exact Kd.R_mono HO263.out (fun _ hk => by (obtain ⟨a1_, a2_⟩ := hk; (try obtain ⟨a1_, a3_⟩ := a1_); (try obtain ⟨a1_, a4_⟩ := a1_); (try obtain ⟨a1_, a5_⟩ := a1_); (try obtain ⟨a1_, a6_⟩ := a1_); (try obtain ⟨a1_, a7_⟩ := a1_); (try obtain ⟨a2_b1, a2_⟩ := a2_); (try obtain ⟨a2_b2, a2_⟩ := a2_); (try obtain ⟨a2_b3, a2_⟩ := a2_); (try obtain ⟨a2_b4, a2_⟩ := a2_); (try obtain ⟨a2_b5, a2_⟩ := a2_); (try obtain ⟨a3_b1, a3_⟩ := a3_); (try obtain ⟨a3_b2, a3_⟩ := a3_); (try obtain ⟨a3_b3, a3_⟩ := a3_); (try obtain ⟨a3_b4, a3_⟩ := a3_); (try obtain ⟨a3_b5, a3_⟩ := a3_); (try obtain ⟨a4_b1, a4_⟩ := a4_); (try obtain ⟨a4_b2, a4_⟩ := a4_); (try obtain ⟨a4_b3, a4_⟩ := a4_); (try obtain ⟨a4_b4, a4_⟩ := a4_); (try obtain ⟨a4_b5, a4_⟩ := a4_); (try obtain ⟨a5_b1, a5_⟩ := a5_); (try obtain ⟨a5_b2, a5_⟩ := a5_); (try obtain ⟨a5_b3, a5_⟩ := a5_); (try obtain ⟨a5_b4, a5_⟩ := a5_); (try obtain ⟨a5_b5, a5_⟩ := a5_); (try obtain ⟨a6_b1, a6_⟩ := a6_); (try obtain ⟨a6_b2, a6_⟩ := a6_); (try obtain ⟨a6_b3, a6_⟩ := a6_); (try obtain ⟨a6_b4, a6_⟩ := a6_); (try obtain ⟨a6_b5, a6_⟩ := a6_); (try obtain ⟨a7_b1, a7_⟩ := a7_); (try obtain ⟨a7_b2, a7_⟩ := a7_); (try obtain ⟨a7_b3, a7_⟩ := a7_); (try obtain ⟨a7_b4, a7_⟩ := a7_); (try obtain ⟨a7_b5, a7_⟩ := a7_); (repeat' apply And.intro) <;> assumption))), fun _ => (by (with_reducible repeat (first | apply Kd.R_alloc | apply Kd.R_drewN | apply Kd.R_drew)); exact Kd.R_mono HO266.out (fun _ hk => by (obtain ⟨a1_, a2_⟩ := hk; (try obtain ⟨a1_, a3_⟩ := a1_); (try obtain ⟨a1_, a4_⟩ := a1_); (try obtain ⟨a1_, a5_⟩ := a1_); (try obtain ⟨a1_, a6_⟩ := a1_); (try obtain ⟨a1_, a7_⟩ := a1_); (try obtain ⟨a2_b1, a2_⟩ := a2_); (try obtain ⟨a2_b2, a2_⟩ := a2_); (try obtain ⟨a2_b3, a2_⟩ := a2_); (try obtain ⟨a2_b4, a2_⟩ := a2_); (try obtain ⟨a2_b5, a2_⟩ := a2_); (try obtain ⟨a3_b1, a3_⟩ := a3_); (try obtain ⟨a3_b2, a3_⟩ := a3_); (try obtain ⟨a3_b3, a3_⟩ := a3_); (try obtain ⟨a3_b4, a3_⟩ := a3_); (try obtain ⟨a3_b5, a3_⟩ := a3_); (try obtain ⟨a4_b1, a4_⟩ := a4_); (try obtain ⟨a4_b2, a4_⟩ := a4_); (try obtain ⟨a4_b3, a4_⟩ := a4_); (try obtain ⟨a4_b4, a4_⟩ := a4_); (try obtain ⟨a4_b5, a4_⟩ := a4_); (try obtain ⟨a5_b1, a5_⟩ := a5_); (try obtain ⟨a5_b2, a5_⟩ := a5_); (try obtain ⟨a5_b3, a5_⟩ := a5_); (try obtain ⟨a5_b4, a5_⟩ := a5_); (try obtain ⟨a5_b5, a5_⟩ := a5_); (try obtain ⟨a6_b1, a6_⟩ := a6_); (try obtain ⟨a6_b2, a6_⟩ := a6_); (try obtain ⟨a6_b3, a6_⟩ := a6_); (try obtain ⟨a6_b4, a6_⟩ := a6_); (try obtain ⟨a6_b5, a6_⟩ := a6_); (try obtain ⟨a7_b1, a7_⟩ := a7_); (try obtain ⟨a7_b2, a7_⟩ := a7_); (try obtain ⟨a7_b3, a7_⟩ := a7_); (try obtain ⟨a7_b4, a7_⟩ := a7_); (try obtain ⟨a7_b5, a7_⟩ := a7_); (repeat' apply And.intro) <;> assumption))), fun h0_ => absurd ((hoff 15 (by kernel_rfl)).symm.trans h0_) (by decide), fun h0_ => absurd ((hoff 14 (by kernel_rfl)).symm.trans h0_) (by decide), (by first | exact Q_NE_ | exact (fun _ => ne13_) | exact (fun h0_ => absurd ((hoff 13 (by kernel_rfl)).symm.trans h0_) (by decide)))⟩
              refine steps_cons ?_ ?_
              · rintro b a w' ⟨v256, v259, v262, v265, m14_, ha, Q_HO_240000, Q_HO_240001, Q_BK239, Q_BK240, Q_HK, Q_HB, Q_HO257, Q_HO260, Q_HO263, Q_HO266, Q_BK240_e15, Q_X14_, Q_NE_⟩ hb_ hon hoff
                refine ⟨_, rfl, fun K hK => ?_⟩
                have e36 : a.tmps[36]? = some (v259) := by rw [ha]; exact putSel_on (e := (6, 36, v259)) 2 rfl rfl (hon 6 (by kernel_rfl)) rfl
                have e43 : a.tmps[43]? = some (v265) := by rw [ha]; exact putSel_on (e := (13, 43, v265)) 5 rfl rfl (hon 13 (by kernel_rfl)) rfl
                replace ha := Aside0.mk ha
                have HO_240000 := Aside0.mk Q_HO_240000
                have HO_240001 := Aside0.mk Q_HO_240001
                have BK239 := Aside0.mk Q_BK239
                have BK240 := Aside0.mk (Q_BK240 (hoff 15 (by kernel_rfl)))
                have HK := Aside0.mk Q_HK
                have HB := Aside0.mk Q_HB
                have HO257 := Aside0.mk (Q_HO257 (hon 5 (by kernel_rfl)))
                have HO260 := Aside0.mk (Q_HO260 (hon 6 (by kernel_rfl)))
                have HO263 := Aside0.mk (Q_HO263 (hon 12 (by kernel_rfl)))
                have HO266 := Aside0.mk (Q_HO266 (hon 13 (by kernel_rfl)))
                obtain ⟨Ao14_0, co14_0, eo_⟩ := Kd.R_slice HO260.out
                subst eo_
                obtain ⟨Ao14_1, co14_1, eo_⟩ := Kd.R_slice HO266.out
                subst eo_
                refine value_ (w1 := w') (v := .agg #[.slice Ao14_0 t258.length co14_0, .slice Ao14_1 t264.length co14_1]) (by rfl) rfl ?_ ?_
                · go_simp
                  (try simp only [i64_w])
                  try rfl
                refine hK.out _ _ ⟨v256, .slice Ao14_0 t258.length co14_0, v262, .slice Ao14_1 t264.length co14_1, (.agg #[.slice Ao14_0 t258.length co14_0, .slice Ao14_1 t264.length co14_1]), (by rw [ha.out]; exact putSel_upk 6 hb_ rfl rfl rfl), Q_HO_240000, Q_HO_240001, Q_BK239, Q_BK240, Q_HK, Q_HB, Q_HO257, Q_HO260, Q_HO263, Q_HO266, fun h0_ => absurd ((hoff 15 (by kernel_rfl)).symm.trans h0_) (by decide), fun _ => rfl, (by first | exact Q_NE_ | exact (fun _ => ne13_) | exact (fun h0_ => absurd ((hoff 13 (by kernel_rfl)).symm.trans h0_) (by decide)))⟩
              refine steps_cons ?_ ?_
              · rintro b a w' ⟨v256, v259, v262, v265, m14_, ha, Q_HO_240000, Q_HO_240001, Q_BK239, Q_BK240, Q_HK, Q_HB, Q_HO257, Q_HO260, Q_HO263, Q_HO266, Q_BK240_e15, Q_X14_, Q_NE_⟩ hb_ hon hoff
                refine ⟨_, rfl, fun K hK => ?_⟩
                have e6 : a.tmps[6]? = some (.pointer (some ⟨gb240, 0, none⟩)) := by rw [ha]; exact (putSel_off rfl).trans rfl
                have e44 : a.tmps[44]? = some (m14_) := by rw [ha]; exact putSel_on (e := (14, 44, m14_)) 6 rfl rfl (hon 14 (by kernel_rfl)) rfl
                rw [Q_X14_ (hon 14 (by kernel_rfl))] at e44
                replace ha := Aside0.mk ha
                have HO_240000 := Aside0.mk Q_HO_240000
                have HO_240001 := Aside0.mk Q_HO_240001
                have BK239 := Aside0.mk Q_BK239
                have BK240 := Aside0.mk (Q_BK240 hb_)
                have HK := Aside0.mk Q_HK
                have HB := Aside0.mk Q_HB
                have HO257 := Aside0.mk (Q_HO257 (hon 5 (by kernel_rfl)))
                have HO260 := Aside0.mk (Q_HO260 (hon 6 (by kernel_rfl)))
                have HO263 := Aside0.mk (Q_HO263 (hon 12 (by kernel_rfl)))
                have HO266 := Aside0.mk (Q_HO266 (hon 13 (by kernel_rfl)))
                obtain ⟨Ao61, co61, eo61⟩ := Kd.R_slice HO266.out
                (first | subst eo61 | (injection eo61 with f1_ f2_ f3_; have f4_ := f1_.symm; have f5_ := f3_.symm; clear f1_ f2_ f3_; subst f4_; subst f5_))
                obtain ⟨Ao62, co62, eo62⟩ := Kd.R_slice HO260.out
                (first | subst eo62 | (injection eo62 with f1_ f2_ f3_; have f4_ := f1_.symm; have f5_ := f3_.symm; clear f1_ f2_ f3_; subst f4_; subst f5_))
                have hs63 : w'.cell? ⟨gb240, 0, none⟩ = some (.slice none 0 0) := (blk_cell BK240.out 0).trans rfl
                have hfs63 := blk_frozen BK240.out 0
                have hns63_0 := NB239_240.out
                have hms63_0 := NB240_239.out
                have hs64 : w'.cell? ⟨gb240, 1, none⟩ = some (.slice none 0 0) := (blk_cell BK240.out 1).trans rfl
                have hfs64 := blk_frozen BK240.out 1
                have hns64_0 := NB239_240.out
                have hms64_0 := NB240_239.out
                refine skip_ (w1 := ?_) (by rfl) rfl ?_ ?_
                rotate_left
                · go_simp
                  rfl
                refine hK.out _ _ ⟨v256, .slice Ao62 t258.length co62, v262, .slice Ao61 t264.length co61, m14_, (by rw [ha.out]; exact putSel_none (v := undef) rfl), (by (with_reducible repeat (first | apply Kd.R_alloc | apply Kd.R_drewN | apply Kd.R_drew)); exact Kd.R_mono (Kd.R_far (p := ⟨gb240, 1, none⟩) (Kd.R_far (p := ⟨gb240, 0, none⟩) (Kd.R_types HO_240000.out BK240.out (by decide)) (fun _ hk => hk.2) (.slice Ao62 t258.length co62)) (fun _ hk => hk.2) (.slice Ao61 t264.length co61)) (fun _ hk => by (obtain ⟨a1_, a2_⟩ := hk; (try obtain ⟨a1_, a3_⟩ := a1_); (try obtain ⟨a1_, a4_⟩ := a1_); (try obtain ⟨a1_, a5_⟩ := a1_); (try obtain ⟨a1_, a6_⟩ := a1_); (try obtain ⟨a1_, a7_⟩ := a1_); (try obtain ⟨a2_b1, a2_⟩ := a2_); (try obtain ⟨a2_b2, a2_⟩ := a2_); (try obtain ⟨a2_b3, a2_⟩ := a2_); (try obtain ⟨a2_b4, a2_⟩ := a2_); (try obtain ⟨a2_b5, a2_⟩ := a2_); (try obtain ⟨a3_b1, a3_⟩ := a3_); (try obtain ⟨a3_b2, a3_⟩ := a3_); (try obtain ⟨a3_b3, a3_⟩ := a3_); (try obtain ⟨a3_b4, a3_⟩ := a3_); (try obtain ⟨a3_b5, a3_⟩ := a3_); (try obtain ⟨a4_b1, a4_⟩ := a4_); (try obtain ⟨a4_b2, a4_⟩ := a4_); (try obtain ⟨a4_b3, a4_⟩ := a4_); (try obtain ⟨a4_b4, a4_⟩ := a4_); (try obtain ⟨a4_b5, a4_⟩ := a4_); (try obtain ⟨a5_b1, a5_⟩ := a5_); (try obtain ⟨a5_b2, a5_⟩ := a5_); (try obtain ⟨a5_b3, a5_⟩ := a5_); (try obtain ⟨a5_b4, a5_⟩ := a5_); (try obtain ⟨a5_b5, a5_⟩ := a5_); (try obtain ⟨a6_b1, a6_⟩ := a6_); (try obtain ⟨a6_b2, a6_⟩ := a6_); (try obtain ⟨a6_b3, a6_⟩ := a6_); (try obtain ⟨a6_b4, a6_⟩ := a6_); (try obtain ⟨a6_b5, a6_⟩ := a6_); (try obtain ⟨a7_b1, a7_⟩ := a7_); (try obtain ⟨a7_b2, a7_⟩ := a7_); (try obtain ⟨a7_b3, a7_⟩ := a7_); (try obtain ⟨a7_b4, a7_⟩ := a7_); (try obtain ⟨a7_b5, a7_⟩ := a7_); (repeat' apply And.intro) <;> assumption))), (by (with_reducible repeat (first | apply Kd.R_alloc | apply Kd.R_drewN | apply Kd.R_drew)); exact Kd.R_mono (Kd.R_far (p := ⟨gb240, 1, none⟩) (Kd.R_far (p := ⟨gb240, 0, none⟩) (Kd.R_types HO_240001.out BK240.out (by decide)) (fun _ hk => hk.2) (.slice Ao62 t258.length co62)) (fun _ hk => hk.2) (.slice Ao61 t264.length co61)) (fun _ hk => by (obtain ⟨a1_, a2_⟩ := hk; (try obtain ⟨a1_, a3_⟩ := a1_); (try obtain ⟨a1_, a4_⟩ := a1_); (try obtain ⟨a1_, a5_⟩ := a1_); (try obtain ⟨a1_, a6_⟩ := a1_); (try obtain ⟨a1_, a7_⟩ := a1_); (try obtain ⟨a2_b1, a2_⟩ := a2_); (try obtain ⟨a2_b2, a2_⟩ := a2_); (try obtain ⟨a2_b3, a2_⟩ := a2_); (try obtain ⟨a2_b4, a2_⟩ := a2_); (try obtain ⟨a2_b5, a2_⟩ := a2_); (try obtain ⟨a3_b1, a3_⟩ := a3_); (try obtain ⟨a3_b2, a3_⟩ := a3_); (try obtain ⟨a3_b3, a3_⟩ := a3_); (try obtain ⟨a3_b4, a3_⟩ := a3_); (try obtain ⟨a3_b5, a3_⟩ := a3_); (try obtain ⟨a4_b1, a4_⟩ := a4_); (try obtain ⟨a4_b2, a4_⟩ := a4_); (try obtain ⟨a4_b3, a4_⟩ := a4_); (try obtain ⟨a4_b4, a4_⟩ := a4_); (try obtain ⟨a4_b5, a4_⟩ := a4_); (try obtain ⟨a5_b1, a5_⟩ := a5_); (try obtain ⟨a5_b2, a5_⟩ := a5_); (try obtain ⟨a5_b3, a5_⟩ := a5_); (try obtain ⟨a5_b4, a5_⟩ := a5_); (try obtain ⟨a5_b5, a5_⟩ := a5_); (try obtain ⟨a6_b1, a6_⟩ := a6_); (try obtain ⟨a6_b2, a6_⟩ := a6_); (try obtain ⟨a6_b3, a6_⟩ := a6_); (try obtain ⟨a6_b4, a6_⟩ := a6_); (try obtain ⟨a6_b5, a6_⟩ := a6_); (try obtain ⟨a7_b1, a7_⟩ := a7_); (try obtain ⟨a7_b2, a7_⟩ := a7_); (try obtain ⟨a7_b3, a7_⟩ := a7_); (try obtain ⟨a7_b4, a7_⟩ := a7_); (try obtain ⟨a7_b5, a7_⟩ := a7_); (repeat' apply And.intro) <;> assumption))), (by (with_reducible repeat (first | refine blk_drewN ?_ _ | refine blk_drew ?_ | refine blk_alloc ?_ _)); refine blk_far ?_ NB239_240.out _; (with_reducible repeat (first | refine blk_drewN ?_ _ | refine blk_drew ?_ | refine blk_alloc ?_ _)); refine blk_far ?_ NB239_240.out _; (with_reducible repeat (first | refine blk_drewN ?_ _ | refine blk_drew ?_ | refine blk_alloc ?_ _)); exact BK239.out), fun h0_ => absurd ((up_self b 15).symm.trans h0_) (by decide), (by repeat (first | (with_reducible first | exact HK.out | apply Kept.alloc | apply Kept.drewN | apply Kept.drew | refine Kept.setCell ?_ (.inr GW239.out) _ | refine Kept.setCell ?_ (.inr GW240.out) _) | exact HK.out)), (by repeat (first | (with_reducible first | exact HB.out | apply below_alloc | apply pw_below_drewN | apply below_drew1 | refine below_set ?_ GE239.out | refine below_set ?_ GE240.out) | exact HB.out)), fun _ => (by (with_reducible repeat (first | apply Kd.R_alloc | apply Kd.R_drewN | apply Kd.R_drew)); exact Kd.R_mono (Kd.R_far (p := ⟨gb240, 1, none⟩) (Kd.R_far (p := ⟨gb240, 0, none⟩) (Kd.R_types HO257.out BK240.out (by decide)) (fun _ hk => hk.2) (.slice Ao62 t258.length co62)) (fun _ hk => hk.2) (.slice Ao61 t264.length co61)) (fun _ hk => by (obtain ⟨a1_, a2_⟩ := hk; (try obtain ⟨a1_, a3_⟩ := a1_); (try obtain ⟨a1_, a4_⟩ := a1_); (try obtain ⟨a1_, a5_⟩ := a1_); (try obtain ⟨a1_, a6_⟩ := a1_); (try obtain ⟨a1_, a7_⟩ := a1_); (try obtain ⟨a2_b1, a2_⟩ := a2_); (try obtain ⟨a2_b2, a2_⟩ := a2_); (try obtain ⟨a2_b3, a2_⟩ := a2_); (try obtain ⟨a2_b4, a2_⟩ := a2_); (try obtain ⟨a2_b5, a2_⟩ := a2_); (try obtain ⟨a3_b1, a3_⟩ := a3_); (try obtain ⟨a3_b2, a3_⟩ := a3_); (try obtain ⟨a3_b3, a3_⟩ := a3_); (try obtain ⟨a3_b4, a3_⟩ := a3_); (try obtain ⟨a3_b5, a3_⟩ := a3_); (try obtain ⟨a4_b1, a4_⟩ := a4_); (try obtain ⟨a4_b2, a4_⟩ := a4_); (try obtain ⟨a4_b3, a4_⟩ := a4_); (try obtain ⟨a4_b4, a4_⟩ := a4_); (try obtain ⟨a4_b5, a4_⟩ := a4_); (try obtain ⟨a5_b1, a5_⟩ := a5_); (try obtain ⟨a5_b2, a5_⟩ := a5_); (try obtain ⟨a5_b3, a5_⟩ := a5_); (try obtain ⟨a5_b4, a5_⟩ := a5_); (try obtain ⟨a5_b5, a5_⟩ := a5_); (try obtain ⟨a6_b1, a6_⟩ := a6_); (try obtain ⟨a6_b2, a6_⟩ := a6_); (try obtain ⟨a6_b3, a6_⟩ := a6_); (try obtain ⟨a6_b4, a6_⟩ := a6_); (try obtain ⟨a6_b5, a6_⟩ := a6_); (try obtain ⟨a7_b1, a7_⟩ := a7_); (try obtain ⟨a7_b2, a7_⟩ := a7_); (try obtain ⟨a7_b3, a7_⟩ := a7_); (try obtain ⟨a7_b4, a7_⟩ := a7_); (try obtain ⟨a7_b5, a7_⟩ := a7_); (repeat' apply And.intro) <;> assumption))), fun _ => (by (with_reducible repeat (first | apply Kd.R_alloc | apply Kd.R_drewN | apply Kd.R_drew)); exact Kd.R_mono (Kd.R_far (p := ⟨gb240, 1, none⟩) (Kd.R_far (p := ⟨gb240, 0, none⟩) (Kd.R_types HO260.out BK240.out (by decide)) (fun _ hk => hk.2) (.slice Ao62 t258.length co62)) (fun _ hk => hk.2) (.slice Ao61 t264.length co61)) (fun _ hk => by (obtain ⟨a1_, a2_⟩ := hk; (try obtain ⟨a1_, a3_⟩ := a1_); (try obtain ⟨a1_, a4_⟩ := a1_); (try obtain ⟨a1_, a5_⟩ := a1_); (try obtain ⟨a1_, a6_⟩ := a1_); (try obtain ⟨a1_, a7_⟩ := a1_); (try obtain ⟨a2_b1, a2_⟩ := a2_); (try obtain ⟨a2_b2, a2_⟩ := a2_); (try obtain ⟨a2_b3, a2_⟩ := a2_); (try obtain ⟨a2_b4, a2_⟩ := a2_); (try obtain ⟨a2_b5, a2_⟩ := a2_); (try obtain ⟨a3_b1, a3_⟩ := a3_); (try obtain ⟨a3_b2, a3_⟩ := a3_); (try obtain ⟨a3_b3, a3_⟩ := a3_); (try obtain ⟨a3_b4, a3_⟩ := a3_); (try obtain ⟨a3_b5, a3_⟩ := a3_); (try obtain ⟨a4_b1, a4_⟩ := a4_); (try obtain ⟨a4_b2, a4_⟩ := a4_); (try obtain ⟨a4_b3, a4_⟩ := a4_); (try obtain ⟨a4_b4, a4_⟩ := a4_); (try obtain ⟨a4_b5, a4_⟩ := a4_); (try obtain ⟨a5_b1, a5_⟩ := a5_); (try obtain ⟨a5_b2, a5_⟩ := a5_); (try obtain ⟨a5_b3, a5_⟩ := a5_); (try obtain ⟨a5_b4, a5_⟩ := a5_); (try obtain ⟨a5_b5, a5_⟩ := a5_); (try obtain ⟨a6_b1, a6_⟩ := a6_); (try obtain ⟨a6_b2, a6_⟩ := a6_); (try obtain ⟨a6_b3, a6_⟩ := a6_); (try obtain ⟨a6_b4, a6_⟩ := a6_); (try obtain ⟨a6_b5, a6_⟩ := a6_); (try obtain ⟨a7_b1, a7_⟩ := a7_); (try obtain ⟨a7_b2, a7_⟩ := a7_); (try obtain ⟨a7_b3, a7_⟩ := a7_); (try obtain ⟨a7_b4, a7_⟩ := a7_); (try obtain ⟨a7_b5, a7_⟩ := a7_); (repeat' apply And.intro) <;> assumption))), fun _ => (by (with_reducible repeat (first | apply Kd.R_alloc | apply Kd.R_drewN | apply Kd.R_drew)); exact Kd.R_mono (Kd.R_far (p := ⟨gb240, 1, none⟩) (Kd.R_far (p := ⟨gb240, 0, none⟩) (Kd.R_types HO263.out BK240.out (by decide)) (fun _ hk => hk.2) (.slice Ao62 t258.length co62)) (fun _ hk => hk.2) (.slice Ao61 t264.length co61)) (fun _ hk => by (obtain ⟨a1_, a2_⟩ := hk; (try obtain ⟨a1_, a3_⟩ := a1_); (try obtain ⟨a1_, a4_⟩ := a1_); (try obtain ⟨a1_, a5_⟩ := a1_); (try obtain ⟨a1_, a6_⟩ := a1_); (try obtain ⟨a1_, a7_⟩ := a1_); (try obtain ⟨a2_b1, a2_⟩ := a2_); (try obtain ⟨a2_b2, a2_⟩ := a2_); (try obtain ⟨a2_b3, a2_⟩ := a2_); (try obtain ⟨a2_b4, a2_⟩ := a2_); (try obtain ⟨a2_b5, a2_⟩ := a2_); (try obtain ⟨a3_b1, a3_⟩ := a3_); (try obtain ⟨a3_b2, a3_⟩ := a3_); (try obtain ⟨a3_b3, a3_⟩ := a3_); (try obtain ⟨a3_b4, a3_⟩ := a3_); (try obtain ⟨a3_b5, a3_⟩ := a3_); (try obtain ⟨a4_b1, a4_⟩ := a4_); (try obtain ⟨a4_b2, a4_⟩ := a4_); (try obtain ⟨a4_b3, a4_⟩ := a4_); (try obtain ⟨a4_b4, a4_⟩ := a4_); (try obtain ⟨a4_b5, a4_⟩ := a4_); (try obtain ⟨a5_b1, a5_⟩ := a5_); (try obtain ⟨a5_b2, a5_⟩ := a5_); (try obtain ⟨a5_b3, a5_⟩ := a5_); (try obtain ⟨a5_b4, a5_⟩ := a5_); (try obtain ⟨a5_b5, a5_⟩ := a5_); (try obtain ⟨a6_b1, a6_⟩ := a6_); (try obtain ⟨a6_b2, a6_⟩ := a6_); (try obtain ⟨a6_b3, a6_⟩ := a6_); (try obtain ⟨a6_b4, a6_⟩ := a6_); (try obtain ⟨a6_b5, a6_⟩ := a6_); (try obtain ⟨a7_b1, a7_⟩ := a7_); (try obtain ⟨a7_b2, a7_⟩ := a7_); (try obtain ⟨a7_b3, a7_⟩ := a7_); (try obtain ⟨a7_b4, a7_⟩ := a7_); (try obtain ⟨a7_b5, a7_⟩ := a7_); (repeat' apply And.intro) <;> assumption))), fun _ => (by (with_reducible repeat (first | apply Kd.R_alloc | apply Kd.R_drewN | apply Kd.R_drew)); exact Kd.R_mono (Kd.R_far (p := ⟨gb240, 1, none⟩) (Kd.R_far (p := ⟨gb240, 0, none⟩) (Kd.R_types HO266.out BK240.out (by decide)) (fun _ hk => hk.2) (.slice Ao62 t258.length co62)) (fun _ hk => hk.2) (.slice Ao61 t264.length co61)) (fun _ hk => by (obtain ⟨a1_, a2_⟩ := hk; (try obtain ⟨a1_, a3_⟩ := a1_); (try obtain ⟨a1_, a4_⟩ := a1_); (try obtain ⟨a1_, a5_⟩ := a1_); (try obtain ⟨a1_, a6_⟩ := a1_); (try obtain ⟨a1_, a7_⟩ := a1_); (try obtain ⟨a2_b1, a2_⟩ := a2_); (try obtain ⟨a2_b2, a2_⟩ := a2_); (try obtain ⟨a2_b3, a2_⟩ := a2_); (try obtain ⟨a2_b4, a2_⟩ := a2_); (try obtain ⟨a2_b5, a2_⟩ := a2_); (try obtain ⟨a3_b1, a3_⟩ := a3_); (try obtain ⟨a3_b2, a3_⟩ := a3_); (try obtain ⟨a3_b3, a3_⟩ := a3_); (try obtain ⟨a3_b4, a3_⟩ := a3_); (try obtain ⟨a3_b5, a3_⟩ := a3_); (try obtain ⟨a4_b1, a4_⟩ := a4_); (try obtain ⟨a4_b2, a4_⟩ := a4_); (try obtain ⟨a4_b3, a4_⟩ := a4_); (try obtain ⟨a4_b4, a4_⟩ := a4_); (try obtain ⟨a4_b5, a4_⟩ := a4_); (try obtain ⟨a5_b1, a5_⟩ := a5_); (try obtain ⟨a5_b2, a5_⟩ := a5_); (try obtain ⟨a5_b3, a5_⟩ := a5_); (try obtain ⟨a5_b4, a5_⟩ := a5_); (try obtain ⟨a5_b5, a5_⟩ := a5_); (try obtain ⟨a6_b1, a6_⟩ := a6_); (try obtain ⟨a6_b2, a6_⟩ := a6_); (try obtain ⟨a6_b3, a6_⟩ := a6_); (try obtain ⟨a6_b4, a6_⟩ := a6_); (try obtain ⟨a6_b5, a6_⟩ := a6_); (try obtain ⟨a7_b1, a7_⟩ := a7_); (try obtain ⟨a7_b2, a7_⟩ := a7_); (try obtain ⟨a7_b3, a7_⟩ := a7_); (try obtain ⟨a7_b4, a7_⟩ := a7_); (try obtain ⟨a7_b5, a7_⟩ := a7_); (repeat' apply And.intro) <;> assumption))), fun _ => (by (with_reducible repeat (first | refine blk_drewN ?_ _ | refine blk_drew ?_ | refine blk_alloc ?_ _)); refine blk_put (cs := #[.slice Ao62 t258.length co62, .slice none 0 0]) ?_ 1 _ rfl; (with_reducible repeat (first | refine blk_drewN ?_ _ | refine blk_drew ?_ | refine blk_alloc ?_ _)); refine blk_put (cs := #[.slice none 0 0, .slice none 0 0]) ?_ 0 _ rfl; (with_reducible repeat (first | refine blk_drewN ?_ _ | refine blk_drew ?_ | refine blk_alloc ?_ _)); exact BK240.out), Q_X14_, (by first | exact Q_NE_ | exact (fun _ => ne13_) | exact (fun h0_ => absurd ((hoff 13 (by kernel_rfl)).symm.trans h0_) (by decide)))⟩
              refine steps_cons ?_ ?_
              · rintro b a w' ⟨v256, v259, v262, v265, m14_, ha, Q_HO_240000, Q_HO_240001, Q_BK239, Q_BK240, Q_HK, Q_HB, Q_HO257, Q_HO260, Q_HO263, Q_HO266, Q_BK240_e15, Q_X14_, Q_NE_⟩ hb_ hon hoff
                refine ⟨_, rfl, fun K hK => ?_⟩
                replace ha := Aside0.mk ha
                have HO_240000 := Aside0.mk Q_HO_240000
                have HO_240001 := Aside0.mk Q_HO_240001
                have BK239 := Aside0.mk Q_BK239
                have HK := Aside0.mk Q_HK
                have HB := Aside0.mk Q_HB
                have HO257 := Aside0.mk (Q_HO257 (hon 5 (by kernel_rfl)))
                have HO260 := Aside0.mk (Q_HO260 (hon 6 (by kernel_rfl)))
                have HO263 := Aside0.mk (Q_HO263 (hon 12 (by kernel_rfl)))
                have HO266 := Aside0.mk (Q_HO266 (hon 13 (by kernel_rfl)))
                have BK240 := Aside0.mk (Q_BK240_e15 (hon 15 (by kernel_rfl)))
                refine value_ (w1 := w') (v := .int .i64 0) (by rfl) rfl ?_ ?_
                · go_simp
                  (try simp only [i64_w])
                  try rfl
                refine hK.out _ _ ⟨v256, v259, v262, v265, m14_, (by rw [ha.out]; exact putSel_upk 7 hb_ rfl rfl rfl), Q_HO_240000, Q_HO_240001, Q_BK239, fun h0_ => absurd ((hon 15 (by kernel_rfl)).symm.trans h0_) (by decide), Q_HK, Q_HB, Q_HO257, Q_HO260, Q_HO263, Q_HO266, Q_BK240_e15, Q_X14_, (by first | exact Q_NE_ | exact (fun _ => ne13_) | exact (fun h0_ => absurd ((hoff 13 (by kernel_rfl)).symm.trans h0_) (by decide)))⟩
              exact steps_nil
            rintro b a w62 hall ⟨v256, v259, v262, v265, m14_, ha, Q_HO_240000, Q_HO_240001, Q_BK239, Q_BK240, Q_HK, Q_HB, Q_HO257, Q_HO260, Q_HO263, Q_HO266, Q_BK240_e15, Q_X14_, Q_NE_⟩
            clear BK239 BK240 HB HK HO_240000 HO_240001
            have hb1_ := hall 1 (by kernel_rfl)
            have hb5_ := hall 5 (by kernel_rfl)
            have hb6_ := hall 6 (by kernel_rfl)
            have hb8_ := hall 8 (by kernel_rfl)
            have hb12_ := hall 12 (by kernel_rfl)
            have hb13_ := hall 13 (by kernel_rfl)
            have hb14_ := hall 14 (by kernel_rfl)
            have hb15_ := hall 15 (by kernel_rfl)
            have hb16_ := hall 16 (by kernel_rfl)
            subst ha
            obtain rfl := Q_X14_ hb14_
            simp only [putSel, hb1_, hb5_, hb6_, hb8_, hb12_, hb13_, hb14_, hb15_, hb16_, if_true, Act.put, List.setIfInBounds_toArray, List.set_cons_zero, List.set_cons_succ]
            have HO_240000 := Aside0.mk Q_HO_240000
            clear Q_HO_240000
            have HO_240001 := Aside0.mk Q_HO_240001
            clear Q_HO_240001
            have BK239 := Aside0.mk Q_BK239
            clear Q_BK239
            clear Q_BK240
            have HK := Aside0.mk Q_HK
            clear Q_HK
            have HB := Aside0.mk Q_HB
            clear Q_HB
            have HO257 := Aside0.mk (Q_HO257 hb5_)
            clear Q_HO257
            have HO260 := Aside0.mk (Q_HO260 hb6_)
            clear Q_HO260
            have HO263 := Aside0.mk (Q_HO263 hb12_)
            clear Q_HO263
            have HO266 := Aside0.mk (Q_HO266 hb13_)
            clear Q_HO266
            have BK240 := Aside0.mk (Q_BK240_e15 hb15_)
            clear Q_BK240_e15
            have NE_ := Aside0.mk (Q_NE_ hb13_)
            clear Q_NE_
            clear hall hb1_ hb5_ hb6_ hb8_ hb12_ hb13_ hb14_ hb15_ hb16_
            obtain ⟨Ao63, co63, eo63⟩ := Kd.R_slice HO266.out
            (first | subst eo63 | (injection eo63 with f1_ f2_ f3_; have f4_ := f1_.symm; have f5_ := f3_.symm; clear f1_ f2_ f3_; subst f4_; subst f5_))
            obtain ⟨Ao64, co64, eo64⟩ := Kd.R_slice HO260.out
            (first | subst eo64 | (injection eo64 with f1_ f2_ f3_; have f4_ := f1_.symm; have f5_ := f3_.symm; clear f1_ f2_ f3_; subst f4_; subst f5_))
            try go_wp2
            refine bodyPost_ret (results_ct rfl _ _ gb240 40 #[.slice Ao64 t258.length co64, .slice Ao63 t264.length co63] (0, 0) _ rfl (by (with_reducible repeat (first | refine blk_drewN ?_ _ | refine blk_drew ?_ | refine blk_alloc ?_ _)); exact BK240.out) Try.underlying40 rfl (by kernel_rfl)) rfl ?_
            exact ⟨_, _, by first | rfl | (simp [errW_none, errW_some] <;> rfl) | (simp [*, errW_none, errW_some] <;> rfl), by (with_reducible repeat (first | apply Kd.R_alloc | apply Kd.R_drewN | apply Kd.R_drew)); exact row_mono HO260.out (fun k_ ho_ hk => by (obtain ⟨a1_, a2_⟩ := hk; (try obtain ⟨a1_, a3_⟩ := a1_); (try obtain ⟨a1_, a4_⟩ := a1_); (try obtain ⟨a1_, a5_⟩ := a1_); (try obtain ⟨a1_, a6_⟩ := a1_); (try obtain ⟨a1_, a7_⟩ := a1_); (try obtain ⟨a2_b1, a2_⟩ := a2_); (try obtain ⟨a2_b2, a2_⟩ := a2_); (try obtain ⟨a2_b3, a2_⟩ := a2_); (try obtain ⟨a2_b4, a2_⟩ := a2_); (try obtain ⟨a2_b5, a2_⟩ := a2_); (try obtain ⟨a3_b1, a3_⟩ := a3_); (try obtain ⟨a3_b2, a3_⟩ := a3_); (try obtain ⟨a3_b3, a3_⟩ := a3_); (try obtain ⟨a3_b4, a3_⟩ := a3_); (try obtain ⟨a3_b5, a3_⟩ := a3_); (try obtain ⟨a4_b1, a4_⟩ := a4_); (try obtain ⟨a4_b2, a4_⟩ := a4_); (try obtain ⟨a4_b3, a4_⟩ := a4_); (try obtain ⟨a4_b4, a4_⟩ := a4_); (try obtain ⟨a4_b5, a4_⟩ := a4_); (try obtain ⟨a5_b1, a5_⟩ := a5_); (try obtain ⟨a5_b2, a5_⟩ := a5_); (try obtain ⟨a5_b3, a5_⟩ := a5_); (try obtain ⟨a5_b4, a5_⟩ := a5_); (try obtain ⟨a5_b5, a5_⟩ := a5_); (try obtain ⟨a6_b1, a6_⟩ := a6_); (try obtain ⟨a6_b2, a6_⟩ := a6_); (try obtain ⟨a6_b3, a6_⟩ := a6_); (try obtain ⟨a6_b4, a6_⟩ := a6_); (try obtain ⟨a6_b5, a6_⟩ := a6_); (try obtain ⟨a7_b1, a7_⟩ := a7_); (try obtain ⟨a7_b2, a7_⟩ := a7_); (try obtain ⟨a7_b3, a7_⟩ := a7_); (try obtain ⟨a7_b4, a7_⟩ := a7_); (try obtain ⟨a7_b5, a7_⟩ := a7_); (repeat' apply And.intro) <;> first | assumption | exact fun e_ => NE_.out k_ ho_ e_.symm | exact fun e_ => NE_.out k_ e_.symm ho_)), by (with_reducible repeat (first | apply Kd.R_alloc | apply Kd.R_drewN | apply Kd.R_drew)); exact row_mono HO266.out (fun k_ ho_ hk => by (obtain ⟨a1_, a2_⟩ := hk; (try obtain ⟨a1_, a3_⟩ := a1_); (try obtain ⟨a1_, a4_⟩ := a1_); (try obtain ⟨a1_, a5_⟩ := a1_); (try obtain ⟨a1_, a6_⟩ := a1_); (try obtain ⟨a1_, a7_⟩ := a1_); (try obtain ⟨a2_b1, a2_⟩ := a2_); (try obtain ⟨a2_b2, a2_⟩ := a2_); (try obtain ⟨a2_b3, a2_⟩ := a2_); (try obtain ⟨a2_b4, a2_⟩ := a2_); (try obtain ⟨a2_b5, a2_⟩ := a2_); (try obtain ⟨a3_b1, a3_⟩ := a3_); (try obtain ⟨a3_b2, a3_⟩ := a3_); (try obtain ⟨a3_b3, a3_⟩ := a3_); (try obtain ⟨a3_b4, a3_⟩ := a3_); (try obtain ⟨a3_b5, a3_⟩ := a3_); (try obtain ⟨a4_b1, a4_⟩ := a4_); (try obtain ⟨a4_b2, a4_⟩ := a4_); (try obtain ⟨a4_b3, a4_⟩ := a4_); (try obtain ⟨a4_b4, a4_⟩ := a4_); (try obtain ⟨a4_b5, a4_⟩ := a4_); (try obtain ⟨a5_b1, a5_⟩ := a5_); (try obtain ⟨a5_b2, a5_⟩ := a5_); (try obtain ⟨a5_b3, a5_⟩ := a5_); (try obtain ⟨a5_b4, a5_⟩ := a5_); (try obtain ⟨a5_b5, a5_⟩ := a5_); (try obtain ⟨a6_b1, a6_⟩ := a6_); (try obtain ⟨a6_b2, a6_⟩ := a6_); (try obtain ⟨a6_b3, a6_⟩ := a6_); (try obtain ⟨a6_b4, a6_⟩ := a6_); (try obtain ⟨a6_b5, a6_⟩ := a6_); (try obtain ⟨a7_b1, a7_⟩ := a7_); (try obtain ⟨a7_b2, a7_⟩ := a7_); (try obtain ⟨a7_b3, a7_⟩ := a7_); (try obtain ⟨a7_b4, a7_⟩ := a7_); (try obtain ⟨a7_b5, a7_⟩ := a7_); (repeat' apply And.intro) <;> first | assumption | exact fun e_ => NE_.out k_ ho_ e_.symm | exact fun e_ => NE_.out k_ e_.symm ho_)), by repeat (first | (with_reducible first | exact HB.out | apply below_alloc | apply pw_below_drewN | apply below_drew1 | refine below_set ?_ GE239.out | refine below_set ?_ GE240.out) | exact HB.out), by repeat (first | (with_reducible first | exact HK.out | apply Kept.alloc | apply Kept.drewN | apply Kept.drew | refine Kept.setCell ?_ (.inr GW239.out) _ | refine Kept.setCell ?_ (.inr GW240.out) _) | exact HK.out)⟩

end Go.Proofs.Ytncmkcdnlcmiaaa.PWheelPlays
