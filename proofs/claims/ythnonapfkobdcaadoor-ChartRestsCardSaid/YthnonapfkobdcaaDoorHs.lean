/- chart.homes, chart.First, chart.Plan. -/
import Derived.Test.YthnonapfkobdcaaDoorGp
import Derived.Test.YthnonapfkobdcaaDoorCo
namespace Go.Proofs.YthnonapfkobdcaaDoor.Ch
open Base Go.RowKit Rg Go.Proofs.YthnonapfkobdcaaDoorW.PrintWords Go.Proofs.YthnonapfkobdcaaDoorW.PrintLast Go.Proofs.YthnonapfkobdcaaDoorW.PrintMore
set_option linter.unusedVariables false
set_option linter.unusedSimpArgs false
open PChartPlans (S52 k52)

open Classical in
/-- What the nodes of shards are told with. -/
noncomputable def hEr (ns : List Int) (pl m : Int) : Int := if (1 ≤ pl ∧ pl ≤ 64) ∧ Ri.Nodes ns ∧ (1 ≤ m ∧ m ≤ 16) then (if ns = [] then 3 else 0) else 1
theorem hEr_bad {ns : List Int} {pl m : Int} (h : ¬ ((1 ≤ pl ∧ pl ≤ 64) ∧ Ri.Nodes ns ∧ (1 ≤ m ∧ m ≤ 16))) : hEr ns pl m = 1 := by unfold hEr; rw [if_neg h]
theorem hEr_none {pl m : Int} (h : (1 ≤ pl ∧ pl ≤ 64) ∧ Ri.Nodes [] ∧ (1 ≤ m ∧ m ≤ 16)) : hEr [] pl m = 3 := by unfold hEr; rw [if_pos h, if_pos rfl]
theorem hEr_ok {ns : List Int} {pl m : Int} (h : (1 ≤ pl ∧ pl ≤ 64) ∧ Ri.Nodes ns ∧ (1 ≤ m ∧ m ≤ 16)) (hn : ns ≠ []) : hEr ns pl m = 0 := by unfold hEr; rw [if_pos h, if_neg hn]
theorem hEr_zero {ns : List Int} {pl m : Int} (h : hEr ns pl m = 0) : ((1 ≤ pl ∧ pl ≤ 64) ∧ Ri.Nodes ns ∧ (1 ≤ m ∧ m ≤ 16)) ∧ ns ≠ [] := by
  unfold hEr at h
  split at h
  · rename_i h1
    split at h
    · cases h
    · rename_i h2; exact ⟨h1, h2⟩
  · cases h
structure HomesAre (ns : List Int) (pl m : Int) (out : List Int) : Prop where
  no : hEr ns pl m ≠ 0 → out = []
  yes : hEr ns pl m = 0 → Ri.IsShards (ring Ri.spN ns pl.toNat) m.toNat out
theorem IsShards_eq {l : List (Int × Int)} {m : Nat} {a b : List Int} (h : Ri.IsShards l m a) (k : Ri.IsShards l m b) : a = b := by
  refine List.ext_getElem (h.len.trans k.len.symm) (fun i h1 h2 => ?_)
  exact (h.home i h1).eq (k.home i h2)
theorem HomesAre.eq {ns : List Int} {pl m : Int} {a b : List Int} (h : HomesAre ns pl m a) (k : HomesAre ns pl m b) : a = b := by
  by_cases e : hEr ns pl m = 0
  · exact IsShards_eq (h.yes e) (k.yes e)
  · rw [h.no e, k.no e]
structure HomesDone (ns : List Int) (pl m : Int) (W : World) (e : Ending) (w' : World) : Prop where
  ex : ∃ A cap out, e = .returned (.tuple #[.slice A out.length cap, .int .i64 (hEr ns pl m)]) ∧ HomesAre ns pl m out ∧ out.length ≤ cap ∧ Kd.C (Kd.int .i64) w' A out.length out ∧ ∀ a, A = some a → W.heap.size ≤ a.block
  below : Below W.heap.size W w'
theorem HomesDone.nil {ns : List Int} {pl m : Int} {W w' : World} (er : Int) (h : hEr ns pl m = er) (h0 : er ≠ 0) (hb : Below W.heap.size W w') : HomesDone ns pl m W (.returned (.tuple #[.slice none 0 0, .int .i64 er])) w' :=
  ⟨⟨none, 0, [], by rw [h]; rfl, ⟨fun _ => rfl, fun e => absurd (h.symm.trans e) h0⟩, Nat.le_refl _, ⟨rfl, by simp, fun h => by simp at h⟩, fun a h => by cases h⟩, hb⟩

set_option maxRecDepth 100000 in
set_option maxHeartbeats 1000000 in
theorem homes_calls (A : Option Addr) (c : Nat) (ns : List Int) (pl m : Int) (W : World) (hr : Kd.C (Kd.int .i64) W A ns.length ns) :
    Calls Tryd.prog 50 #[.slice A ns.length c, .int .i64 pl, .int .i64 m] W (HomesDone ns pl m W) := by
  have HR := Aside0.mk hr
  clear hr
  by_cases hp : 1 ≤ pl ∧ pl ≤ 64
  rotate_left
  · have HE := Aside0.mk (hEr_bad (ns := ns) (pl := pl) (m := m) (fun h => hp h.1))
    go_enter Tryd.func50, Tryd.ntmps50
    go_wp2_with (go_at_call 16; refine (Ri.new_bad A c ns.length pl W (by omega)).mono ?_; rintro e w' ⟨rfl, rfl⟩)
    go_ret2
    exact HomesDone.nil 1 HE.out (by decide) (Below.refl _ _)
  obtain ⟨p, rfl⟩ : ∃ p : Nat, pl = (p : Int) := ⟨pl.toNat, by omega⟩
  obtain ⟨hp1, hp2⟩ := hp
  have hq1 : 1 ≤ p := by omega
  have hq2 : p ≤ 64 := by omega
  go_enter Tryd.func50, Tryd.ntmps50
  go_wp2_with fail
  refine (Ri.new_calls A c ns p W HR.out hq1 hq2).mono ?_
  rintro e w1 ⟨hex, hb1⟩
  have HB1 := Aside0.mk hb1
  clear hb1
  rcases hex with ⟨hn, b, rfl, hR, _⟩ | ⟨hn, rfl⟩
  rotate_left
  · have HE := Aside0.mk (hEr_bad (ns := ns) (pl := (p : Int)) (m := m) (fun h => hn h.2.1))
    clear hn
    go_wp2_with fail
    go_ret2
    exact HomesDone.nil 1 HE.out (by decide) HB1.out
  have HN := Aside0.mk hn
  have HRI := Aside0.mk hR
  clear hn hR
  go_wp2_with fail
  by_cases hm : 1 ≤ m ∧ m ≤ 16
  rotate_left
  · have HE := Aside0.mk (hEr_bad (ns := ns) (pl := (p : Int)) (m := m) (fun h => hm h.2.2))
    refine (Ri.shards_bad HRI.out m (by omega)).mono ?_
    rintro e w2 ⟨rfl, rfl⟩
    clear hm
    go_wp2_with fail
    go_ret2
    exact HomesDone.nil 1 HE.out (by decide) HB1.out
  obtain ⟨q, rfl⟩ : ∃ q : Nat, m = (q : Int) := ⟨m.toNat, by omega⟩
  by_cases hns : ns = []
  · subst hns
    have HE := Aside0.mk (hEr_none (pl := (p : Int)) (m := (q : Int)) ⟨⟨hp1, hp2⟩, HN.out, hm⟩)
    have HR0 : Aside0 (Ri.RingIs w1 b []) := ⟨by have := HRI.out; rw [Ri.ring_nil] at this; exact this⟩
    refine (Ri.shards_none HR0.out q (by omega) (by omega)).mono ?_
    rintro e w2 ⟨rfl, hb2⟩
    have HB2 := Aside0.mk (below_step HB1.out hb2)
    clear hb2 hm
    go_wp2_with fail
    go_ret2
    exact HomesDone.nil 3 HE.out (by decide) HB2.out
  · have HE := Aside0.mk (hEr_ok (pl := (p : Int)) (m := (q : Int)) ⟨⟨hp1, hp2⟩, HN.out, hm⟩ hns)
    refine (Ri.shards_some HRI.out (by rw [ring_len]; exact Nat.mul_pos (List.length_pos_iff.2 hns) (by omega)) q (by omega) (by omega)).mono ?_
    rintro e w2 ⟨⟨A2, c2, out, rfl, ho, how⟩, hb2⟩
    have HB2 := Aside0.mk (below_step HB1.out hb2)
    have HO := Aside0.mk ho
    have HW := Aside0.mk how
    clear hb2 hm ho how hns
    go_wp2_with fail
    go_ret2
    refine ⟨⟨A2, c2, out, by rw [HE.out]; rfl, ⟨fun h => absurd HE.out h, fun _ => HO.out⟩, own_le HW.out, Kd.C_of_reads (own_reads' HW.out), fun a ha => ?_⟩, HB2.out⟩
    subst ha
    exact Nat.le_trans HB1.out.size (own_base HW.out a.block rfl)

structure FirstDone (ns : List Int) (pl m : Int) (W : World) (e : Ending) (w' : World) : Prop where
  ex : ∃ A cap out, e = .returned (.tuple #[.agg #[.int .i64 (if hEr ns pl m = 0 then 1 else 0), .slice A out.length cap], .int .i64 (hEr ns pl m)]) ∧ HomesAre ns pl m out ∧ out.length ≤ cap ∧ Kd.C (Kd.int .i64) w' A out.length out ∧ ∀ a, A = some a → W.heap.size ≤ a.block
  below : Below W.heap.size W w'

set_option maxHeartbeats 1000000 in
theorem first_calls (A : Option Addr) (c : Nat) (ns : List Int) (pl m : Int) (W : World) (hr : Kd.C (Kd.int .i64) W A ns.length ns) :
    Calls Tryd.prog 23 #[.slice A ns.length c, .int .i64 pl, .int .i64 m] W (FirstDone ns pl m W) := by
  have HR := Aside0.mk (Kd.C_alloc hr (.cells #[.int .i64 0, .slice none 0 0] 24))
  clear hr
  have HB0 := Aside0.mk (below_alloc (Below.refl W.heap.size W) (.cells #[.int .i64 0, .slice none 0 0] 24))
  have HG := Aside0.mk (blk_new W (.cells #[.int .i64 0, .slice none 0 0] 24))
  go_enter Tryd.func23, Tryd.ntmps23
  go_wp2_with fail
  refine (homes_calls A c ns pl m _ HR.out).mono ?_
  rintro e w1 ⟨⟨A1, c1, out, rfl, hh, hc1, hC1, hA1⟩, hb1⟩
  have HG1 := Aside0.mk ((hb1.block W.heap.size (by simp)).trans HG.out)
  have HB1 := Aside0.mk (below_step HB0.out hb1)
  have HH := Aside0.mk hh
  have HC1 := Aside0.mk hC1
  have HA1 := Aside0.mk hA1
  have hA1' : ∀ a, A1 = some a → W.heap.size + 1 ≤ a.block := fun a ha => by have := hA1 a ha; simp at this; omega
  have HA1' := Aside0.mk hA1'
  clear hh hC1 hA1 hA1' hb1
  have x0 : w1.cell? ⟨W.heap.size, 0, none⟩ = some (.int .i64 0) := (blk_cell HG1.out 0).trans rfl
  have x1 : w1.cell? ⟨W.heap.size, 1, none⟩ = some (.slice none 0 0) := (blk_cell HG1.out 1).trans rfl
  have z0 := blk_frozen HG1.out 0
  have z1 := blk_frozen HG1.out 1
  have hbk : ∀ u v, Below W.heap.size W ((w1.setCell ⟨W.heap.size, 0, none⟩ u).setCell ⟨W.heap.size, 1, none⟩ v) := fun u v => below_set (below_set HB1.out (Nat.le_refl _)) (Nat.le_refl _)
  have HBK := Aside0.mk hbk
  clear hbk
  by_cases he : hEr ns pl m = 0
  · have HE := Aside0.mk he
    rw [he]
    clear he
    go_wp2_with fail
    refine bodyPost_ret (v := .tuple #[.agg #[.int .i64 1, .slice A1 out.length c1], .int .i64 0]) (by simp [results, Tryd.results23, go_sem, x0, x1]) rfl ⟨⟨A1, c1, out, by rw [HE.out]; rfl, HH.out, hc1, ?_, fun a ha => by have := HA1'.out a ha; omega⟩, HBK.out _ _⟩
    exact C_keep (w := w1) (g := W.heap.size) (fun _ _ h => h) HC1.out (KeepBut.set_ (KeepBut.set_ (KeepBut.refl _ _ _) _ _) _ _) (fun a ha => by have := HA1'.out a ha; omega)
  · have ho := HH.out.no he
    have he2 : (hEr ns pl m == 0) = false := by simpa using he
    have he3 : (hEr ns pl m != 0) = true := by simpa using he
    subst ho
    have HE := Aside0.mk he
    have HI : Aside0 ((if hEr ns pl m = 0 then (1 : Int) else 0) = 0) := ⟨if_neg he⟩
    have HF : Aside0 (∀ w', Below W.heap.size W w' → FirstDone ns pl m W (.returned (.tuple #[.agg #[.int .i64 0, .slice none 0 0], .int .i64 (hEr ns pl m)])) w') := ⟨fun w' hb => ⟨⟨none, 0, [], by rw [HI.out]; rfl, HH.out, Nat.le_refl _, ⟨rfl, by simp, fun h => by simp at h⟩, fun a h => by cases h⟩, hb⟩⟩
    generalize hEr ns pl m = er at *
    go_wp2_with fail
    refine bodyPost_ret (v := .tuple #[.agg #[.int .i64 0, .slice none 0 0], .int .i64 er]) (by simp [results, Tryd.results23, go_sem, x0, x1]) rfl (HF.out _ (HBK.out _ _))

noncomputable def pEr (ep : Int) (xs ns : List Int) (pl : Int) : Int := if ckI ep xs = 0 then hEr ns pl xs.length else 1
structure PlanIs (ep : Int) (xs ns : List Int) (pl : Int) (L : List S52) : Prop where
  no : pEr ep xs ns pl ≠ 0 → L = []
  yes : pEr ep xs ns pl = 0 → ∃ out, HomesAre ns pl xs.length out ∧ out.length = xs.length ∧ L = Pl.mvF xs out xs.length 0
structure PlanDone (ep : Int) (xs ns : List Int) (pl : Int) (W : World) (e : Ending) (w' : World) : Prop where
  ex : ∃ A cap L, e = .returned (.tuple #[.slice A L.length cap, .int .i64 (pEr ep xs ns pl)]) ∧ PlanIs ep xs ns pl L ∧ L.length ≤ cap ∧ Kd.C k52 w' A L.length L ∧ ∀ a, A = some a → W.heap.size ≤ a.block
  below : Below W.heap.size W w'
theorem PlanDone.nil {ep : Int} {xs ns : List Int} {pl : Int} {W w' : World} (er : Int) (h : pEr ep xs ns pl = er) (h0 : er ≠ 0) (hb : Below W.heap.size W w') : PlanDone ep xs ns pl W (.returned (.tuple #[.slice none 0 0, .int .i64 er])) w' :=
  ⟨⟨none, 0, [], by rw [h]; rfl, ⟨fun _ => rfl, fun e => absurd (h.symm.trans e) h0⟩, Nat.le_refl _, ⟨rfl, by simp, fun h => by simp at h⟩, fun a h => by cases h⟩, hb⟩

set_option maxRecDepth 100000 in
set_option maxHeartbeats 1000000 in
theorem plan_calls (ep : Int) (A : Option Addr) (c : Nat) (xs : List Int) (B : Option Addr) (d : Nat) (ns : List Int) (pl : Int) (W : World) (hx : Kd.C (Kd.int .i64) W A xs.length xs) (hc : xs.length ≤ c) (hr : Kd.C (Kd.int .i64) W B ns.length ns) :
    Calls Tryd.prog 25 #[.agg #[.int .i64 ep, .slice A xs.length c], .slice B ns.length d, .int .i64 pl] W (PlanDone ep xs ns pl W) := by
  have hxl : xs.length ≤ 9223372036854775807 := hx.2.1
  have hb0 := below_alloc (Below.refl W.heap.size W) (.cells #[.int .i64 ep, .slice A xs.length c] 24)
  have HX0 := Aside0.mk (Kd.C_below hx hb0)
  have HR0 := Aside0.mk (Kd.C_below hr hb0)
  have HC0 := Aside0.mk hc
  have HG := Aside0.mk (blk_new W (.cells #[.int .i64 ep, .slice A xs.length c] 24))
  have HB0 := Aside0.mk hb0
  clear hx hr hb0 hc
  go_enter Tryd.func25, Tryd.ntmps25
  go_wp2_with fail
  refine (check_calls ep A c xs _ HX0.out hxl).mono ?_
  rintro e w1 ⟨rfl, hb1⟩
  have HX1 := Aside0.mk (Kd.C_below HX0.out hb1)
  have HR1 := Aside0.mk (Kd.C_below HR0.out hb1)
  have HG1 := Aside0.mk ((hb1.block W.heap.size (by simp)).trans HG.out)
  have HB1 := Aside0.mk (below_step HB0.out hb1)
  clear hb1 HX0 HR0 HG
  by_cases hk : ckI ep xs = 0
  rotate_left
  · have hk1 : ckI ep xs = 1 := (ck01 ep xs).resolve_right hk
    have HE : Aside0 (pEr ep xs ns pl = 1) := ⟨by unfold pEr; rw [if_neg hk]⟩
    rw [hk1]
    clear hk hk1
    go_wp2_with fail
    go_ret2
    exact PlanDone.nil 1 HE.out (by decide) HB1.out
  have hbd := ck_bounds hk
  have hx16 := hbd.2.2.2
  have HE : Aside0 (pEr ep xs ns pl = hEr ns pl xs.length) := ⟨by unfold pEr; rw [if_pos hk]⟩
  rw [hk]
  have x1 : w1.cell? ⟨W.heap.size, 1, none⟩ = some (.slice A xs.length c) := (blk_cell HG1.out 1).trans rfl
  clear hk hbd
  go_wp2_with fail
  refine (homes_calls B d ns pl xs.length w1 HR1.out).mono ?_
  rintro e w2 ⟨⟨A2, c2, out, rfl, hh, hc2, hC2, hA2⟩, hb2⟩
  have HX2 := Aside0.mk (Kd.C_below HX1.out hb2)
  have HG2 := Aside0.mk (blk_below HG1.out hb2)
  have HB2 := Aside0.mk (below_step HB1.out hb2)
  have HH := Aside0.mk hh
  have HC2 := Aside0.mk hC2
  have HK2 := Aside0.mk hc2
  have x2 : w2.cell? ⟨W.heap.size, 1, none⟩ = some (.slice A xs.length c) := (blk_cell HG2.out 1).trans rfl
  clear hb2 hh hC2 hc2 hA2 x1
  by_cases he : hEr ns pl xs.length = 0
  · have hz := hEr_zero he
    have hol : out.length = xs.length := by have := (HH.out.yes he).len; simpa using this
    have HPI : Aside0 (PlanIs ep xs ns pl (Pl.mvF xs out xs.length 0)) := ⟨⟨fun h => absurd (HE.out.trans he) h, fun _ => ⟨out, HH.out, hol, rfl⟩⟩⟩
    have HE2 : Aside0 (pEr ep xs ns pl = 0) := ⟨HE.out.trans he⟩
    have hm := Pl.moves_f xs out hol.symm (by omega)
    obtain ⟨L, hL⟩ : ∃ L, Pl.mvF xs out xs.length 0 = L := ⟨_, rfl⟩
    rw [hL] at hm HPI
    have HM : Aside0 (Calls Tryd.prog 52 #[.slice A xs.length c, .slice A2 out.length c2] w2 fun e w' => ∃ A3 c3, e = .returned (.slice A3 L.length c3) ∧ L.length ≤ c3 ∧ Kd.C k52 w' A3 L.length L ∧ (∀ a, A3 = some a → w2.heap.size ≤ a.block) ∧ Below w2.heap.size w2 w') := ⟨by
      refine (PChartPlans.chart_moves.calls (xs.length + 1) A c xs A2 c2 out L w2 HX2.out HC0.out HC2.out HK2.out hm).mono ?_
      rintro e w3 ⟨v, rfl, hR, hb3⟩
      have hbase := Kd.R_base hR
      obtain ⟨A3, c3, rfl, hc3, hC3⟩ := Kd.R_reads hR
      exact ⟨A3, c3, rfl, hc3, hC3, fun a ha => by subst ha; exact hbase a.block rfl, hb3⟩⟩
    rw [hol] at HM
    rw [he]
    clear he hz hm hL
    go_wp2_with fail
    refine HM.out.mono ?_
    rintro e w3 ⟨A3, c3, rfl, hc3, hC3, hA3, hb3⟩
    have HA3 := Aside0.mk hA3
    have HB3 := Aside0.mk (below_step HB2.out hb3)
    have HC3 := Aside0.mk hC3
    have HK3 := Aside0.mk hc3
    clear hb3 hC3 hc3 hA3
    go_wp2_with fail
    go_ret2
    exact ⟨⟨A3, c3, _, by rw [HE2.out]; rfl, HPI.out, HK3.out, HC3.out, fun a ha => Nat.le_trans HB2.out.size (HA3.out a ha)⟩, HB3.out⟩
  · have he2 : (hEr ns pl xs.length == 0) = false := by simpa using he
    have he3 : (hEr ns pl xs.length != 0) = true := by simpa using he
    have HF := Aside0.mk (fun w' hb => PlanDone.nil (W := W) (w' := w') _ HE.out he hb)
    generalize hEr ns pl xs.length = er at *
    clear he
    go_wp2_with fail
    go_ret2
    exact HF.out _ HB2.out
end Go.Proofs.YthnonapfkobdcaaDoor.Ch
