/- Several texts in one: Gp, Hs, Rh, Rq, Rt, Ru, Ps, Ar. -/
import Derived.Test.YthnonapfkobdcaaDoorChD
import Derived.Test.YthnonapfkobdcaaDoorCo
import Derived.Test.YthnonapfkobdcaaDoorRf
import Derived.Test.YthnonapfkobdcaaDoorNw
import Derived.Test.YthnonapfkobdcaaDoorBase
import Derived.WideKeyArr2
import Derived.Lib.SmallJoins
import Derived.OpenShut
namespace Go.Proofs.YthnonapfkobdcaaDoor.Ch
open Base Go.RowKit Go.Proofs.YthnonapfkobdcaaDoorW.PrintWords Go.Proofs.YthnonapfkobdcaaDoorW.PrintLast Go.Proofs.YthnonapfkobdcaaDoorW.PrintMore
set_option linter.unusedVariables false
set_option linter.unusedSimpArgs false
open PChartPlans (S52 k52)

theorem ck_bounds {ep : Int} {xs : List Int} (h : ckI ep xs = 0) : 1 ≤ ep ∧ ep ≤ 1099511627776 ∧ 1 ≤ xs.length ∧ xs.length ≤ 16 := by
  unfold ckI mayB at h; simp at h; omega

theorem doneN_length (xs : List Int) (s : Nat) (n : Int) (hs : s < xs.length) : (doneN xs s n).length = xs.length := by
  unfold doneN; simp; omega

theorem doneN_set (xs : List Int) (s : Nat) (n : Int) (hs : s < xs.length) : doneN xs s n = xs.set s n := by
  unfold doneN
  rw [List.set_eq_take_append_cons_drop, if_pos hs]
  simp

theorem rd_set (xs : List Int) (s : Nat) (n : Int) (i : Nat) (hi : i < xs.length) : rd (xs.set s n) (i : Int) = if s = i then n else rd xs (i : Int) := by
  unfold rd
  rw [Int.toNat_natCast, List.getD_eq_getElem?_getD, List.getD_eq_getElem?_getD, List.getElem?_set]
  by_cases e : s = i
  · subst e; simp [hi]
  · simp [e]

theorem any_odd {xs : List Int} (h : xs.any oddB = false) (i : Nat) (hi : i < xs.length) : 0 ≤ rd xs (i : Int) ∧ rd xs (i : Int) < 8 := by
  rw [List.any_eq_false] at h
  have := h xs[i] (List.getElem_mem hi)
  unfold rd
  rw [Int.toNat_natCast, List.getD_eq_getElem?_getD, List.getElem?_eq_getElem hi]
  unfold oddB at this
  simp at this
  simpa using this

theorem ck_any {ep : Int} {xs : List Int} (h : ckI ep xs = 0) : xs.any oddB = false := by
  unfold ckI mayB at h
  cases e : xs.any oddB
  · rfl
  · rw [e] at h; simp at h

theorem set_any {xs : List Int} (h : xs.any oddB = false) (s : Nat) (n : Int) (hn : oddB n = false) : (xs.set s n).any oddB = false := by
  rw [List.any_eq_false] at *
  intro x hx
  rcases List.mem_or_eq_of_mem_set hx with h1 | rfl
  · exact h x h1
  · simp [hn]

theorem ck_done {ep : Int} {xs : List Int} (h : ckI ep xs = 0) (he : ep < 1099511627776) (s : Nat) (n : Int) (hs : s < xs.length) (h0 : 0 ≤ n) (h8 : n < 8) : ckI (ep + 1) (doneN xs s n) = 0 := by
  have b := ck_bounds h
  rw [doneN_set xs s n hs]
  exact (ck_yes (by rw [List.length_set]; omega) (set_any (ck_any h) s n (odd_no (by omega) (by omega)))).symm

/-- Nodes of which the first p are the others' already. -/
def mix (xs ys : List Int) (p : Nat) : List Int := ys.take p ++ xs.drop p

theorem mix_length (xs ys : List Int) (p : Nat) (hl : xs.length = ys.length) (hp : p ≤ xs.length) : (mix xs ys p).length = xs.length := by
  unfold mix; simp; omega

theorem mix_zero (xs ys : List Int) : mix xs ys 0 = xs := by simp [mix]
theorem mix_end (xs ys : List Int) (hl : xs.length = ys.length) : mix xs ys xs.length = ys := by simp [mix, hl]

theorem mix_succ (xs ys : List Int) (p : Nat) (hl : xs.length = ys.length) (hp : p < xs.length) : mix xs ys (p + 1) = (mix xs ys p).set p (ys.getD p 0) := by
  apply List.ext_getElem?
  intro i
  unfold mix
  rw [List.getElem?_set]
  have e1 : (ys.take p).length = p := by rw [List.length_take]; omega
  have e2 : (ys.take (p + 1)).length = p + 1 := by rw [List.length_take]; omega
  have hy : p < ys.length := by omega
  by_cases h : p = i
  · subst h
    rw [if_pos rfl, if_pos (by simp; omega), List.getElem?_append_left (by omega), List.getElem?_take_of_lt (by omega), List.getD_eq_getElem?_getD, List.getElem?_eq_getElem hy]
    rfl
  · rw [if_neg h]
    rcases Nat.lt_or_ge i p with h1 | h1
    · rw [List.getElem?_append_left (by omega), List.getElem?_append_left (by omega), List.getElem?_take_of_lt (by omega), List.getElem?_take_of_lt (by omega)]
    · rw [List.getElem?_append_right (by omega), List.getElem?_append_right (by omega), e1, e2, List.getElem?_drop, List.getElem?_drop]
      congr 1; omega

theorem mix_at (xs ys : List Int) (p : Nat) (hl : xs.length = ys.length) (hp : p < xs.length) : rd (mix xs ys p) (p : Int) = xs.getD p 0 := by
  unfold rd mix
  have e1 : (ys.take p).length = p := by rw [List.length_take]; omega
  rw [Int.toNat_natCast, List.getD_eq_getElem?_getD, List.getElem?_append_right (by omega), e1, List.getElem?_drop, List.getD_eq_getElem?_getD]
  simp

theorem mix_same (xs ys : List Int) (p : Nat) (hl : xs.length = ys.length) (hp : p < xs.length) (h : xs.getD p 0 = ys.getD p 0) : mix xs ys (p + 1) = mix xs ys p := by
  rw [mix_succ xs ys p hl hp, ← h]
  have h1 := mix_at xs ys p hl hp
  unfold rd at h1
  rw [Int.toNat_natCast] at h1
  have hlen := mix_length xs ys p hl (by omega)
  rw [← h1, List.getD_eq_getElem?_getD, List.getElem?_eq_getElem (by omega)]
  exact List.set_getElem_self _

theorem next_move (xs ys : List Int) (hl : xs.length = ys.length) : ∀ (d p : Nat), p + d = xs.length →
    (Pl.mvF xs ys d p = [] ∧ mix xs ys p = ys) ∨
    ∃ q d', p ≤ q ∧ q + d' + 1 = xs.length ∧ Pl.mvF xs ys d p = ⟨(q : Int), xs.getD q 0, ys.getD q 0⟩ :: Pl.mvF xs ys d' (q + 1) ∧ mix xs ys p = mix xs ys q ∧ xs.getD q 0 ≠ ys.getD q 0
  | 0, p, h => .inl ⟨rfl, by rw [show p = xs.length by omega]; exact mix_end xs ys hl⟩
  | d + 1, p, h => by
    by_cases e : xs.getD p 0 = ys.getD p 0
    · rcases next_move xs ys hl d (p + 1) (by omega) with ⟨h1, h2⟩ | ⟨q, d', h1, h2, h3, h4, h5⟩
      · exact .inl ⟨by rw [Pl.mvF, if_pos e]; exact h1, by rw [← mix_same xs ys p hl (by omega) e]; exact h2⟩
      · exact .inr ⟨q, d', by omega, h2, by rw [Pl.mvF, if_pos e]; exact h3, by rw [← mix_same xs ys p hl (by omega) e]; exact h4, h5⟩
    · exact .inr ⟨p, d, Nat.le_refl _, by omega, by rw [Pl.mvF, if_neg e], rfl, e⟩

/-- What the list of moves says of its next one. -/
theorem drop_next {L : List S52} {i : Nat} {m : S52} {R : List S52} (h : L.drop i = m :: R) : i < L.length ∧ PChartPlans.rd_T52 L (i : Int) = m ∧ L.drop (i + 1) = R := by
  have hi : i < L.length := by
    rcases Nat.lt_or_ge i L.length with h1 | h1
    · exact h1
    · rw [List.drop_of_length_le h1] at h; cases h
  rw [List.drop_eq_getElem_cons hi] at h
  injection h with h1 h2
  refine ⟨hi, ?_, h2⟩
  unfold PChartPlans.rd_T52
  rw [Int.toNat_natCast, List.getD_eq_getElem?_getD, List.getElem?_eq_getElem hi]
  exact h1

theorem mv_self (ys : List Int) : ∀ d p, Pl.mvF ys ys d p = []
  | 0, _ => rfl
  | d + 1, p => by rw [Pl.mvF, if_pos rfl]; exact mv_self ys d (p + 1)

/-- What is readable stays so where one block alone is written that it does not lie in. -/
theorem C_keep {α : Type} {d : Kd α} {w wr : World} {g n : Nat} {A : Option Addr} {xs : List α} (hK : ∀ x cs, d.K w x cs → d.K wr x cs) (h : d.C w A n xs) (hk : KeepBut w wr g none) (hA : ∀ a, A = some a → a.block ≠ g) : d.C wr A n xs :=
  ⟨h.1, h.2.1, fun hn => by
    obtain ⟨ad, e, hc⟩ := h.2.2 hn
    refine ⟨ad, e, fun j p hj => ?_⟩
    obtain ⟨c, hs, hr, hcell⟩ := hc j p hj
    refine ⟨c, hs, hK _ _ hr, fun i u hu => keep_cell hk (hcell i u hu) ?_⟩
    rw [show (ad.add (j * d.sz + i)).block = ad.block by unfold Addr.add; split <;> rfl]
    exact hA ad e⟩
theorem C_lt {w : World} {A : Option Addr} {n : Nat} {xs : List Int} (h : Kd.C (Kd.int .i64) w A n xs) (hn : 0 < n) : ∀ a, A = some a → a.block < w.heap.size := by
  intro a ha
  obtain ⟨ad, e, hc⟩ := at_nat h 0 hn
  rw [ha] at e
  cases e
  have := World.block_lt_of_cell? w _ hc
  rw [show (a.add 0).block = a.block by unfold Addr.add; split <;> rfl] at this
  exact this
theorem add_block (ad : Addr) (k : Nat) : (ad.add k).block = ad.block := by unfold Addr.add; split <;> rfl

/-- What Done gave, boxed behind the call or ahead of it. -/
structure Boxed (wr wc : World) (ep : Int) (xs : List Int) (g2 : Nat) : Prop where
  ex : ∃ A c, wc.heap[g2]? = some (.cells #[.int .i64 ep, .slice A xs.length c] 24 (0, 0)) ∧ xs.length ≤ c ∧ Kd.C (Kd.int .i64) wc A xs.length xs ∧ ∀ a, A = some a → wr.heap.size ≤ a.block
  le : wr.heap.size ≤ g2
  below : Below wr.heap.size wr wc

theorem boxed_after {wr w9 : World} {ep : Int} {xs : List Int} {A : Option Addr} {c : Nat} (hb : Below wr.drew.heap.size wr.drew w9) (hc : xs.length ≤ c) (hC : Kd.C (Kd.int .i64) w9 A xs.length xs) (hA : ∀ a, A = some a → wr.drew.heap.size ≤ a.block) :
    Boxed wr (w9.alloc (.cells #[.int .i64 ep, .slice A xs.length c] 24)) ep xs w9.heap.size :=
  ⟨⟨A, c, blk_new _ _, hc, Kd.C_alloc hC _, hA⟩, hb.size, below_alloc (show Below wr.heap.size wr w9 from ⟨hb.os, hb.tape, hb.output, hb.size, hb.block⟩) _⟩

theorem boxed_ahead {wr w9 : World} {z : Obj} {ep : Int} {xs : List Int} {A : Option Addr} {c : Nat} (hz : ∃ u v, z = .cells #[u, v] 24 (0, 0)) (hb : Below (wr.alloc z).drew.heap.size (wr.alloc z).drew w9) (hc : xs.length ≤ c) (hC : Kd.C (Kd.int .i64) w9 A xs.length xs) (hA : ∀ a, A = some a → (wr.alloc z).drew.heap.size ≤ a.block) :
    Boxed wr ((w9.setCell ⟨wr.heap.size, 0, none⟩ (.int .i64 ep)).setCell ⟨wr.heap.size, 1, none⟩ (.slice A xs.length c)) ep xs wr.heap.size := by
  obtain ⟨u, v, rfl⟩ := hz
  have h0 : w9.heap[wr.heap.size]? = some (.cells #[u, v] 24 (0, 0)) := (hb.block wr.heap.size (by simp)).trans (blk_new wr _)
  have hb' : Below wr.heap.size wr w9 := by
    have h1 : Below wr.heap.size wr (wr.alloc (.cells #[u, v] 24 (0, 0))).drew := below_drew1 (below_alloc (Below.refl _ _) _)
    exact below_step h1 hb
  have hk : KeepBut w9 ((w9.setCell ⟨wr.heap.size, 0, none⟩ (.int .i64 ep)).setCell ⟨wr.heap.size, 1, none⟩ (.slice A xs.length c)) wr.heap.size none := KeepBut.set_ (KeepBut.set_ (KeepBut.refl _ _ _) _ _) _ _
  have hA' : ∀ a, A = some a → wr.heap.size + 1 ≤ a.block := fun a ha => by have := hA a ha; simp at this; omega
  have hC' : Kd.C (Kd.int .i64) ((w9.setCell ⟨wr.heap.size, 0, none⟩ (.int .i64 ep)).setCell ⟨wr.heap.size, 1, none⟩ (.slice A xs.length c)) A xs.length xs :=
    C_keep (w := w9) (g := wr.heap.size) (fun _ _ h => h) hC hk (fun a ha => by have := hA' a ha; omega)
  exact ⟨⟨A, c, by simpa using blk_set (blk_set h0 0 (.int .i64 ep)) 1 (.slice A xs.length c), hc, hC', fun a ha => by have := hA' a ha; omega⟩, Nat.le_refl _, below_set (below_set hb' (Nat.le_refl _)) (Nat.le_refl _)⟩

end Go.Proofs.YthnonapfkobdcaaDoor.Ch

namespace Go.Proofs.YthnonapfkobdcaaDoor.Ch
open Base Go.RowKit Rg Go.Proofs.YthnonapfkobdcaaDoorW.PrintWords Go.Proofs.YthnonapfkobdcaaDoorW.PrintLast Go.Proofs.YthnonapfkobdcaaDoorW.PrintMore
set_option linter.unusedVariables false
set_option linter.unusedSimpArgs false
open PChartPlans (S52 k52)

open Classical in
/-- What the nodes of shards are told with. -/
noncomputable def hEr (ns : List Int) (pl m : Int) : Int := if (1 ≤ pl ∧ pl ≤ 64) ∧ Ri.Nodes ns ∧ (1 ≤ m ∧ m ≤ 16) then (if ns = [] then 3 else 0) else 1
theorem hEr_bad {ns : List Int} {pl m : Int} (h : ¬ ((1 ≤ pl ∧ pl ≤ 64) ∧ Ri.Nodes ns ∧ (1 ≤ m ∧ m ≤ 16))) : hEr ns pl m = 1 := by unfold hEr; rw [if_neg h]
theorem hEr_none {pl m : Int} (h : (1 ≤ pl ∧ pl ≤ 64) ∧ Ri.Nodes [] ∧ (1 ≤ m ∧ m ≤ 16)) : hEr [] pl m = 3 := by unfold hEr; rw [if_pos h, if_pos rfl]
theorem hEr_ok {ns : List Int} {pl m : Int} (h : (1 ≤ pl ∧ pl ≤ 64) ∧ Ri.Nodes ns ∧ (1 ≤ m ∧ m ≤ 16)) (hn : ns ≠ []) : hEr ns pl m = 0 := by unfold hEr; rw [if_pos h, if_neg hn]
theorem hEr_zero {ns : List Int} {pl m : Int} (h : hEr ns pl m = 0) : ((1 ≤ pl ∧ pl ≤ 64) ∧ Ri.Nodes ns ∧ (1 ≤ m ∧ m ≤ 16)) ∧ ns ≠ [] := by
  unfold hEr at h
  split at h
  · rename_i h1
    split at h
    · cases h
    · rename_i h2; exact ⟨h1, h2⟩
  · cases h
structure HomesAre (ns : List Int) (pl m : Int) (out : List Int) : Prop where
  no : hEr ns pl m ≠ 0 → out = []
  yes : hEr ns pl m = 0 → Ri.IsShards (ring Ri.spN ns pl.toNat) m.toNat out
theorem IsShards_eq {l : List (Int × Int)} {m : Nat} {a b : List Int} (h : Ri.IsShards l m a) (k : Ri.IsShards l m b) : a = b := by
  refine List.ext_getElem (h.len.trans k.len.symm) (fun i h1 h2 => ?_)
  exact (h.home i h1).eq (k.home i h2)
theorem HomesAre.eq {ns : List Int} {pl m : Int} {a b : List Int} (h : HomesAre ns pl m a) (k : HomesAre ns pl m b) : a = b := by
  by_cases e : hEr ns pl m = 0
  · exact IsShards_eq (h.yes e) (k.yes e)
  · rw [h.no e, k.no e]
structure HomesDone (ns : List Int) (pl m : Int) (W : World) (e : Ending) (w' : World) : Prop where
  ex : ∃ A cap out, e = .returned (.tuple #[.slice A out.length cap, .int .i64 (hEr ns pl m)]) ∧ HomesAre ns pl m out ∧ out.length ≤ cap ∧ Kd.C (Kd.int .i64) w' A out.length out ∧ ∀ a, A = some a → W.heap.size ≤ a.block
  below : Below W.heap.size W w'
theorem HomesDone.nil {ns : List Int} {pl m : Int} {W w' : World} (er : Int) (h : hEr ns pl m = er) (h0 : er ≠ 0) (hb : Below W.heap.size W w') : HomesDone ns pl m W (.returned (.tuple #[.slice none 0 0, .int .i64 er])) w' :=
  ⟨⟨none, 0, [], by rw [h]; rfl, ⟨fun _ => rfl, fun e => absurd (h.symm.trans e) h0⟩, Nat.le_refl _, ⟨rfl, by simp, fun h => by simp at h⟩, fun a h => by cases h⟩, hb⟩

set_option maxRecDepth 100000 in
set_option maxHeartbeats 1000000 in
theorem homes_calls (A : Option Addr) (c : Nat) (ns : List Int) (pl m : Int) (W : World) (hr : Kd.C (Kd.int .i64) W A ns.length ns) :
    Calls Tryd.prog 50 #[.slice A ns.length c, .int .i64 pl, .int .i64 m] W (HomesDone ns pl m W) := by
  have HR := Aside0.mk hr
  clear hr
  by_cases hp : 1 ≤ pl ∧ pl ≤ 64
  rotate_left
  · have HE := Aside0.mk (hEr_bad (ns := ns) (pl := pl) (m := m) (fun h => hp h.1))
    go_enter Tryd.func50, Tryd.ntmps50
    go_wp2_with (go_at_call 16; refine (Ri.new_bad A c ns.length pl W (by omega)).mono ?_; rintro e w' ⟨rfl, rfl⟩)
    go_ret2
    exact HomesDone.nil 1 HE.out (by decide) (Below.refl _ _)
  obtain ⟨p, rfl⟩ : ∃ p : Nat, pl = (p : Int) := ⟨pl.toNat, by omega⟩
  obtain ⟨hp1, hp2⟩ := hp
  have hq1 : 1 ≤ p := by omega
  have hq2 : p ≤ 64 := by omega
  go_enter Tryd.func50, Tryd.ntmps50
  go_wp2_with fail
  refine (Ri.new_calls A c ns p W HR.out hq1 hq2).mono ?_
  rintro e w1 ⟨hex, hb1⟩
  have HB1 := Aside0.mk hb1
  clear hb1
  rcases hex with ⟨hn, b, rfl, hR, _⟩ | ⟨hn, rfl⟩
  rotate_left
  · have HE := Aside0.mk (hEr_bad (ns := ns) (pl := (p : Int)) (m := m) (fun h => hn h.2.1))
    clear hn
    go_wp2_with fail
    go_ret2
    exact HomesDone.nil 1 HE.out (by decide) HB1.out
  have HN := Aside0.mk hn
  have HRI := Aside0.mk hR
  clear hn hR
  go_wp2_with fail
  by_cases hm : 1 ≤ m ∧ m ≤ 16
  rotate_left
  · have HE := Aside0.mk (hEr_bad (ns := ns) (pl := (p : Int)) (m := m) (fun h => hm h.2.2))
    refine (Ri.shards_bad HRI.out m (by omega)).mono ?_
    rintro e w2 ⟨rfl, rfl⟩
    clear hm
    go_wp2_with fail
    go_ret2
    exact HomesDone.nil 1 HE.out (by decide) HB1.out
  obtain ⟨q, rfl⟩ : ∃ q : Nat, m = (q : Int) := ⟨m.toNat, by omega⟩
  by_cases hns : ns = []
  · subst hns
    have HE := Aside0.mk (hEr_none (pl := (p : Int)) (m := (q : Int)) ⟨⟨hp1, hp2⟩, HN.out, hm⟩)
    have HR0 : Aside0 (Ri.RingIs w1 b []) := ⟨by have := HRI.out; rw [Ri.ring_nil] at this; exact this⟩
    refine (Ri.shards_none HR0.out q (by omega) (by omega)).mono ?_
    rintro e w2 ⟨rfl, hb2⟩
    have HB2 := Aside0.mk (below_step HB1.out hb2)
    clear hb2 hm
    go_wp2_with fail
    go_ret2
    exact HomesDone.nil 3 HE.out (by decide) HB2.out
  · have HE := Aside0.mk (hEr_ok (pl := (p : Int)) (m := (q : Int)) ⟨⟨hp1, hp2⟩, HN.out, hm⟩ hns)
    refine (Ri.shards_some HRI.out (by rw [ring_len]; exact Nat.mul_pos (List.length_pos_iff.2 hns) (by omega)) q (by omega) (by omega)).mono ?_
    rintro e w2 ⟨⟨A2, c2, out, rfl, ho, how⟩, hb2⟩
    have HB2 := Aside0.mk (below_step HB1.out hb2)
    have HO := Aside0.mk ho
    have HW := Aside0.mk how
    clear hb2 hm ho how hns
    go_wp2_with fail
    go_ret2
    refine ⟨⟨A2, c2, out, by rw [HE.out]; rfl, ⟨fun h => absurd HE.out h, fun _ => HO.out⟩, own_le HW.out, Kd.C_of_reads (own_reads' HW.out), fun a ha => ?_⟩, HB2.out⟩
    subst ha
    exact Nat.le_trans HB1.out.size (own_base HW.out a.block rfl)

structure FirstDone (ns : List Int) (pl m : Int) (W : World) (e : Ending) (w' : World) : Prop where
  ex : ∃ A cap out, e = .returned (.tuple #[.agg #[.int .i64 (if hEr ns pl m = 0 then 1 else 0), .slice A out.length cap], .int .i64 (hEr ns pl m)]) ∧ HomesAre ns pl m out ∧ out.length ≤ cap ∧ Kd.C (Kd.int .i64) w' A out.length out ∧ ∀ a, A = some a → W.heap.size ≤ a.block
  below : Below W.heap.size W w'

set_option maxHeartbeats 1000000 in
theorem first_calls (A : Option Addr) (c : Nat) (ns : List Int) (pl m : Int) (W : World) (hr : Kd.C (Kd.int .i64) W A ns.length ns) :
    Calls Tryd.prog 23 #[.slice A ns.length c, .int .i64 pl, .int .i64 m] W (FirstDone ns pl m W) := by
  have HR := Aside0.mk (Kd.C_alloc hr (.cells #[.int .i64 0, .slice none 0 0] 24))
  clear hr
  have HB0 := Aside0.mk (below_alloc (Below.refl W.heap.size W) (.cells #[.int .i64 0, .slice none 0 0] 24))
  have HG := Aside0.mk (blk_new W (.cells #[.int .i64 0, .slice none 0 0] 24))
  go_enter Tryd.func23, Tryd.ntmps23
  go_wp2_with fail
  refine (homes_calls A c ns pl m _ HR.out).mono ?_
  rintro e w1 ⟨⟨A1, c1, out, rfl, hh, hc1, hC1, hA1⟩, hb1⟩
  have HG1 := Aside0.mk ((hb1.block W.heap.size (by simp)).trans HG.out)
  have HB1 := Aside0.mk (below_step HB0.out hb1)
  have HH := Aside0.mk hh
  have HC1 := Aside0.mk hC1
  have HA1 := Aside0.mk hA1
  have hA1' : ∀ a, A1 = some a → W.heap.size + 1 ≤ a.block := fun a ha => by have := hA1 a ha; simp at this; omega
  have HA1' := Aside0.mk hA1'
  clear hh hC1 hA1 hA1' hb1
  have x0 : w1.cell? ⟨W.heap.size, 0, none⟩ = some (.int .i64 0) := (blk_cell HG1.out 0).trans rfl
  have x1 : w1.cell? ⟨W.heap.size, 1, none⟩ = some (.slice none 0 0) := (blk_cell HG1.out 1).trans rfl
  have z0 := blk_frozen HG1.out 0
  have z1 := blk_frozen HG1.out 1
  have hbk : ∀ u v, Below W.heap.size W ((w1.setCell ⟨W.heap.size, 0, none⟩ u).setCell ⟨W.heap.size, 1, none⟩ v) := fun u v => below_set (below_set HB1.out (Nat.le_refl _)) (Nat.le_refl _)
  have HBK := Aside0.mk hbk
  clear hbk
  by_cases he : hEr ns pl m = 0
  · have HE := Aside0.mk he
    rw [he]
    clear he
    go_wp2_with fail
    refine bodyPost_ret (v := .tuple #[.agg #[.int .i64 1, .slice A1 out.length c1], .int .i64 0]) (by simp [results, Tryd.results23, go_sem, x0, x1]) rfl ⟨⟨A1, c1, out, by rw [HE.out]; rfl, HH.out, hc1, ?_, fun a ha => by have := HA1'.out a ha; omega⟩, HBK.out _ _⟩
    exact C_keep (w := w1) (g := W.heap.size) (fun _ _ h => h) HC1.out (KeepBut.set_ (KeepBut.set_ (KeepBut.refl _ _ _) _ _) _ _) (fun a ha => by have := HA1'.out a ha; omega)
  · have ho := HH.out.no he
    have he2 : (hEr ns pl m == 0) = false := by simpa using he
    have he3 : (hEr ns pl m != 0) = true := by simpa using he
    subst ho
    have HE := Aside0.mk he
    have HI : Aside0 ((if hEr ns pl m = 0 then (1 : Int) else 0) = 0) := ⟨if_neg he⟩
    have HF : Aside0 (∀ w', Below W.heap.size W w' → FirstDone ns pl m W (.returned (.tuple #[.agg #[.int .i64 0, .slice none 0 0], .int .i64 (hEr ns pl m)])) w') := ⟨fun w' hb => ⟨⟨none, 0, [], by rw [HI.out]; rfl, HH.out, Nat.le_refl _, ⟨rfl, by simp, fun h => by simp at h⟩, fun a h => by cases h⟩, hb⟩⟩
    generalize hEr ns pl m = er at *
    go_wp2_with fail
    refine bodyPost_ret (v := .tuple #[.agg #[.int .i64 0, .slice none 0 0], .int .i64 er]) (by simp [results, Tryd.results23, go_sem, x0, x1]) rfl (HF.out _ (HBK.out _ _))

noncomputable def pEr (ep : Int) (xs ns : List Int) (pl : Int) : Int := if ckI ep xs = 0 then hEr ns pl xs.length else 1
structure PlanIs (ep : Int) (xs ns : List Int) (pl : Int) (L : List S52) : Prop where
  no : pEr ep xs ns pl ≠ 0 → L = []
  yes : pEr ep xs ns pl = 0 → ∃ out, HomesAre ns pl xs.length out ∧ out.length = xs.length ∧ L = Pl.mvF xs out xs.length 0
structure PlanDone (ep : Int) (xs ns : List Int) (pl : Int) (W : World) (e : Ending) (w' : World) : Prop where
  ex : ∃ A cap L, e = .returned (.tuple #[.slice A L.length cap, .int .i64 (pEr ep xs ns pl)]) ∧ PlanIs ep xs ns pl L ∧ L.length ≤ cap ∧ Kd.C k52 w' A L.length L ∧ ∀ a, A = some a → W.heap.size ≤ a.block
  below : Below W.heap.size W w'
theorem PlanDone.nil {ep : Int} {xs ns : List Int} {pl : Int} {W w' : World} (er : Int) (h : pEr ep xs ns pl = er) (h0 : er ≠ 0) (hb : Below W.heap.size W w') : PlanDone ep xs ns pl W (.returned (.tuple #[.slice none 0 0, .int .i64 er])) w' :=
  ⟨⟨none, 0, [], by rw [h]; rfl, ⟨fun _ => rfl, fun e => absurd (h.symm.trans e) h0⟩, Nat.le_refl _, ⟨rfl, by simp, fun h => by simp at h⟩, fun a h => by cases h⟩, hb⟩

set_option maxRecDepth 100000 in
set_option maxHeartbeats 1000000 in
theorem plan_calls (ep : Int) (A : Option Addr) (c : Nat) (xs : List Int) (B : Option Addr) (d : Nat) (ns : List Int) (pl : Int) (W : World) (hx : Kd.C (Kd.int .i64) W A xs.length xs) (hc : xs.length ≤ c) (hr : Kd.C (Kd.int .i64) W B ns.length ns) :
    Calls Tryd.prog 25 #[.agg #[.int .i64 ep, .slice A xs.length c], .slice B ns.length d, .int .i64 pl] W (PlanDone ep xs ns pl W) := by
  have hxl : xs.length ≤ 9223372036854775807 := hx.2.1
  have hb0 := below_alloc (Below.refl W.heap.size W) (.cells #[.int .i64 ep, .slice A xs.length c] 24)
  have HX0 := Aside0.mk (Kd.C_below hx hb0)
  have HR0 := Aside0.mk (Kd.C_below hr hb0)
  have HC0 := Aside0.mk hc
  have HG := Aside0.mk (blk_new W (.cells #[.int .i64 ep, .slice A xs.length c] 24))
  have HB0 := Aside0.mk hb0
  clear hx hr hb0 hc
  go_enter Tryd.func25, Tryd.ntmps25
  go_wp2_with fail
  refine (check_calls ep A c xs _ HX0.out hxl).mono ?_
  rintro e w1 ⟨rfl, hb1⟩
  have HX1 := Aside0.mk (Kd.C_below HX0.out hb1)
  have HR1 := Aside0.mk (Kd.C_below HR0.out hb1)
  have HG1 := Aside0.mk ((hb1.block W.heap.size (by simp)).trans HG.out)
  have HB1 := Aside0.mk (below_step HB0.out hb1)
  clear hb1 HX0 HR0 HG
  by_cases hk : ckI ep xs = 0
  rotate_left
  · have hk1 : ckI ep xs = 1 := (ck01 ep xs).resolve_right hk
    have HE : Aside0 (pEr ep xs ns pl = 1) := ⟨by unfold pEr; rw [if_neg hk]⟩
    rw [hk1]
    clear hk hk1
    go_wp2_with fail
    go_ret2
    exact PlanDone.nil 1 HE.out (by decide) HB1.out
  have hbd := ck_bounds hk
  have hx16 := hbd.2.2.2
  have HE : Aside0 (pEr ep xs ns pl = hEr ns pl xs.length) := ⟨by unfold pEr; rw [if_pos hk]⟩
  rw [hk]
  have x1 : w1.cell? ⟨W.heap.size, 1, none⟩ = some (.slice A xs.length c) := (blk_cell HG1.out 1).trans rfl
  clear hk hbd
  go_wp2_with fail
  refine (homes_calls B d ns pl xs.length w1 HR1.out).mono ?_
  rintro e w2 ⟨⟨A2, c2, out, rfl, hh, hc2, hC2, hA2⟩, hb2⟩
  have HX2 := Aside0.mk (Kd.C_below HX1.out hb2)
  have HG2 := Aside0.mk (blk_below HG1.out hb2)
  have HB2 := Aside0.mk (below_step HB1.out hb2)
  have HH := Aside0.mk hh
  have HC2 := Aside0.mk hC2
  have HK2 := Aside0.mk hc2
  have x2 : w2.cell? ⟨W.heap.size, 1, none⟩ = some (.slice A xs.length c) := (blk_cell HG2.out 1).trans rfl
  clear hb2 hh hC2 hc2 hA2 x1
  by_cases he : hEr ns pl xs.length = 0
  · have hz := hEr_zero he
    have hol : out.length = xs.length := by have := (HH.out.yes he).len; simpa using this
    have HPI : Aside0 (PlanIs ep xs ns pl (Pl.mvF xs out xs.length 0)) := ⟨⟨fun h => absurd (HE.out.trans he) h, fun _ => ⟨out, HH.out, hol, rfl⟩⟩⟩
    have HE2 : Aside0 (pEr ep xs ns pl = 0) := ⟨HE.out.trans he⟩
    have hm := Pl.moves_f xs out hol.symm (by omega)
    obtain ⟨L, hL⟩ : ∃ L, Pl.mvF xs out xs.length 0 = L := ⟨_, rfl⟩
    rw [hL] at hm HPI
    have HM : Aside0 (Calls Tryd.prog 52 #[.slice A xs.length c, .slice A2 out.length c2] w2 fun e w' => ∃ A3 c3, e = .returned (.slice A3 L.length c3) ∧ L.length ≤ c3 ∧ Kd.C k52 w' A3 L.length L ∧ (∀ a, A3 = some a → w2.heap.size ≤ a.block) ∧ Below w2.heap.size w2 w') := ⟨by
      refine (PChartPlans.chart_moves.calls (xs.length + 1) A c xs A2 c2 out L w2 HX2.out HC0.out HC2.out HK2.out hm).mono ?_
      rintro e w3 ⟨v, rfl, hR, hb3⟩
      have hbase := Kd.R_base hR
      obtain ⟨A3, c3, rfl, hc3, hC3⟩ := Kd.R_reads hR
      exact ⟨A3, c3, rfl, hc3, hC3, fun a ha => by subst ha; exact hbase a.block rfl, hb3⟩⟩
    rw [hol] at HM
    rw [he]
    clear he hz hm hL
    go_wp2_with fail
    refine HM.out.mono ?_
    rintro e w3 ⟨A3, c3, rfl, hc3, hC3, hA3, hb3⟩
    have HA3 := Aside0.mk hA3
    have HB3 := Aside0.mk (below_step HB2.out hb3)
    have HC3 := Aside0.mk hC3
    have HK3 := Aside0.mk hc3
    clear hb3 hC3 hc3 hA3
    go_wp2_with fail
    go_ret2
    exact ⟨⟨A3, c3, _, by rw [HE2.out]; rfl, HPI.out, HK3.out, HC3.out, fun a ha => Nat.le_trans HB2.out.size (HA3.out a ha)⟩, HB3.out⟩
  · have he2 : (hEr ns pl xs.length == 0) = false := by simpa using he
    have he3 : (hEr ns pl xs.length != 0) = true := by simpa using he
    have HF := Aside0.mk (fun w' hb => PlanDone.nil (W := W) (w' := w') _ HE.out he hb)
    generalize hEr ns pl xs.length = er at *
    clear he
    go_wp2_with fail
    go_ret2
    exact HF.out _ HB2.out
end Go.Proofs.YthnonapfkobdcaaDoor.Ch

namespace Go.Proofs.YthnonapfkobdcaaDoor.Ri
open Go.RowKit Cr Rg Go.Proofs.YthnonapfkobdcaaDoorW.PrintWords Go.Proofs.YthnonapfkobdcaaDoorW.PrintLast Go.Proofs.YthnonapfkobdcaaDoorW.PrintMore
set_option linter.unusedVariables false
set_option linter.unusedSimpArgs false

def far (s t : Int) : Int := if s < t then s - t + 16777216 else s - t
theorem spN_range (n : Int) (q : Nat) : 0 ≤ spN n q ∧ spN n q < 16777216 := spot_range _ _ _
theorem far_nonneg {s t : Int} (h0 : 0 ≤ s) (h1 : s < 16777216) (t0 : 0 ≤ t) (t1 : t < 16777216) : 0 ≤ far s t := by unfold far; split <;> omega
structure Best (L : List Int) (pl : Nat) (t : Int) (i k : Nat) (b a : Int) : Prop where
  none : b < 0 → i = 0 ∧ k = 0
  some : 0 ≤ b → ∃ j q, ∃ h : j < L.length, j ≤ i ∧ q < pl ∧ a = L[j] ∧ b = far (spN L[j] q) t
  low : ∀ j (hj : j < L.length) q, q < pl → (j < i ∨ j = i ∧ q < k) → b < far (spN L[j] q) t ∨ b = far (spN L[j] q) t ∧ a ≤ L[j]
theorem Best.start (L : List Int) (pl : Nat) (t : Int) : Best L pl t 0 0 (-1) 0 := ⟨fun _ => ⟨rfl, rfl⟩, fun h => by omega, fun j hj q hq h => by omega⟩
theorem Best.take {L : List Int} {pl : Nat} {t : Int} {i k : Nat} {b a : Int} (h : Best L pl t i k b a) (hi : i < L.length) (hk : k < pl) (h0 : 0 ≤ far (spN L[i] k) t) (hb : b < 0 ∨ far (spN L[i] k) t < b) : Best L pl t i (k + 1) (far (spN L[i] k) t) L[i] := by
  refine ⟨fun e => by omega, fun _ => ⟨i, k, hi, Nat.le_refl _, hk, rfl, rfl⟩, fun j hj q hq hc => ?_⟩
  by_cases e : j = i ∧ q = k
  · obtain ⟨rfl, rfl⟩ := e
    exact .inr ⟨rfl, Int.le_refl _⟩
  · have hc' : j < i ∨ j = i ∧ q < k := by omega
    rcases hb with hb | hb
    · have := h.none hb; omega
    · rcases h.low j hj q hq hc' with h1 | h1
      · exact .inl (by omega)
      · exact .inl (by omega)
theorem Best.keep {L : List Int} {pl : Nat} {t : Int} {i k : Nat} {b a : Int} (h : Best L pl t i k b a) (hs : L.Pairwise (· < ·)) (hi : i < L.length) (hb0 : 0 ≤ b) (hb : b ≤ far (spN L[i] k) t) : Best L pl t i (k + 1) b a := by
  refine ⟨fun e => by omega, h.some, fun j hj q hq hc => ?_⟩
  by_cases e : j = i ∧ q = k
  · obtain ⟨rfl, rfl⟩ := e
    rcases Int.lt_or_eq_of_le hb with h1 | h1
    · exact .inl h1
    · obtain ⟨j0, q0, hj0, hle, _, ha, _⟩ := h.some hb0
      refine .inr ⟨h1, ?_⟩
      rw [ha]
      rcases Nat.lt_or_eq_of_le hle with h2 | h2
      · exact Int.le_of_lt (List.pairwise_iff_getElem.1 hs j0 j hj0 hj h2)
      · subst h2; exact Int.le_refl _
  · exact h.low j hj q hq (by omega)
theorem Best.next {L : List Int} {pl : Nat} {t : Int} {i : Nat} {b a : Int} (h : Best L pl t i pl b a) (hp : 0 < pl) : Best L pl t (i + 1) 0 b a :=
  ⟨fun e => by have := h.none e; omega, fun e => by obtain ⟨j, q, hj, h1, h2⟩ := h.some e; exact ⟨j, q, hj, by omega, h2⟩, fun j hj q hq hc => h.low j hj q hq (by omega)⟩
theorem Best.home {L : List Int} {pl : Nat} {t : Int} {b a : Int} (h : Best L pl t L.length 0 b a) (hl : 0 < L.length) (t0 : 0 ≤ t) (t1 : t < 16777216) : IsHome (ring spN L pl) t a := by
  have hb : 0 ≤ b := by
    rcases Int.lt_or_le b 0 with h1 | h1
    · have := h.none h1; omega
    · exact h1
  obtain ⟨j, q, hj, _, hq, ha, he⟩ := h.some hb
  refine ⟨spN L[j] q, ring_mem.2 ⟨by rw [ha]; exact List.getElem_mem hj, q, hq, by rw [ha]⟩, fun p hp => ?_⟩
  obtain ⟨s, n⟩ := p
  obtain ⟨hn, k, hk, rfl⟩ := ring_mem.1 hp
  obtain ⟨i, hi, rfl⟩ := List.getElem_of_mem hn
  have hlow := h.low i hi k hk (.inl hi)
  have r1 := spN_range L[j] q
  have r2 := spN_range L[i] k
  rw [he] at hlow
  unfold far at hlow
  refine ⟨fun hx => ?_, fun hx => ?_⟩
  · simp only at hx ⊢
    split at hlow <;> split at hlow <;> omega
  · unfold le2
    simp only at hx ⊢
    split at hlow <;> split at hlow <;> omega

structure RHomeDone (L : List Int) (pl : Nat) (t : Int) (W : World) (e : Ending) (w' : World) : Prop where
  ex : (L = [] ∧ e = .returned (.tuple #[.int .i64 0, .int .i64 3])) ∨ (0 < L.length ∧ ∃ n, e = .returned (.tuple #[.int .i64 n, .int .i64 0]) ∧ IsHome (ring spN L pl) t n)
  below : Below W.heap.size W w'

set_option maxRecDepth 100000 in
set_option maxHeartbeats 2000000 in
theorem rhome_calls (A : Option Addr) (c : Nat) (L : List Int) (pl : Nat) (t : Int) (W : World) (hC : Kd.C (Kd.int .i64) W A L.length L) (hL : ∀ n ∈ L, 0 ≤ n ∧ n < 8) (hs : L.Pairwise (· < ·)) (hl : L.length ≤ 8) (h1 : 1 ≤ pl) (h2 : pl ≤ 64) (t0 : 0 ≤ t) (t1 : t < 16777216) :
    Calls Tryd.prog 95 #[.agg #[.slice A L.length c, .int .i64 pl], .int .i64 t] W (RHomeDone L pl t W) := by
  have hb0 := below_alloc (Below.refl W.heap.size W) (.cells #[.slice A L.length c, .int .i64 pl] 107)
  have hg := blk_new W (.cells #[.slice A L.length c, .int .i64 pl] 107)
  have HC := Aside0.mk (Kd.C_below hC hb0)
  have HL := Aside0.mk hL
  have HS := Aside0.mk hs
  have HB := Aside0.mk hb0
  have x0 : (W.alloc (.cells #[.slice A L.length c, .int .i64 pl] 107)).cell? ⟨W.heap.size, 0, none⟩ = some (.slice A L.length c) := (blk_cell hg 0).trans rfl
  have x1 : (W.alloc (.cells #[.slice A L.length c, .int .i64 pl] 107)).cell? ⟨W.heap.size, 1, none⟩ = some (.int .i64 pl) := (blk_cell hg 1).trans rfl
  clear hC hL hs hb0 hg
  by_cases hn : L = []
  · subst hn
    go_enter Tryd.func95, Tryd.ntmps95
    go_wp2_with fail
    go_ret2
    exact ⟨.inl ⟨rfl, rfl⟩, HB.out⟩
  have hlp : 0 < L.length := List.length_pos_iff.2 hn
  have hl0 : ((L.length : Int) == 0) = false := by rw [beq_eq_false_iff_ne]; omega
  have hl1 : ¬ L.length = 0 := by omega
  clear hn
  go_enter Tryd.func95, Tryd.ntmps95
  go_wp2_with fail
  generalize W.alloc (.cells #[.slice A L.length c, .int .i64 pl] 107) = W1 at *
  generalize hgg : W.heap.size = g at *
  have HGG := Aside0.mk hgg
  clear hgg
  go_loop [6, 7, 8] (fun b a i => ∃ (bi ai : Int) (i' : Nat), b = .int .i64 bi ∧ a = .int .i64 ai ∧ i = .int .i64 i' ∧ i' ≤ L.length ∧ bi < 16777216 ∧ -1 ≤ bi ∧ Aside0 (Best L pl t i' 0 bi ai)) (fun _ _ i => L.length - (intOf i).toNat)
  case atStart => exact ⟨-1, 0, 0, rfl, rfl, rfl, Nat.zero_le _, by omega, by omega, ⟨Best.start L pl t⟩⟩
  case round =>
    obtain ⟨b, a, i, rfl, rfl, rfl, hil, hb1, hb2, HI⟩ := hrel
    by_cases hlt : i < L.length
    · have hlt' : (i : Int) < (L.length : Int) := by omega
      have hi0 : (0 : Int) ≤ (i : Int) := by omega
      obtain ⟨ad, ea, hc⟩ := Kd.at_int HC.out (i : Int) (by omega) (by omega)
      rw [Int.toNat_natCast, rd, Int.toNat_natCast, List.getD_eq_getElem?_getD, List.getElem?_eq_getElem hlt] at hc
      change W1.cell? (ad.add i) = some (.int .i64 L[i]) at hc
      cases ea
      have hrange := HL.out _ (List.getElem_mem hlt)
      obtain ⟨n, hnn⟩ : ∃ n : Nat, L[i] = (n : Int) := ⟨L[i].toNat, by omega⟩
      have HNN := Aside0.mk hnn
      rw [hnn] at hc hrange
      have hn8 : n < 8 := by omega
      clear hnn hrange
      go_wp2_with fail
      go_loop [6, 7, 9] (fun b a k => ∃ (bi ai : Int) (k' : Nat), b = .int .i64 bi ∧ a = .int .i64 ai ∧ k = .int .i64 k' ∧ k' ≤ pl ∧ bi < 16777216 ∧ -1 ≤ bi ∧ Aside0 (Best L pl t i k' bi ai)) (fun _ _ k => pl - (intOf k).toNat)
      case atStart => exact ⟨b, a, 0, rfl, rfl, rfl, Nat.zero_le _, hb1, hb2, HI⟩
      case round =>
        obtain ⟨b', a', k, rfl, rfl, rfl, hkl, hb3, hb4, HK⟩ := hrel
        by_cases hkt : k < pl
        · have hkt' : (k : Int) < (pl : Int) := by omega
          go_wp2_with fail
          refine (rspot_small kNode n k W1 (by decide) (by omega) (by omega)).mono ?_
          rintro e w' ⟨rfl, rfl⟩
          have hu := spot_range kNode n k
          have HU : Aside0 (spN (L[i]'hlt) k = spot kNode n k) := ⟨by rw [HNN.out]; rfl⟩
          obtain ⟨u, huu⟩ : ∃ u, spot kNode n k = u := ⟨_, rfl⟩
          rw [huu] at HU hu ⊢
          clear huu
          obtain ⟨hu0, hu1⟩ := hu
          have HF := Aside0.mk (far_nonneg (t := t) hu0 hu1 t0 t1)
          have HT : Aside0 (∀ f, far u t = f → (b' < 0 ∨ f < b') → Best L pl t i (k + 1) f (n : Int)) := ⟨fun f hf hc => by
            have h9 := HK.out.take hlt hkt (by rw [HU.out]; exact HF.out) (by rw [HU.out, hf]; exact hc)
            rw [HU.out, hf, HNN.out] at h9
            exact h9⟩
          have HP : Aside0 (∀ f, far u t = f → 0 ≤ b' → b' ≤ f → Best L pl t i (k + 1) b' a') := ⟨fun f hf h3 h4 => HK.out.keep HS.out hlt h3 (by rw [HU.out, hf]; exact h4)⟩
          by_cases hut : u < t
          · have hfe : Aside0 (far u t = u - t + 16777216) := ⟨if_pos hut⟩
            have hd1 : u - t < 0 := by omega
            by_cases hb0 : b' < 0
            · have HN := Aside0.mk (HT.out _ hfe.out (.inl hb0))
              go_wp2_with fail
              go_round
              case rel => exact ⟨_, _, k + 1, rfl, rfl, by go_num, by omega, by omega, by omega, HN⟩
              case measure => simp [intOf]; omega
            by_cases hb9 : u - t + 16777216 < b'
            · have HN := Aside0.mk (HT.out _ hfe.out (.inr hb9))
              go_wp2_with fail
              go_round
              case rel => exact ⟨_, _, k + 1, rfl, rfl, by go_num, by omega, by omega, by omega, HN⟩
              case measure => simp [intOf]; omega
            · have HN := Aside0.mk (HP.out _ hfe.out (by omega) (by omega))
              go_wp2_with fail
              go_round
              case rel => exact ⟨b', a', k + 1, rfl, rfl, by go_num, by omega, hb3, hb4, HN⟩
              case measure => simp [intOf]; omega
          · have hfe : Aside0 (far u t = u - t) := ⟨if_neg hut⟩
            have hd1 : ¬ u - t < 0 := by omega
            by_cases hb0 : b' < 0
            · have HN := Aside0.mk (HT.out _ hfe.out (.inl hb0))
              go_wp2_with fail
              go_round
              case rel => exact ⟨_, _, k + 1, rfl, rfl, by go_num, by omega, by omega, by omega, HN⟩
              case measure => simp [intOf]; omega
            by_cases hb9 : u - t < b'
            · have HN := Aside0.mk (HT.out _ hfe.out (.inr hb9))
              go_wp2_with fail
              go_round
              case rel => exact ⟨_, _, k + 1, rfl, rfl, by go_num, by omega, by omega, by omega, HN⟩
              case measure => simp [intOf]; omega
            · have HN := Aside0.mk (HP.out _ hfe.out (by omega) (by omega))
              go_wp2_with fail
              go_round
              case rel => exact ⟨b', a', k + 1, rfl, rfl, by go_num, by omega, hb3, hb4, HN⟩
              case measure => simp [intOf]; omega
        · have ek : k = pl := by omega
          have hkt' : ¬ (k : Int) < (pl : Int) := by omega
          have HN := Aside0.mk (Best.next (by have := HK.out; rw [ek] at this; exact this) (by omega))
          go_wp2_with fail
          go_round
          case rel => exact ⟨b', a', i + 1, rfl, rfl, by go_num, by omega, hb3, hb4, HN⟩
          case measure => simp [intOf]; omega
    · have ei : i = L.length := by omega
      subst ei
      have hlt' : ¬ (L.length : Int) < (L.length : Int) := by omega
      go_wp2_with fail
      go_ret2
      exact ⟨.inr ⟨hlp, a, rfl, HI.out.home hlp t0 t1⟩, by rw [HGG.out]; exact HB.out⟩
end Go.Proofs.YthnonapfkobdcaaDoor.Ri

namespace Go.Proofs.YthnonapfkobdcaaDoor.Ch
open Base Pl Go.RowKit Rg Go.Proofs.YthnonapfkobdcaaDoorW.PrintWords Go.Proofs.YthnonapfkobdcaaDoorW.PrintLast Go.Proofs.YthnonapfkobdcaaDoorW.PrintMore
set_option linter.unusedVariables false
set_option linter.unusedSimpArgs false
open PChartPlans

theorem may_l0 (ep : Int) (xs : List Int) (hm : xs.length ≤ 9223372036854775807) (d : Nat) : ∀ (k n : Nat), n ≤ xs.length → xs.length - n = d → d < k →
    ploverref12_May.l0 k (n : Int) ep xs = some (decide (1 ≤ ep ∧ ep ≤ 1099511627776 ∧ 1 ≤ xs.length ∧ xs.length ≤ 16) && !((xs.drop n).any oddB)) := by
  induction d with
  | zero =>
    intro k n h1 h2 h3
    obtain ⟨k, rfl⟩ : ∃ m, k = m + 1 := ⟨k - 1, by omega⟩
    simp only [ploverref12_May.l0]
    rw [if_neg (by omega), List.drop_of_length_le (by omega)]
    by_cases a : ep ≥ 1
    · rw [if_pos a]
      by_cases b : ep ≤ 1099511627776
      · rw [if_pos b]
        by_cases c : (xs.length : Int) ≥ 1
        · rw [if_pos c]
          have c' : 1 ≤ xs.length := by omega
          congr 1
          rw [Bool.eq_iff_iff]
          simp
          omega
        · rw [if_neg c]; simp; omega
      · rw [if_neg b]; simp; omega
    · rw [if_neg a]; simp; omega
  | succ d ih =>
    intro k n h1 h2 h3
    obtain ⟨k, rfl⟩ : ∃ m, k = m + 1 := ⟨k - 1, by omega⟩
    have hn : n < xs.length := by omega
    have e0 : rd xs (n : Int) = xs[n] := by unfold rd; rw [Int.toNat_natCast, List.getD_eq_getElem?_getD, List.getElem?_eq_getElem hn]; rfl
    simp only [ploverref12_May.l0]
    rw [if_pos (by omega), if_pos (by omega), Pl.wrap_succ hn hm, ih k (n + 1) (by omega) (by omega) (by omega), List.drop_eq_getElem_cons hn, List.any_cons, e0]
    by_cases a : xs[n] < 0
    · rw [if_pos a, odd_lo a]; simp
    · rw [if_neg a]
      by_cases b : xs[n] > 7
      · rw [if_pos b, odd_hi (by omega)]; simp
      · rw [if_neg b, odd_no a (by omega), Bool.false_or]

theorem may_f (ep : Int) (xs : List Int) (hm : xs.length ≤ 9223372036854775807) : ploverref12_May.f (xs.length + 1) ep xs = some (mayB ep xs) := by
  unfold ploverref12_May.f mayB
  have := may_l0 ep xs hm xs.length (xs.length + 1) 0 (by omega) (by omega) (by omega)
  simpa using this

theorem may_ck (ep : Int) (xs : List Int) : mayB ep xs = (ckI ep xs == 0) := by
  unfold ckI; cases mayB ep xs <;> simp


/-- Of each number from n on, e of them, what is among the nodes. -/
def gath (ns : List Int) : Nat → Nat → List Int
  | 0, _ => []
  | e + 1, n => ns.filter (fun x => decide (x = (n : Int))) ++ gath ns e (n + 1)
theorem gath_perm (ns : List Int) : ∀ e n, (gath ns e n).Perm (ns.filter fun x => decide ((n : Int) ≤ x ∧ x < (n : Int) + e))
  | 0, n => by
    have : (ns.filter fun x => decide ((n : Int) ≤ x ∧ x < (n : Int) + (0 : Nat))) = [] := by
      rw [List.filter_eq_nil_iff]; intro x _; simp <;> (try omega)
    rw [this]; exact List.Perm.refl _
  | e + 1, n => by
    have h := List.filter_append_perm (fun x => decide (x = (n : Int))) (ns.filter fun x => decide ((n : Int) ≤ x ∧ x < (n : Int) + (e + 1 : Nat)))
    refine List.Perm.trans ?_ h
    have e1 : (ns.filter fun x => decide ((n : Int) ≤ x ∧ x < (n : Int) + (e + 1 : Nat))).filter (fun x => decide (x = (n : Int))) = ns.filter (fun x => decide (x = (n : Int))) := by
      rw [List.filter_filter]; congr 1; funext x; by_cases hx : x = (n : Int) <;> simp [hx] <;> (try omega)
    have e2 : (ns.filter fun x => decide ((n : Int) ≤ x ∧ x < (n : Int) + (e + 1 : Nat))).filter (fun x => !decide (x = (n : Int))) = ns.filter (fun x => decide (((n + 1 : Nat) : Int) ≤ x ∧ x < ((n + 1 : Nat) : Int) + e)) := by
      rw [List.filter_filter]; congr 1; funext x
      by_cases hx : x = (n : Int)
      · simp [hx] <;> (try omega)
      · by_cases h2 : (n : Int) ≤ x ∧ x < (n : Int) + (e + 1 : Nat)
        · have : ((n + 1 : Nat) : Int) ≤ x ∧ x < ((n + 1 : Nat) : Int) + e := by omega
          simp only [hx, h2, this, and_self, decide_true, decide_false, Bool.not_false, Bool.and_self]
        · have : ¬ (((n + 1 : Nat) : Int) ≤ x ∧ x < ((n + 1 : Nat) : Int) + e) := by omega
          simp only [h2, this, decide_false, Bool.and_false]
    rw [e1, e2]
    exact List.Perm.append_left _ (gath_perm ns e (n + 1))
theorem gath_mem {ns : List Int} {e n : Nat} {x : Int} : x ∈ gath ns e n ↔ x ∈ ns ∧ (n : Int) ≤ x ∧ x < (n : Int) + e := by
  rw [(gath_perm ns e n).mem_iff, List.mem_filter, decide_eq_true_eq]
theorem gath_sorted (ns : List Int) : ∀ e n, (gath ns e n).Pairwise (· ≤ ·)
  | 0, _ => List.Pairwise.nil
  | e + 1, n => by
    show (ns.filter (fun x => decide (x = (n : Int))) ++ gath ns e (n + 1)).Pairwise (· ≤ ·)
    rw [List.pairwise_append]
    refine ⟨List.pairwise_of_forall_mem_list (fun a ha b hb => ?_), gath_sorted ns e (n + 1), fun a ha b hb => ?_⟩
    · have h1 := (List.mem_filter.1 ha).2
      have h2 := (List.mem_filter.1 hb).2
      simp at h1 h2; omega
    · have h1 := (List.mem_filter.1 ha).2
      have h2 := (gath_mem.1 hb).2.1
      simp at h1; omega
theorem new_l1 (ns : List Int) (pl : Int) (n : Nat) (hn : n < 8) (hl : ns.length ≤ 8) : ∀ (d k i : Nat) (acc : List Int), i + d = ns.length → acc.length + d ≤ 1000 →
    ploverref11_New.l1 (k + d + 1) ns pl acc (n : Int) (i : Int) = ploverref11_New.l0 k ns pl (acc ++ (ns.drop i).filter (fun x => decide (x = (n : Int)))) ((n + 1 : Nat) : Int)
  | 0, k, i, acc, h, ha => by
    simp only [ploverref11_New.l1]
    rw [if_neg (by omega), List.drop_of_length_le (by omega), wrap_succ (show n < 8 by omega) (by omega)]
    simp
  | d + 1, k, i, acc, h, ha => by
    have hi : i < ns.length := by omega
    have e0 : rd ns (i : Int) = ns[i] := by unfold rd; rw [Int.toNat_natCast, List.getD_eq_getElem?_getD, List.getElem?_eq_getElem hi]; rfl
    rw [show k + (d + 1) + 1 = (k + d + 1) + 1 by omega]
    generalize hK : k + d + 1 = K
    simp only [ploverref11_New.l1]
    rw [if_pos (by omega), if_pos (by omega), e0, wrap_succ (show i < ns.length by omega) (by omega), List.drop_eq_getElem_cons hi, List.filter_cons]
    by_cases hx : ns[i] = (n : Int)
    · rw [if_pos hx, if_pos (by omega), if_pos (decide_eq_true hx)]
      have := new_l1 ns pl n hn hl d k (i + 1) (acc ++ [(n : Int)]) (by omega) (by simp; omega)
      rw [← hK, this, hx]
      simp
    · rw [if_neg hx, if_neg (by rw [decide_eq_false hx]; simp)]
      have := new_l1 ns pl n hn hl d k (i + 1) acc (by omega) (by omega)
      rw [← hK, this]
theorem gath_len_le (ns : List Int) (e n : Nat) : (gath ns e n).length ≤ ns.length := by
  rw [(gath_perm ns e n).length_eq]; exact List.length_filter_le _ _
theorem new_l0 (ns : List Int) (pl : Int) (hl : ns.length ≤ 8) : ∀ (e k n : Nat) (acc : List Int), n + e = 8 → acc.length + e * 8 ≤ 200 →
    ploverref11_New.l0 (k + e * (ns.length + 2) + 1) ns pl acc (n : Int) = if (((acc ++ gath ns e n).length : Nat) : Int) = (ns.length : Int) then ploverref11_New.l2 k pl (acc ++ gath ns e n) 1 else some ([], 0, 1)
  | 0, k, n, acc, h, ha => by
    simp only [ploverref11_New.l0]
    rw [if_neg (by omega)]
    simp [gath]
  | e + 1, k, n, acc, h, ha => by
    simp only [ploverref11_New.l0]
    rw [if_pos (by omega)]
    have h1 := new_l1 ns pl n (by omega) hl ns.length (k + e * (ns.length + 2) + 1) 0 acc (by omega) (by omega)
    rw [List.drop_zero] at h1
    have hf : (k + (e + 1) * (ns.length + 2)) = (k + e * (ns.length + 2) + 1) + ns.length + 1 := by rw [Nat.add_mul, Nat.one_mul]; omega
    have hfl : (ns.filter (fun x => decide (x = (n : Int)))).length ≤ 8 := Nat.le_trans (List.length_filter_le _ _) hl
    rw [hf]
    have h0 : ((0 : Nat) : Int) = 0 := rfl
    rw [h0] at h1
    rw [h1, new_l0 ns pl hl e k (n + 1) _ (by omega) (by simp; omega)]
    simp [gath]
theorem new_l2 (pl : Int) (L : List Int) (hs : L.Pairwise (· ≤ ·)) (hl : L.length ≤ 1000) : ∀ (d k i : Nat), 1 ≤ i → i + d = L.length ∨ L.length < i ∧ d = 0 → d < k →
    ploverref11_New.l2 k pl L (i : Int) = if (L.drop (i - 1)).Pairwise (· < ·) then some (L, pl, 0) else some ([], 0, 1)
  | 0, k, i, hi, h, hk => by
    obtain ⟨k, rfl⟩ : ∃ m, k = m + 1 := ⟨k - 1, by omega⟩
    simp only [ploverref11_New.l2]
    have hd : (L.drop (i - 1)).length ≤ 1 := by rw [List.length_drop]; omega
    have hp : (L.drop (i - 1)).Pairwise (· < ·) := by
      match L.drop (i - 1), hd with
      | [], _ => exact List.Pairwise.nil
      | [a], _ => exact List.pairwise_singleton _ _
    rw [if_neg (by omega), if_pos hp]
  | d + 1, k, i, hi, h, hk => by
    obtain ⟨k, rfl⟩ : ∃ m, k = m + 1 := ⟨k - 1, by omega⟩
    have h1 : i < L.length := by omega
    have h2 : i - 1 < L.length := by omega
    have e0 : rd L (i : Int) = L[i] := by unfold rd; rw [Int.toNat_natCast, List.getD_eq_getElem?_getD, List.getElem?_eq_getElem h1]; rfl
    have ew : wrap64 ((i : Int) - 1) = ((i - 1 : Nat) : Int) := by unfold wrap64; omega
    have e1 : rd L ((i - 1 : Nat) : Int) = L[i - 1] := by unfold rd; rw [Int.toNat_natCast, List.getD_eq_getElem?_getD, List.getElem?_eq_getElem h2]; rfl
    simp only [ploverref11_New.l2]
    rw [if_pos (by omega), if_pos (by omega), ew, if_pos (by omega), if_pos (by omega), e0, e1, wrap_succ (show i < L.length by omega) (by omega)]
    have hdr : L.drop (i - 1) = L[i - 1] :: L.drop i := by
      have := List.drop_eq_getElem_cons h2
      rw [show i - 1 + 1 = i by omega] at this
      exact this
    have hle : L[i - 1] ≤ L[i] := List.pairwise_iff_getElem.1 hs (i - 1) i h2 h1 (by omega)
    by_cases e : L[i] = L[i - 1]
    · rw [if_pos e, if_neg]
      rw [hdr, List.drop_eq_getElem_cons h1]
      intro hp
      have := (List.pairwise_cons.1 hp).1 L[i] (by first | exact List.mem_cons_self | (rw [List.drop_eq_getElem_cons h1]; exact List.mem_cons_self))
      omega
    · rw [if_neg e, new_l2 pl L hs hl d k (i + 1) (by omega) (by omega) (by omega), show i + 1 - 1 = i by omega]
      have hiff : (L.drop (i - 1)).Pairwise (· < ·) ↔ (L.drop i).Pairwise (· < ·) := by
        rw [hdr, List.pairwise_cons]
        refine ⟨fun h => h.2, fun h => ⟨fun a ha => ?_, h⟩⟩
        obtain ⟨j, hj, rfl⟩ := List.getElem_of_mem ha
        rw [List.getElem_drop]
        have hj' : i + j < L.length := by rw [List.length_drop] at hj; omega
        rcases Nat.eq_zero_or_pos j with h0 | h0
        · subst h0; have h7 : L[i - 1] < L[i] := by omega
          simpa using h7
        · have := List.pairwise_iff_getElem.1 hs i (i + j) h1 hj' (by omega); omega
      by_cases hp : (L.drop i).Pairwise (· < ·)
      · rw [if_pos hp, if_pos (hiff.2 hp)]
      · rw [if_neg hp, if_neg (fun h => hp (hiff.1 h))]

theorem new_bad_f (ns : List Int) (pl : Int) (h : ¬ ((1 ≤ pl ∧ pl ≤ 64) ∧ Ri.Nodes ns)) : ∃ k, ploverref11_New.f k ns pl = some ([], 0, 1) := by
  by_cases h1 : pl < 1
  · exact ⟨1, by unfold ploverref11_New.f; rw [if_pos h1]; simp [ploverref11_New.j0]⟩
  by_cases h2 : pl > 64
  · exact ⟨1, by unfold ploverref11_New.f; rw [if_neg h1, if_pos h2]; simp [ploverref11_New.j0]⟩
  by_cases h3 : (ns.length : Int) > 8
  · exact ⟨1, by unfold ploverref11_New.f; rw [if_neg h1, if_neg h2]; simp only [ploverref11_New.j0]; rw [if_pos (by simpa using h3)]⟩
  have hl : ns.length ≤ 8 := by omega
  refine ⟨(ns.length + 1) + 8 * (ns.length + 2) + 1 + 1, ?_⟩
  unfold ploverref11_New.f
  rw [if_neg h1, if_neg h2]
  simp only [ploverref11_New.j0]
  rw [if_neg (by simpa using h3)]
  have h0 := new_l0 ns pl hl 8 (ns.length + 1) 0 [] (by omega) (by simp)
  rw [show ((0 : Nat) : Int) = 0 from rfl] at h0
  rw [h0, List.nil_append]
  by_cases hlen : (((gath ns 8 0).length : Nat) : Int) = (ns.length : Int)
  · rw [if_pos hlen]
    have hp := gath_perm ns 8 0
    have hall : ∀ x ∈ ns, 0 ≤ x ∧ x < 8 := by
      have e : (ns.filter fun x => decide (((0 : Nat) : Int) ≤ x ∧ x < ((0 : Nat) : Int) + (8 : Nat))).length = ns.length := by rw [← hp.length_eq]; omega
      have := List.length_filter_eq_length_iff.1 e
      intro x hx
      have := this x hx
      simp at this; omega
    have hnd : ¬ ns.Nodup := fun hd => h ⟨⟨by omega, by omega⟩, ⟨hall, hd⟩⟩
    have h2' := new_l2 pl (gath ns 8 0) (gath_sorted ns 8 0) (by have := gath_len_le ns 8 0; omega) ((gath ns 8 0).length - 1) (ns.length + 1) 1 (Nat.le_refl _) (by omega) (by omega)
    rw [show ((1 : Nat) : Int) = 1 from rfl] at h2'
    rw [h2', if_neg]
    intro hpw
    simp only [Nat.sub_self, List.drop_zero] at hpw
    refine hnd ?_
    have hf : (ns.filter fun x => decide (((0 : Nat) : Int) ≤ x ∧ x < ((0 : Nat) : Int) + (8 : Nat))) = ns := by
      rw [List.filter_eq_self]; intro x hx; have := hall x hx; simp; omega
    rw [hf] at hp
    exact hp.nodup_iff.1 (hpw.imp (fun {a b} h => by omega))
  · rw [if_neg hlen]
theorem new_good_f (ns : List Int) (pl : Int) (hp : 1 ≤ pl ∧ pl ≤ 64) (hn : Ri.Nodes ns) : ∃ k, ploverref11_New.f k ns pl = some (gath ns 8 0, pl, 0) := by
  have hl := hn.len
  refine ⟨(ns.length + 1) + 8 * (ns.length + 2) + 1 + 1, ?_⟩
  unfold ploverref11_New.f
  rw [if_neg (by omega), if_neg (by omega)]
  simp only [ploverref11_New.j0]
  rw [if_neg (by simp; omega)]
  have h0 := new_l0 ns pl hl 8 (ns.length + 1) 0 [] (by omega) (by simp)
  rw [show ((0 : Nat) : Int) = 0 from rfl] at h0
  have hpm := gath_perm ns 8 0
  have hf : (ns.filter fun x => decide (((0 : Nat) : Int) ≤ x ∧ x < ((0 : Nat) : Int) + (8 : Nat))) = ns := by
    rw [List.filter_eq_self]; intro x hx; have := hn.range x hx; simp; omega
  rw [hf] at hpm
  rw [h0, List.nil_append, if_pos (by rw [hpm.length_eq])]
  have h2' := new_l2 pl (gath ns 8 0) (gath_sorted ns 8 0) (by have := gath_len_le ns 8 0; omega) ((gath ns 8 0).length - 1) (ns.length + 1) 1 (Nat.le_refl _) (by omega) (by have := gath_len_le ns 8 0; omega)
  rw [show ((1 : Nat) : Int) = 1 from rfl] at h2'
  rw [h2', if_pos]
  simp only [Nat.sub_self, List.drop_zero]
  have hnd := hpm.nodup_iff.2 hn.nodup
  exact (gath_sorted ns 8 0).imp₂ (fun a b h1 h2 => by omega) hnd
theorem gath_rise {ns : List Int} (hn : Ri.Nodes ns) : (gath ns 8 0).Pairwise (· < ·) := by
  have hpm := gath_perm ns 8 0
  have hf : (ns.filter fun x => decide (((0 : Nat) : Int) ≤ x ∧ x < ((0 : Nat) : Int) + (8 : Nat))) = ns := by
    rw [List.filter_eq_self]; intro x hx; have := hn.range x hx; simp; omega
  rw [hf] at hpm
  have hnd := hpm.nodup_iff.2 hn.nodup
  exact (gath_sorted ns 8 0).imp₂ (fun a b h1 h2 => by omega) hnd
theorem gath_same {ns : List Int} (hn : Ri.Nodes ns) (x : Int) : x ∈ gath ns 8 0 ↔ x ∈ ns := by
  rw [gath_mem]
  exact ⟨fun h => h.1, fun h => ⟨h, by have := hn.range x h; omega⟩⟩
end Go.Proofs.YthnonapfkobdcaaDoor.Ch

namespace Go.Proofs.YthnonapfkobdcaaDoor.Ch
open Base Go.RowKit Rg Go.Proofs.YthnonapfkobdcaaDoorW.PrintWords Go.Proofs.YthnonapfkobdcaaDoorW.PrintLast Go.Proofs.YthnonapfkobdcaaDoorW.PrintMore
set_option linter.unusedVariables false
set_option linter.unusedSimpArgs false
open PChartPlans (S52 k52)
noncomputable def rs7.T : Bool × List (List Nat × List Nat) := rtab .any (opsOf Tryd.f73 7)
def rs7.B : List Nat := [0, 0, 0, 6, 15, 31, 63, 63, 127, 511]
theorem rs7.tab : rtab .any (opsOf Tryd.f73 7) = rs7.T := rfl
theorem rs7.bits : waitsOk rs7.T.2 rs7.B = true := by kernel_rfl

/-- What the reference's New leaves and tells. -/
structure RNewDone (ns : List Int) (pl : Int) (W : World) (e : Ending) (w' : World) : Prop where
  ex : (((1 ≤ pl ∧ pl ≤ 64) ∧ Ri.Nodes ns) ∧ ∃ A c, e = .returned (.tuple #[.agg #[.slice A (gath ns 8 0).length c, .int .i64 pl], .int .i64 0]) ∧ Kd.C (Kd.int .i64) w' A (gath ns 8 0).length (gath ns 8 0)) ∨
    (¬ ((1 ≤ pl ∧ pl ≤ 64) ∧ Ri.Nodes ns) ∧ ∃ A c, e = .returned (.tuple #[.agg #[.slice A 0 c, .int .i64 0], .int .i64 1]))
  below : Below W.heap.size W w'
theorem rnew_calls (A : Option Addr) (c : Nat) (ns : List Int) (pl : Int) (W : World) (hr : Kd.C (Kd.int .i64) W A ns.length ns) (hc : ns.length ≤ c) : Calls Tryd.prog 72 #[.slice A ns.length c, .int .i64 pl] W (RNewDone ns pl W) := by
  by_cases h : (1 ≤ pl ∧ pl ≤ 64) ∧ Ri.Nodes ns
  · obtain ⟨k, hk⟩ := new_good_f ns pl h.1 h.2
    refine (PChartPlans.ploverref11_New.calls k A c ns pl _ _ _ W hr hc hk).mono ?_
    rintro e w1 ⟨v, rfl, hR, hb⟩
    obtain ⟨A1, c1, rfl, hc1, hC1⟩ := Kd.R_reads hR
    exact ⟨.inl ⟨h, A1, c1, rfl, hC1⟩, hb⟩
  · obtain ⟨k, hk⟩ := new_bad_f ns pl h
    refine (PChartPlans.ploverref11_New.calls k A c ns pl _ _ _ W hr hc hk).mono ?_
    rintro e w1 ⟨v, rfl, hR, hb⟩
    obtain ⟨A1, c1, rfl, hc1, hC1⟩ := Kd.R_reads hR
    exact ⟨.inr ⟨h, A1, c1, rfl⟩, hb⟩

theorem home_same {l l' : List (Int × Int)} {t n : Int} (h : IsHome l t n) (hm : ∀ q, q ∈ l ↔ q ∈ l') : IsHome l' t n := by
  obtain ⟨s, h1, h2⟩ := h.ex
  exact ⟨s, (hm _).1 h1, fun q hq => h2 q ((hm q).2 hq)⟩
theorem shards_same {l l' : List (Int × Int)} {m : Nat} {out : List Int} (h : Ri.IsShards l m out) (hm : ∀ q, q ∈ l ↔ q ∈ l') : Ri.IsShards l' m out := ⟨h.len, fun s hs => home_same (h.home s hs) hm⟩
theorem ring_same {ns : List Int} (hn : Ri.Nodes ns) (pl : Nat) (q : Int × Int) : q ∈ ring Ri.spN (gath ns 8 0) pl ↔ q ∈ ring Ri.spN ns pl := by
  obtain ⟨s, n⟩ := q
  rw [ring_mem, ring_mem, gath_same hn]

theorem rshards_bad (A : Option Addr) (n c : Nat) (pl m : Int) (W : World) (h : m < 1 ∨ 16 < m) : Calls Tryd.prog 73 #[.agg #[.slice A n c, .int .i64 pl], .int .i64 m] W fun e w' => e = .returned (.tuple #[.slice none 0 0, .int .i64 1]) ∧ Below W.heap.size W w' := by
  by_cases h1 : m < 1
  · clear h
    go_enter Tryd.func73, Tryd.ntmps73
    go_wp2
    go_ret2
    exact ⟨rfl, below_alloc (Below.refl _ _) _⟩
  · have h2 : 16 < m := by omega
    clear h
    go_enter Tryd.func73, Tryd.ntmps73
    go_wp2
    go_ret2
    exact ⟨rfl, below_alloc (Below.refl _ _) _⟩
set_option maxHeartbeats 1000000 in
set_option maxRecDepth 100000 in
theorem rshards_none (A : Option Addr) (c : Nat) (L : List Int) (hL : L = []) (pl m : Nat) (W : World) (h1 : 1 ≤ pl) (h2 : pl ≤ 64) (m1 : 1 ≤ m) (m2 : m ≤ 16) :
    Calls Tryd.prog 73 #[.agg #[.slice A L.length c, .int .i64 (pl : Int)], .int .i64 (m : Int)] W fun e w' => e = .returned (.tuple #[.slice none 0 0, .int .i64 3]) ∧ Below W.heap.size W w' := by
  have HLE := Aside0.mk hL
  have HL : Aside0 (∀ n ∈ L, 0 ≤ n ∧ n < 8) := ⟨by rw [hL]; simp⟩
  have HS : Aside0 (L.Pairwise (· < ·)) := ⟨by rw [hL]; exact List.Pairwise.nil⟩
  have hll : L.length ≤ 8 := by rw [hL]; simp
  have m1' : (1 : Int) ≤ (m : Int) := by omega
  have m2' : (m : Int) ≤ 16 := by omega
  have m3' : (0 : Int) < (m : Int) := by omega
  have hb0 := below_alloc (Below.refl W.heap.size W) (.cells #[.slice A L.length c, .int .i64 (pl : Int)] 107)
  have hg := blk_new W (.cells #[.slice A L.length c, .int .i64 (pl : Int)] 107)
  have HB := Aside0.mk hb0
  have HG := Aside0.mk hg
  clear hb0 hg hL
  go_enter Tryd.func73, Tryd.ntmps73
  go_wp2_with fail
  generalize hW1 : W.alloc (.cells #[.slice A L.length c, .int .i64 (pl : Int)] 107) = wr at *
  generalize hgg : W.heap.size = g at *
  clear hW1
  have HGG := Aside0.mk hgg
  clear hgg
  refine wp_loop_rounds 1 ?_
  rw [rounds_succ]
  go_wp2_with fail
  have hsr := Ri.spot_range Ri.kShard 0 m
  obtain ⟨hs0, hs1⟩ := hsr
  obtain ⟨sp, hsp⟩ : ∃ sp, Ri.spot Ri.kShard 0 m = sp := ⟨_, rfl⟩
  rw [hsp] at hs0 hs1
  have HSP := Aside0.mk hsp
  clear hsp
  have d0 : wr.drew.cell? ⟨g, 0, none⟩ = some (.slice A L.length c) := (blk_cell (blk_drew HG.out) 0).trans rfl
  have d1 : wr.drew.cell? ⟨g, 1, none⟩ = some (.int .i64 (pl : Int)) := (blk_cell (blk_drew HG.out) 1).trans rfl
  have HCD : Aside0 (Kd.C (Kd.int .i64) wr.drew A L.length L) := ⟨by rw [HLE.out]; exact ⟨rfl, by simp, fun h => by simp at h⟩⟩
  have HBD := Aside0.mk (below_drew1 HB.out)
  refine start_ (n := 10) (S := fun w' => w'.cell? ⟨g, 0, none⟩ = some (.slice A L.length c) ∧ w'.cell? ⟨g, 1, none⟩ = some (.int .i64 (pl : Int))) (ds := []) #[false, false, false, false, false, false, false, false, false, false] (by kernel_rfl) rfl rfl ⟨d0, d1⟩ (fun hHeld => ?_)
  refine with_tabW rs7.tab rs7.bits (fun HT_ HW_ => ?_)
  generalize wr.drew = wD at *
  refine pure_ (i := 1) (N := some 23) (v := ?_) (a' := ?_) #[false, true, false, false, false, false, false, false, false, false] rfl rfl (any_of HT_.out (by kernel_rfl)) (fun _ _ _ h => h) (Or.inl ⟨by rfl, ?_⟩) ?_ ?_
  rotate_left
  · intro w'
    go_simp
    with_reducible rfl
  rotate_left
  · simp only [Act.put, List.setIfInBounds_toArray, List.set_cons_zero, List.set_cons_succ, i64_w, i32_w]
    rfl
  refine pure_ (i := 2) (N := some 24) (v := ?_) (a' := ?_) #[false, true, true, false, false, false, false, false, false, false] rfl rfl (any_of HT_.out (by kernel_rfl)) (fun _ _ _ h => h) (Or.inl ⟨by rfl, ?_⟩) ?_ ?_
  rotate_left
  · intro w'
    go_simp
    with_reducible rfl
  rotate_left
  · simp only [Act.put, List.setIfInBounds_toArray, List.set_cons_zero, List.set_cons_succ, i64_w, i32_w]
    rfl
  refine take_ (i := 0) (N := some 22) (v := ?_) (a' := ?_) #[true, true, true, false, false, false, false, false, false, false] rfl rfl (take_ofW HT_.out HW_.out (by kernel_rfl)) (fun _ _ _ h => h) (Or.inl ⟨by rfl, ?_⟩) hHeld ?_ ?_
  rotate_left
  · rintro w' ⟨s0, s1⟩
    go_simp
    with_reducible rfl
  rotate_left
  · simp only [Act.put, List.setIfInBounds_toArray, List.set_cons_zero, List.set_cons_succ, i64_w, i32_w]
    rfl
  refine one_ (i := 3) (N := some 25) #[true, true, true, true, false, false, false, false, false, false] rfl rfl (one_of HT_.out (by kernel_rfl)) (by decide) (fun K hK => ?_)
  refine goes_ Tryd.func19 (by kernel_rfl) rfl #[.string Ri.kShard, .int .i64 0, .int .i64 (m : Int)] (by rfl) rfl rfl (by (try simp only [List.map_toArray, List.map_cons, List.map_nil]); first | done | rfl) ?_
  refine (Ri.rspot_small Ri.kShard 0 m _ (by decide) (by omega) (by omega)).mono ?_
  rintro e w9 ⟨rfl, rfl⟩
  refine ⟨_, rfl, ?_⟩
  rw [HSP.out]
  refine hK.out _ _ hHeld (fun hH2 => ?_)
  clear hHeld hK K
  refine norm_ (a' := ?_) ?_ ?_
  rotate_left
  · simp only [Act.put, List.setIfInBounds_toArray, List.set_cons_zero, List.set_cons_succ, i64_w, i32_w]
    rfl
  refine one_ (i := 4) (N := some 26) #[true, true, true, true, true, false, false, false, false, false] rfl rfl (one_of HT_.out (by kernel_rfl)) (by decide) (fun K hK => ?_)
  refine goes_ Tryd.func95 (by kernel_rfl) rfl #[.agg #[.slice A L.length c, .int .i64 (pl : Int)], .int .i64 sp] (by rfl) rfl rfl (by (try simp only [List.map_toArray, List.map_cons, List.map_nil]); first | done | rfl) ?_
  refine (Ri.rhome_calls A c L pl sp wD HCD.out HL.out HS.out hll h1 h2 hs0 hs1).mono ?_
  rintro e w9 ⟨hex, hb9⟩
  rcases hex with ⟨_, rfl⟩ | ⟨hx, _⟩
  rotate_left
  · exact absurd hx (by rw [HLE.out]; simp)
  refine ⟨_, rfl, ?_⟩
  refine hK.out _ _ ⟨pw_cell_below hb9 hH2.1, pw_cell_below hb9 hH2.2⟩ (fun hH3 => ?_)
  clear hH2 hK K
  refine norm_ (a' := ?_) ?_ ?_
  rotate_left
  · simp only [Act.put, List.setIfInBounds_toArray, List.set_cons_zero, List.set_cons_succ, i64_w, i32_w]
    rfl
  refine pure_ (i := 5) (N := some 21) (v := ?_) (a' := ?_) #[true, true, true, true, true, true, false, false, false, false] rfl rfl (any_of HT_.out (by kernel_rfl)) (fun _ _ _ h => h) (Or.inl ⟨by rfl, ?_⟩) ?_ ?_
  rotate_left
  · intro w'
    go_simp
    with_reducible rfl
  rotate_left
  · simp only [Act.put, List.setIfInBounds_toArray, List.set_cons_zero, List.set_cons_succ, i64_w, i32_w]
    rfl
  refine pure_ (i := 6) (N := some 27) (v := ?_) (a' := ?_) #[true, true, true, true, true, true, true, false, false, false] rfl rfl (any_of HT_.out (by kernel_rfl)) (fun _ _ _ h => h) (Or.inl ⟨by rfl, ?_⟩) ?_ ?_
  rotate_left
  · intro w'
    go_simp
    with_reducible rfl
  rotate_left
  · simp only [Act.put, List.setIfInBounds_toArray, List.set_cons_zero, List.set_cons_succ, i64_w, i32_w]
    rfl
  refine pure_ (i := 7) (N := some 28) (v := ?_) (a' := ?_) #[true, true, true, true, true, true, true, true, false, false] rfl rfl (any_of HT_.out (by kernel_rfl)) (fun _ _ _ h => h) (Or.inl ⟨by rfl, ?_⟩) ?_ ?_
  rotate_left
  · intro w'
    go_simp
    with_reducible rfl
  rotate_left
  · simp only [Act.put, List.setIfInBounds_toArray, List.set_cons_zero, List.set_cons_succ, i64_w, i32_w]
    rfl
  refine pure_ (i := 8) (N := some 8) (v := ?_) (a' := ?_) #[true, true, true, true, true, true, true, true, true, false] rfl rfl (any_of HT_.out (by kernel_rfl)) (fun _ _ _ h => h) (Or.inl ⟨by rfl, ?_⟩) ?_ ?_
  rotate_left
  · intro w'
    go_simp
    with_reducible rfl
  rotate_left
  · simp only [Act.put, List.setIfInBounds_toArray, List.set_cons_zero, List.set_cons_succ, i64_w, i32_w]
    rfl
  refine pure_ (i := 9) (N := some 9) (v := ?_) (a' := ?_) #[true, true, true, true, true, true, true, true, true, true] rfl rfl (any_of HT_.out (by kernel_rfl)) (fun _ _ _ h => h) (Or.inl ⟨by rfl, ?_⟩) ?_ ?_
  rotate_left
  · intro w'
    go_simp
    with_reducible rfl
  rotate_left
  · simp only [Act.put, List.setIfInBounds_toArray, List.set_cons_zero, List.set_cons_succ, i64_w, i32_w]
    rfl
  refine done_ (done_of HT_.out (by kernel_rfl)) ?_
  go_wp2_with fail
  go_ret2
  exact ⟨rfl, by rw [HGG.out]; exact below_then HBD.out (by rw [← HGG.out]; exact HBD.out.size) hb9⟩

set_option maxHeartbeats 2000000 in
set_option maxRecDepth 100000 in
theorem rshards_some (A : Option Addr) (c : Nat) (L : List Int) (pl m : Nat) (W : World) (hC : Kd.C (Kd.int .i64) W A L.length L) (hL : ∀ n ∈ L, 0 ≤ n ∧ n < 8) (hs : L.Pairwise (· < ·)) (hll : L.length ≤ 8) (hl : 0 < L.length) (h1 : 1 ≤ pl) (h2 : pl ≤ 64) (m1 : 1 ≤ m) (m2 : m ≤ 16) :
    Calls Tryd.prog 73 #[.agg #[.slice A L.length c, .int .i64 (pl : Int)], .int .i64 (m : Int)] W (Ri.ShardsDone (ring Ri.spN L pl) m W) := by
  have HL := Aside0.mk hL
  have HS := Aside0.mk hs
  have HLN : Aside0 (¬ L = []) := ⟨List.length_pos_iff.1 hl⟩
  have m1' : (1 : Int) ≤ (m : Int) := by omega
  have m2' : (m : Int) ≤ 16 := by omega
  have hb0 := below_alloc (Below.refl W.heap.size W) (.cells #[.slice A L.length c, .int .i64 (pl : Int)] 107)
  have hg := blk_new W (.cells #[.slice A L.length c, .int .i64 (pl : Int)] 107)
  have HC0 := Aside0.mk (Kd.C_below hC hb0)
  obtain ⟨i0, hi, hz0, hz1, hz2⟩ := info_parts Ri.info3
  have HI := Aside0.mk hi
  have HZ0 := Aside0.mk hz0
  have HZ1 := Aside0.mk hz1
  have HZ2 := Aside0.mk hz2
  have HB := Aside0.mk hb0
  have HG := Aside0.mk hg
  clear hb0 hg hi hz0 hz1 hz2 hC hL hs
  go_enter Tryd.func73, Tryd.ntmps73
  go_wp2_with fail
  have HGS : Aside0 (W.heap.size < (W.alloc (.cells #[.slice A L.length c, .int .i64 (pl : Int)] 107)).heap.size) := ⟨by simp⟩
  generalize hW1 : W.alloc (.cells #[.slice A L.length c, .int .i64 (pl : Int)] 107) = W1 at *
  clear hW1
  obtain ⟨g, hgg⟩ : ∃ g, W.heap.size = g := ⟨_, rfl⟩
  have HGG := Aside0.mk hgg
  rw [hgg] at HG HB HGS
  simp only [hgg]
  clear hgg
  go_loopw [6, 7] (fun o i wr => ∃ (A' : Option Addr) (cap : Nat) (out : List Int), out.length ≤ m ∧ o = .slice A' out.length cap ∧ i = .int .i64 (out.length : Int) ∧ Aside0 (∀ s (hs : s < out.length), IsHome (ring Ri.spN L pl) (Ri.spot Ri.kShard s m) out[s]) ∧ Aside0 (wr.ownsRow W1.heap.size 3 1 (.slice A' out.length cap) out.length (nums .i64 out)) ∧ Aside0 (Below W1.heap.size W1 wr)) (fun _ i => fun _ => m - (intOf i).toNat)
  case atStart => exact ⟨none, 0, [], by simp, rfl, rfl, ⟨fun s hs => by simp at hs⟩, ⟨own_nil _ _ _ _⟩, ⟨Below.refl _ _⟩⟩
  case round =>
    obtain ⟨A', cap, out, hk, rfl, rfl, HH, HO, HBR⟩ := hrel
    by_cases hlt : out.length < m
    · have hlt' : (out.length : Int) < (m : Int) := by omega
      go_wp2_with fail
      have hsr := Ri.spot_range Ri.kShard out.length m
      obtain ⟨hs0, hs1⟩ := hsr
      obtain ⟨sp, hsp⟩ : ∃ sp, Ri.spot Ri.kShard out.length m = sp := ⟨_, rfl⟩
      rw [hsp] at hs0 hs1
      have HSP := Aside0.mk hsp
      clear hsp
      have hgr := blk_below HG.out HBR.out
      have d0 : wr.drew.cell? ⟨g, 0, none⟩ = some (.slice A L.length c) := (blk_cell (blk_drew hgr) 0).trans rfl
      have d1 : wr.drew.cell? ⟨g, 1, none⟩ = some (.int .i64 (pl : Int)) := (blk_cell (blk_drew hgr) 1).trans rfl
      have HCD : Aside0 (Kd.C (Kd.int .i64) wr.drew A L.length L) := ⟨Kd.C_below HC0.out (below_drew1 HBR.out)⟩
      have HBD := Aside0.mk (below_drew1 HBR.out)
      have HOD : Aside0 (wr.drew.ownsRow W1.heap.size 3 1 (.slice A' out.length cap) out.length (nums .i64 out)) := ⟨HO.out⟩
      clear hgr
      refine start_ (n := 10) (S := fun w' => w'.cell? ⟨g, 0, none⟩ = some (.slice A L.length c) ∧ w'.cell? ⟨g, 1, none⟩ = some (.int .i64 (pl : Int))) (ds := []) #[false, false, false, false, false, false, false, false, false, false] (by kernel_rfl) rfl rfl ⟨d0, d1⟩ (fun hHeld => ?_)
      refine with_tabW rs7.tab rs7.bits (fun HT_ HW_ => ?_)
      generalize wr.drew = wD at *
      refine pure_ (i := 1) (N := some 23) (v := ?_) (a' := ?_) #[false, true, false, false, false, false, false, false, false, false] rfl rfl (any_of HT_.out (by kernel_rfl)) (fun _ _ _ h => h) (Or.inl ⟨by rfl, ?_⟩) ?_ ?_
      rotate_left
      · intro w'
        go_simp
        with_reducible rfl
      rotate_left
      · simp only [Act.put, List.setIfInBounds_toArray, List.set_cons_zero, List.set_cons_succ, i64_w, i32_w]
        rfl
      refine pure_ (i := 2) (N := some 24) (v := ?_) (a' := ?_) #[false, true, true, false, false, false, false, false, false, false] rfl rfl (any_of HT_.out (by kernel_rfl)) (fun _ _ _ h => h) (Or.inl ⟨by rfl, ?_⟩) ?_ ?_
      rotate_left
      · intro w'
        go_simp
        with_reducible rfl
      rotate_left
      · simp only [Act.put, List.setIfInBounds_toArray, List.set_cons_zero, List.set_cons_succ, i64_w, i32_w]
        rfl
      refine take_ (i := 0) (N := some 22) (v := ?_) (a' := ?_) #[true, true, true, false, false, false, false, false, false, false] rfl rfl (take_ofW HT_.out HW_.out (by kernel_rfl)) (fun _ _ _ h => h) (Or.inl ⟨by rfl, ?_⟩) hHeld ?_ ?_
      rotate_left
      · rintro w' ⟨s0, s1⟩
        go_simp
        with_reducible rfl
      rotate_left
      · simp only [Act.put, List.setIfInBounds_toArray, List.set_cons_zero, List.set_cons_succ, i64_w, i32_w]
        rfl
      refine one_ (i := 3) (N := some 25) #[true, true, true, true, false, false, false, false, false, false] rfl rfl (one_of HT_.out (by kernel_rfl)) (by decide) (fun K hK => ?_)
      refine goes_ Tryd.func19 (by kernel_rfl) rfl #[.string Ri.kShard, .int .i64 (out.length : Int), .int .i64 (m : Int)] (by rfl) rfl rfl (by (try simp only [List.map_toArray, List.map_cons, List.map_nil]); first | done | rfl) ?_
      refine (Ri.rspot_small Ri.kShard out.length m _ (by decide) (by omega) (by omega)).mono ?_
      rintro e w9 ⟨rfl, rfl⟩
      refine ⟨_, rfl, ?_⟩
      rw [HSP.out]
      refine hK.out _ _ hHeld (fun hH2 => ?_)
      clear hHeld hK K
      refine norm_ (a' := ?_) ?_ ?_
      rotate_left
      · simp only [Act.put, List.setIfInBounds_toArray, List.set_cons_zero, List.set_cons_succ, i64_w, i32_w]
        rfl
      refine one_ (i := 4) (N := some 26) #[true, true, true, true, true, false, false, false, false, false] rfl rfl (one_of HT_.out (by kernel_rfl)) (by decide) (fun K hK => ?_)
      refine goes_ Tryd.func95 (by kernel_rfl) rfl #[.agg #[.slice A L.length c, .int .i64 (pl : Int)], .int .i64 sp] (by rfl) rfl rfl (by (try simp only [List.map_toArray, List.map_cons, List.map_nil]); first | done | rfl) ?_
      refine (Ri.rhome_calls A c L pl sp wD HCD.out HL.out HS.out hll h1 h2 hs0 hs1).mono ?_
      rintro e w9 ⟨hex, hb9⟩
      rcases hex with ⟨hx, _⟩ | ⟨_, n, rfl, hn⟩
      · exact absurd hx HLN.out
      have HN := Aside0.mk hn
      have HB9 := Aside0.mk hb9
      clear hn
      refine ⟨_, rfl, ?_⟩
      refine hK.out _ _ ⟨pw_cell_below hb9 hH2.1, pw_cell_below hb9 hH2.2⟩ (fun hH3 => ?_)
      clear hH2 hK K
      refine norm_ (a' := ?_) ?_ ?_
      rotate_left
      · simp only [Act.put, List.setIfInBounds_toArray, List.set_cons_zero, List.set_cons_succ, i64_w, i32_w]
        rfl
      refine pure_ (i := 5) (N := some 21) (v := ?_) (a' := ?_) #[true, true, true, true, true, true, false, false, false, false] rfl rfl (any_of HT_.out (by kernel_rfl)) (fun _ _ _ h => h) (Or.inl ⟨by rfl, ?_⟩) ?_ ?_
      rotate_left
      · intro w'
        go_simp
        with_reducible rfl
      rotate_left
      · simp only [Act.put, List.setIfInBounds_toArray, List.set_cons_zero, List.set_cons_succ, i64_w, i32_w]
        rfl
      refine pure_ (i := 6) (N := some 27) (v := ?_) (a' := ?_) #[true, true, true, true, true, true, true, false, false, false] rfl rfl (any_of HT_.out (by kernel_rfl)) (fun _ _ _ h => h) (Or.inl ⟨by rfl, ?_⟩) ?_ ?_
      rotate_left
      · intro w'
        go_simp
        with_reducible rfl
      rotate_left
      · simp only [Act.put, List.setIfInBounds_toArray, List.set_cons_zero, List.set_cons_succ, i64_w, i32_w]
        rfl
      refine pure_ (i := 7) (N := some 28) (v := ?_) (a' := ?_) #[true, true, true, true, true, true, true, true, false, false] rfl rfl (any_of HT_.out (by kernel_rfl)) (fun _ _ _ h => h) (Or.inl ⟨by rfl, ?_⟩) ?_ ?_
      rotate_left
      · intro w'
        go_simp
        with_reducible rfl
      rotate_left
      · simp only [Act.put, List.setIfInBounds_toArray, List.set_cons_zero, List.set_cons_succ, i64_w, i32_w]
        rfl
      refine pure_ (i := 8) (N := some 8) (v := ?_) (a' := ?_) #[true, true, true, true, true, true, true, true, true, false] rfl rfl (any_of HT_.out (by kernel_rfl)) (fun _ _ _ h => h) (Or.inl ⟨by rfl, ?_⟩) ?_ ?_
      rotate_left
      · intro w'
        go_simp
        with_reducible rfl
      rotate_left
      · simp only [Act.put, List.setIfInBounds_toArray, List.set_cons_zero, List.set_cons_succ, i64_w, i32_w]
        rfl
      refine pure_ (i := 9) (N := some 9) (v := ?_) (a' := ?_) #[true, true, true, true, true, true, true, true, true, true] rfl rfl (any_of HT_.out (by kernel_rfl)) (fun _ _ _ h => h) (Or.inl ⟨by rfl, ?_⟩) ?_ ?_
      rotate_left
      · intro w'
        go_simp
        with_reducible rfl
      rotate_left
      · simp only [Act.put, List.setIfInBounds_toArray, List.set_cons_zero, List.set_cons_succ, i64_w, i32_w]
        rfl
      refine done_ (done_of HT_.out (by kernel_rfl)) ?_
      have HO1 : Aside0 (w9.ownsRow W1.heap.size 3 1 (.slice A' out.length cap) out.length (nums .i64 out)) := ⟨own_move HOD.out (fun k hk => HB9.out.block k (own_lt HOD.out k hk))⟩
      have HB1 : Aside0 (Below W1.heap.size W1 w9) := ⟨below_then HBD.out HBD.out.size HB9.out⟩
      have HN2 : Aside0 (∀ s (hs : s < (out ++ [n]).length), IsHome (ring Ri.spN L pl) (Ri.spot Ri.kShard s m) (out ++ [n])[s]) := ⟨fun s hs => by
        rcases Nat.lt_or_ge s out.length with h | h
        · rw [List.getElem_append_left h]; exact HH.out s h
        · have e : s = out.length := by simp at hs; omega
          subst e
          rw [List.getElem_append_right (Nat.le_refl _), HSP.out]
          simpa using HN.out⟩
      have HSZ := Aside0.mk HB1.out.size
      go_wp2_with (at_builtin; refine Ri.wpList_append_mine rfl _ _ 22 rfl W1.heap.size 3 i0 (.int .i64 0) 1 8 Tryd.underlying22 HI.out HZ0.out HZ1.out HZ2.out rfl (by decide) (.slice A' out.length cap) out.length (nums .i64 out) rfl (own_alloc HO1.out _) ⟨w9.heap.size, 0, none⟩ 1 1 [.int .i64 n] rfl rfl (cell_one_new _ _ _) (by intro u hu; simp at hu; rw [hu]; rfl) (out ++ [n]).length (by simp) (by simp [maxLen]; omega) (by simp; omega) (by have := HSZ.out; simp; omega) ?_; intro A3 c3 w4 r1 r2 r3)
      rw [Ri.nums_app] at r1
      have HO4 := Aside0.mk r1
      have HB4 : Aside0 (Below W1.heap.size W1 w4) := ⟨(below_alloc HB1.out _).grown r2 (by have := HSZ.out; simp; omega) (fun k hk => own_base HO1.out k hk)⟩
      clear r1 r2 r3
      go_roundw
      case rel => exact ⟨A3, c3, out ++ [n], by simp; omega, by simp, by simp, HN2, HO4, HB4⟩
      case measure => simp [intOf]; omega
    · have ek : out.length = m := by omega
      subst ek
      have hlt' : ¬ (out.length : Int) < (out.length : Int) := by omega
      go_wp2_with fail
      go_ret2
      refine ⟨⟨A', cap, out, rfl, ⟨rfl, HH.out⟩, own_less HO.out (by rw [HGG.out]; exact Nat.le_of_lt HGS.out)⟩, ?_⟩
      rw [HGG.out]
      exact below_then HB.out (Nat.le_of_lt HGS.out) HBR.out
end Go.Proofs.YthnonapfkobdcaaDoor.Ch

namespace Go.Proofs.YthnonapfkobdcaaDoor.Ch
open Base Go.RowKit Rg Go.Proofs.YthnonapfkobdcaaDoorW.PrintWords Go.Proofs.YthnonapfkobdcaaDoorW.PrintLast Go.Proofs.YthnonapfkobdcaaDoorW.PrintMore
set_option linter.unusedVariables false
set_option linter.unusedSimpArgs false
open PChartPlans (S52 k52)

theorem gath_nil {ns : List Int} (hn : Ri.Nodes ns) : gath ns 8 0 = [] ↔ ns = [] := by
  constructor
  · intro h
    rw [List.eq_nil_iff_forall_not_mem]
    intro x hx
    have := (gath_same hn x).2 hx
    rw [h] at this
    cases this
  · intro h; subst h; rfl

set_option maxRecDepth 100000 in
set_option maxHeartbeats 1000000 in
theorem rhomes_calls (A : Option Addr) (c : Nat) (ns : List Int) (pl m : Int) (W : World) (hr : Kd.C (Kd.int .i64) W A ns.length ns) (hc : ns.length ≤ c) :
    Calls Tryd.prog 51 #[.slice A ns.length c, .int .i64 pl, .int .i64 m] W (HomesDone ns pl m W) := by
  have HR := Aside0.mk hr
  have HC := Aside0.mk hc
  clear hr hc
  go_enter Tryd.func51, Tryd.ntmps51
  go_wp2_with fail
  refine (rnew_calls A c ns pl W HR.out HC.out).mono ?_
  rintro e w1 ⟨hex, hb1⟩
  have HB1 := Aside0.mk hb1
  clear hb1
  rcases hex with ⟨hg, A1, c1, rfl, hC1⟩ | ⟨hg, A1, c1, rfl⟩
  rotate_left
  · have HE := Aside0.mk (hEr_bad (ns := ns) (pl := pl) (m := m) (fun h => hg ⟨h.1, h.2.1⟩))
    clear hg
    go_wp2_with fail
    go_ret2
    exact HomesDone.nil 1 HE.out (by decide) (below_alloc HB1.out _)
  obtain ⟨⟨hp1, hp2⟩, hn⟩ := hg
  obtain ⟨p, rfl⟩ : ∃ p : Nat, pl = (p : Int) := ⟨pl.toNat, by omega⟩
  have hq1 : 1 ≤ p := by omega
  have hq2 : p ≤ 64 := by omega
  have HN := Aside0.mk hn
  have hLr : ∀ n ∈ gath ns 8 0, 0 ≤ n ∧ n < 8 := fun n h => hn.range n ((gath_same hn n).1 h)
  have HLR := Aside0.mk hLr
  have HLS := Aside0.mk (gath_rise hn)
  have hll : (gath ns 8 0).length ≤ 8 := Nat.le_trans (gath_len_le ns 8 0) hn.len
  have HNIL := Aside0.mk (gath_nil hn)
  have HRS := Aside0.mk (ring_same hn p)
  have HC1 := Aside0.mk hC1
  clear hn hLr hC1
  generalize gath ns 8 0 = L at *
  go_wp2_with fail
  have HBB := Aside0.mk (below_alloc HB1.out (.cells #[.slice A1 L.length c1, .int .i64 (p : Int)] 107))
  have HCC := Aside0.mk (Kd.C_alloc HC1.out (.cells #[.slice A1 L.length c1, .int .i64 (p : Int)] 107))
  by_cases hm : 1 ≤ m ∧ m ≤ 16
  rotate_left
  · have HE := Aside0.mk (hEr_bad (ns := ns) (pl := (p : Int)) (m := m) (fun h => hm h.2.2))
    refine (rshards_bad A1 L.length c1 (p : Int) m _ (by omega)).mono ?_
    rintro e w2 ⟨rfl, hb2⟩
    have HB2 := Aside0.mk (below_step HBB.out hb2)
    clear hm hb2
    go_wp2_with fail
    go_ret2
    exact HomesDone.nil 1 HE.out (by decide) HB2.out
  obtain ⟨q, rfl⟩ : ∃ q : Nat, m = (q : Int) := ⟨m.toNat, by omega⟩
  by_cases hns : ns = []
  · have HE : Aside0 (hEr ns (p : Int) (q : Int) = 3) := ⟨by have := HN.out; rw [hns] at this ⊢; exact hEr_none ⟨⟨hp1, hp2⟩, this, hm⟩⟩
    have hLn : L = [] := HNIL.out.2 hns
    refine (rshards_none A1 c1 L hLn p q _ hq1 hq2 (by omega) (by omega)).mono ?_
    rintro e w2 ⟨rfl, hb2⟩
    have HB2 := Aside0.mk (below_step HBB.out hb2)
    clear hm hb2 hLn hns
    go_wp2_with fail
    go_ret2
    exact HomesDone.nil 3 HE.out (by decide) HB2.out
  · have HE := Aside0.mk (hEr_ok (pl := (p : Int)) (m := (q : Int)) ⟨⟨hp1, hp2⟩, HN.out, hm⟩ hns)
    have hLp : 0 < L.length := List.length_pos_iff.2 (fun h => hns (HNIL.out.1 h))
    refine (rshards_some A1 c1 L p q _ HCC.out HLR.out HLS.out hll hLp hq1 hq2 (by omega) (by omega)).mono ?_
    rintro e w2 ⟨⟨A2, c2, out, rfl, ho, how⟩, hb2⟩
    have HB2 := Aside0.mk (below_step HBB.out hb2)
    have HO := Aside0.mk (shards_same ho HRS.out)
    have HW := Aside0.mk how
    clear hb2 hm ho how hns hLp
    go_wp2_with fail
    go_ret2
    refine ⟨⟨A2, c2, out, by rw [HE.out]; rfl, ⟨fun h => absurd HE.out h, fun _ => HO.out⟩, own_le HW.out, Kd.C_of_reads (own_reads' HW.out), fun a ha => ?_⟩, HB2.out⟩
    subst ha
    exact Nat.le_trans HBB.out.size (own_base HW.out a.block rfl)

set_option maxRecDepth 100000 in
set_option maxHeartbeats 1000000 in
theorem rfirst_calls (A : Option Addr) (c : Nat) (ns : List Int) (pl m : Int) (W : World) (hr : Kd.C (Kd.int .i64) W A ns.length ns) (hc : ns.length ≤ c) :
    Calls Tryd.prog 24 #[.slice A ns.length c, .int .i64 pl, .int .i64 m] W (FirstDone ns pl m W) := by
  have HR := Aside0.mk (Kd.C_alloc hr (.cells #[.int .i64 0, .slice none 0 0] 24))
  have HCC := Aside0.mk hc
  clear hr hc
  have HB0 := Aside0.mk (below_alloc (Below.refl W.heap.size W) (.cells #[.int .i64 0, .slice none 0 0] 24))
  have HG := Aside0.mk (blk_new W (.cells #[.int .i64 0, .slice none 0 0] 24))
  go_enter Tryd.func24, Tryd.ntmps24
  go_wp2_with fail
  refine (rhomes_calls A c ns pl m _ HR.out HCC.out).mono ?_
  rintro e w1 ⟨⟨A1, c1, out, rfl, hh, hc1, hC1, hA1⟩, hb1⟩
  have HG1 := Aside0.mk ((hb1.block W.heap.size (by simp)).trans HG.out)
  have HB1 := Aside0.mk (below_step HB0.out hb1)
  have HH := Aside0.mk hh
  have HC1 := Aside0.mk hC1
  have hA1' : ∀ a, A1 = some a → W.heap.size + 1 ≤ a.block := fun a ha => by have := hA1 a ha; simp at this; omega
  have HA1' := Aside0.mk hA1'
  clear hh hC1 hA1 hA1' hb1
  have x0 : w1.cell? ⟨W.heap.size, 0, none⟩ = some (.int .i64 0) := (blk_cell HG1.out 0).trans rfl
  have x1 : w1.cell? ⟨W.heap.size, 1, none⟩ = some (.slice none 0 0) := (blk_cell HG1.out 1).trans rfl
  have z0 := blk_frozen HG1.out 0
  have z1 := blk_frozen HG1.out 1
  have hbk : ∀ u v, Below W.heap.size W ((w1.setCell ⟨W.heap.size, 0, none⟩ u).setCell ⟨W.heap.size, 1, none⟩ v) := fun u v => below_set (below_set HB1.out (Nat.le_refl _)) (Nat.le_refl _)
  have HBK := Aside0.mk hbk
  clear hbk
  by_cases he : hEr ns pl m = 0
  · have HE := Aside0.mk he
    rw [he]
    clear he
    go_wp2_with fail
    refine bodyPost_ret (v := .tuple #[.agg #[.int .i64 1, .slice A1 out.length c1], .int .i64 0]) (by simp [results, Tryd.results24, go_sem, x0, x1]) rfl ⟨⟨A1, c1, out, by rw [HE.out]; rfl, HH.out, hc1, ?_, fun a ha => by have := HA1'.out a ha; omega⟩, HBK.out _ _⟩
    exact C_keep (w := w1) (g := W.heap.size) (fun _ _ h => h) HC1.out (KeepBut.set_ (KeepBut.set_ (KeepBut.refl _ _ _) _ _) _ _) (fun a ha => by have := HA1'.out a ha; omega)
  · have ho := HH.out.no he
    have he2 : (hEr ns pl m == 0) = false := by simpa using he
    have he3 : (hEr ns pl m != 0) = true := by simpa using he
    subst ho
    have HE := Aside0.mk he
    have HI : Aside0 ((if hEr ns pl m = 0 then (1 : Int) else 0) = 0) := ⟨if_neg he⟩
    have HF : Aside0 (∀ w', Below W.heap.size W w' → FirstDone ns pl m W (.returned (.tuple #[.agg #[.int .i64 0, .slice none 0 0], .int .i64 (hEr ns pl m)])) w') := ⟨fun w' hb => ⟨⟨none, 0, [], by rw [HI.out]; rfl, HH.out, Nat.le_refl _, ⟨rfl, by simp, fun h => by simp at h⟩, fun a h => by cases h⟩, hb⟩⟩
    generalize hEr ns pl m = er at *
    go_wp2_with fail
    refine bodyPost_ret (v := .tuple #[.agg #[.int .i64 0, .slice none 0 0], .int .i64 er]) (by simp [results, Tryd.results24, go_sem, x0, x1]) rfl (HF.out _ (HBK.out _ _))

set_option maxRecDepth 100000 in
set_option maxHeartbeats 1000000 in
theorem rplan_calls (ep : Int) (A : Option Addr) (c : Nat) (xs : List Int) (B : Option Addr) (d : Nat) (ns : List Int) (pl : Int) (W : World) (hx : Kd.C (Kd.int .i64) W A xs.length xs) (hc : xs.length ≤ c) (hr : Kd.C (Kd.int .i64) W B ns.length ns) (hd : ns.length ≤ d) :
    Calls Tryd.prog 26 #[.agg #[.int .i64 ep, .slice A xs.length c], .slice B ns.length d, .int .i64 pl] W (PlanDone ep xs ns pl W) := by
  have hxl : xs.length ≤ 9223372036854775807 := hx.2.1
  have hb0 := below_alloc (Below.refl W.heap.size W) (.cells #[.int .i64 ep, .slice A xs.length c] 24)
  have HX0 := Aside0.mk (Kd.C_below hx hb0)
  have HR0 := Aside0.mk (Kd.C_below hr hb0)
  have HC0 := Aside0.mk hc
  have HD0 := Aside0.mk hd
  have HG := Aside0.mk (blk_new W (.cells #[.int .i64 ep, .slice A xs.length c] 24))
  have HB0 := Aside0.mk hb0
  have HMY := Aside0.mk (PChartPlans.ploverref12_May.calls (xs.length + 1) ep A c xs (mayB ep xs) _ HX0.out hc (may_f ep xs hxl))
  clear hx hr hb0 hc hd
  go_enter Tryd.func26, Tryd.ntmps26
  go_wp2_with fail
  refine HMY.out.mono ?_
  rintro e w1 ⟨rfl, hb1⟩
  have HX1 := Aside0.mk (Kd.C_below HX0.out hb1)
  have HR1 := Aside0.mk (Kd.C_below HR0.out hb1)
  have HG1 := Aside0.mk ((hb1.block W.heap.size (by simp)).trans HG.out)
  have HB1 := Aside0.mk (below_step HB0.out hb1)
  clear hb1 HX0 HR0 HG HMY
  by_cases hk : ckI ep xs = 0
  rotate_left
  · have hk1 : mayB ep xs = false := by rw [may_ck]; simpa using hk
    have HE : Aside0 (pEr ep xs ns pl = 1) := ⟨by unfold pEr; rw [if_neg hk]⟩
    rw [hk1]
    clear hk hk1
    go_wp2_with fail
    go_ret2
    exact PlanDone.nil 1 HE.out (by decide) HB1.out
  have hbd := ck_bounds hk
  have hx16 := hbd.2.2.2
  have HE : Aside0 (pEr ep xs ns pl = hEr ns pl xs.length) := ⟨by unfold pEr; rw [if_pos hk]⟩
  rw [show mayB ep xs = true by rw [may_ck]; simpa using hk]
  have x1 : w1.cell? ⟨W.heap.size, 1, none⟩ = some (.slice A xs.length c) := (blk_cell HG1.out 1).trans rfl
  clear hk hbd
  go_wp2_with fail
  refine (rhomes_calls B d ns pl xs.length w1 HR1.out HD0.out).mono ?_
  rintro e w2 ⟨⟨A2, c2, out, rfl, hh, hc2, hC2, hA2⟩, hb2⟩
  have HX2 := Aside0.mk (Kd.C_below HX1.out hb2)
  have HG2 := Aside0.mk (blk_below HG1.out hb2)
  have HB2 := Aside0.mk (below_step HB1.out hb2)
  have HH := Aside0.mk hh
  have HC2 := Aside0.mk hC2
  have HK2 := Aside0.mk hc2
  have x2 : w2.cell? ⟨W.heap.size, 1, none⟩ = some (.slice A xs.length c) := (blk_cell HG2.out 1).trans rfl
  clear hb2 hh hC2 hc2 hA2 x1
  by_cases he : hEr ns pl xs.length = 0
  · have hz := hEr_zero he
    have hol : out.length = xs.length := by have := (HH.out.yes he).len; simpa using this
    have HPI : Aside0 (PlanIs ep xs ns pl (Pl.mvF xs out xs.length 0)) := ⟨⟨fun h => absurd (HE.out.trans he) h, fun _ => ⟨out, HH.out, hol, rfl⟩⟩⟩
    have HE2 : Aside0 (pEr ep xs ns pl = 0) := ⟨HE.out.trans he⟩
    have hm := Pl.diff_f xs out hol.symm (by omega)
    obtain ⟨L, hL⟩ : ∃ L, Pl.mvF xs out xs.length 0 = L := ⟨_, rfl⟩
    rw [hL] at hm HPI
    have HM : Aside0 (Calls Tryd.prog 53 #[.slice A xs.length c, .slice A2 out.length c2] w2 fun e w' => ∃ A3 c3, e = .returned (.slice A3 L.length c3) ∧ L.length ≤ c3 ∧ Kd.C k52 w' A3 L.length L ∧ (∀ a, A3 = some a → w2.heap.size ≤ a.block) ∧ Below w2.heap.size w2 w') := ⟨by
      refine (PChartPlans.ploverref12_diff.calls _ A c xs A2 c2 out L w2 HX2.out HC0.out HC2.out HK2.out hm).mono ?_
      rintro e w3 ⟨v, rfl, hR, hb3⟩
      have hbase := Kd.R_base hR
      obtain ⟨A3, c3, rfl, hc3, hC3⟩ := Kd.R_reads hR
      exact ⟨A3, c3, rfl, hc3, hC3, fun a ha => by subst ha; exact hbase a.block rfl, hb3⟩⟩
    rw [hol] at HM
    rw [he]
    clear he hz hm hL
    go_wp2_with fail
    refine HM.out.mono ?_
    rintro e w3 ⟨A3, c3, rfl, hc3, hC3, hA3, hb3⟩
    have HA3 := Aside0.mk hA3
    have HB3 := Aside0.mk (below_step HB2.out hb3)
    have HC3 := Aside0.mk hC3
    have HK3 := Aside0.mk hc3
    clear hb3 hC3 hc3 hA3
    go_wp2_with fail
    go_ret2
    exact ⟨⟨A3, c3, _, by rw [HE2.out]; rfl, HPI.out, HK3.out, HC3.out, fun a ha => Nat.le_trans HB2.out.size (HA3.out a ha)⟩, HB3.out⟩
  · have he2 : (hEr ns pl xs.length == 0) = false := by simpa using he
    have he3 : (hEr ns pl xs.length != 0) = true := by simpa using he
    have HF := Aside0.mk (fun w' hb => PlanDone.nil (W := W) (w' := w') _ HE.out he hb)
    generalize hEr ns pl xs.length = er at *
    clear he
    go_wp2_with fail
    go_ret2
    exact HF.out _ HB2.out

theorem PlanIs.eq {ep : Int} {xs ns : List Int} {pl : Int} {L M : List S52} (h : PlanIs ep xs ns pl L) (k : PlanIs ep xs ns pl M) : L = M := by
  by_cases e : pEr ep xs ns pl = 0
  · obtain ⟨a, ha, _, rfl⟩ := h.yes e
    obtain ⟨b, hb, _, rfl⟩ := k.yes e
    rw [ha.eq hb]
  · rw [h.no e, k.no e]
theorem PlanIs.len {ep : Int} {xs ns : List Int} {pl : Int} {L : List S52} (h : PlanIs ep xs ns pl L) : L.length ≤ xs.length := by
  by_cases e : pEr ep xs ns pl = 0
  · obtain ⟨a, ha, _, rfl⟩ := h.yes e
    exact Pl.mvF_len _ _ _ _
  · rw [h.no e]; simp
end Go.Proofs.YthnonapfkobdcaaDoor.Ch

namespace Go.Proofs.YthnonapfkobdcaaDoor.Ch
open Base Go.RowKit Rg Go.Proofs.YthnonapfkobdcaaDoorW.PrintWords Go.Proofs.YthnonapfkobdcaaDoorW.PrintLast Go.Proofs.YthnonapfkobdcaaDoorW.PrintMore
set_option linter.unusedVariables false
set_option linter.unusedSimpArgs false
open PChartPlans (S52 k52)

set_option maxRecDepth 100000 in
set_option maxHeartbeats 1000000 in
theorem plans_long (ep : Int) (A : Option Addr) (c : Nat) (xs : List Int) (B : Option Addr) (d : Nat) (ns : List Int) (p m : Int) (W : World) (h : 100 < xs.length ∨ 100 < ns.length) :
    Calls Tryd.prog 7 #[.agg #[.int .i64 ep, .slice A xs.length c], .slice B ns.length d, .agg #[.int .i64 p, .int .i64 m]] W (Ri.Yes W) := by
  by_cases h1 : 100 < xs.length
  · clear h
    go_enter Tryd.func7, Tryd.ntmps7
    go_wp2_with (go_at_call 22; refine (awake_calls _).mono ?_; rintro e w6 ⟨rfl, hb6⟩)
    go_ret
    exact ⟨rfl, below_step (below_alloc (below_alloc (Below.refl _ _) _) _) hb6⟩
  · have h2 : 100 < ns.length := by omega
    clear h
    go_enter Tryd.func7, Tryd.ntmps7
    go_wp2_with (go_at_call 22; refine (awake_calls _).mono ?_; rintro e w6 ⟨rfl, hb6⟩)
    go_ret
    exact ⟨rfl, below_step (below_alloc (below_alloc (Below.refl _ _) _) _) hb6⟩

set_option maxRecDepth 100000 in
set_option maxHeartbeats 2000000 in
theorem plans_calls (ep : Int) (A : Option Addr) (c : Nat) (xs : List Int) (B : Option Addr) (d : Nat) (ns : List Int) (p m : Int) (W : World)
    (hx : Kd.C (Kd.int .i64) W A xs.length xs) (hc : xs.length ≤ c) (hr : Kd.C (Kd.int .i64) W B ns.length ns) (hd : ns.length ≤ d) :
    Calls Tryd.prog 7 #[.agg #[.int .i64 ep, .slice A xs.length c], .slice B ns.length d, .agg #[.int .i64 p, .int .i64 m]] W (Ri.Yes W) := by
  by_cases hlong : 100 < xs.length ∨ 100 < ns.length
  · exact plans_long ep A c xs B d ns p m W hlong
  have h1 : ¬ 100 < xs.length := by omega
  have h2 : ¬ 100 < ns.length := by omega
  have hb0 := below_alloc (below_alloc (Below.refl W.heap.size W) (.cells #[.int .i64 ep, .slice A xs.length c] 24)) (.cells #[.int .i64 p, .int .i64 m] 43)
  have HX0 := Aside0.mk (Kd.C_below hx hb0)
  have HR0 := Aside0.mk (Kd.C_below hr hb0)
  have HG0 := Aside0.mk (blk_alloc (blk_new W (.cells #[.int .i64 ep, .slice A xs.length c] 24)) (.cells #[.int .i64 p, .int .i64 m] 43))
  have HG1 := Aside0.mk (blk_new (W.alloc (.cells #[.int .i64 ep, .slice A xs.length c] 24)) (.cells #[.int .i64 p, .int .i64 m] 43))
  have HC := Aside0.mk hc
  have HD := Aside0.mk hd
  have HB0 := Aside0.mk hb0
  clear hx hr hb0 hc hd hlong
  go_enter Tryd.func7, Tryd.ntmps7
  go_wp2_with fail
  have hsz : (W.alloc (.cells #[.int .i64 ep, .slice A xs.length c] 24)).heap.size = W.heap.size + 1 := by simp
  rw [hsz] at HG1
  clear hsz
  refine (first_calls B d ns p m _ HR0.out).mono ?_
  rintro e w1 ⟨⟨A1, c1, out, rfl, hh1, hc1, hC1, _⟩, hb1⟩
  have HX1 := Aside0.mk (Kd.C_below HX0.out hb1)
  have HR1 := Aside0.mk (Kd.C_below HR0.out hb1)
  have HG01 := Aside0.mk (blk_below HG0.out hb1)
  have HG11 := Aside0.mk (blk_below HG1.out hb1)
  have HB1 := Aside0.mk (below_step HB0.out hb1)
  have HH1 := Aside0.mk hh1
  have HO1 := Aside0.mk hC1
  have HK1 := Aside0.mk hc1
  have q0 : w1.cell? ⟨W.heap.size + 1, 0, none⟩ = some (.int .i64 p) := (blk_cell HG11.out 0).trans rfl
  have q1 : w1.cell? ⟨W.heap.size + 1, 1, none⟩ = some (.int .i64 m) := (blk_cell HG11.out 1).trans rfl
  obtain ⟨er, her⟩ : ∃ er, hEr ns p m = er := ⟨_, rfl⟩
  obtain ⟨v, hv⟩ : ∃ v : Int, (if hEr ns p m = 0 then 1 else 0) = v := ⟨_, rfl⟩
  rw [hv, her]
  have HER := Aside0.mk her
  have HV := Aside0.mk hv
  clear hb1 hh1 hC1 hc1 HX0 HR0 HG0 HG1 her hv
  go_upto_region 4 with (fail)
  have hbx := below_alloc (Below.refl w1.heap.size w1) (.cells #[.int .i64 v, .slice A1 out.length c1] 24)
  have HX2 := Aside0.mk (Kd.C_below HX1.out hbx)
  have HR2 := Aside0.mk (Kd.C_below HR1.out hbx)
  have HO2 := Aside0.mk (Kd.C_below HO1.out hbx)
  have HG02 := Aside0.mk (blk_below HG01.out hbx)
  have HG12 := Aside0.mk (blk_below HG11.out hbx)
  have HGA := Aside0.mk (blk_new w1 (.cells #[.int .i64 v, .slice A1 out.length c1] 24))
  have HB2 := Aside0.mk (below_step HB1.out hbx)
  have hz0 : w1.heap.size < (w1.alloc (.cells #[.int .i64 v, .slice A1 out.length c1] 24)).heap.size := by simp
  clear hbx q0 q1 HX1 HR1 HO1 HG01 HG11
  generalize hwa : w1.alloc (.cells #[.int .i64 v, .slice A1 out.length c1] 24) = w1' at *
  clear hwa
  generalize w1.heap.size = ga at *
  have q0 : w1'.cell? ⟨W.heap.size + 1, 0, none⟩ = some (.int .i64 p) := (blk_cell HG12.out 0).trans rfl
  have q1 : w1'.cell? ⟨W.heap.size + 1, 1, none⟩ = some (.int .i64 m) := (blk_cell HG12.out 1).trans rfl
  go_wp2_with fail
  refine (rfirst_calls B d ns p m _ HR2.out HD.out).mono ?_
  rintro e w2 ⟨⟨A2, c2, out2, rfl, hh2, hc2, hC2, _⟩, hb2⟩
  obtain rfl : out2 = out := hh2.eq HH1.out
  rw [HER.out, show (if er = 0 then (1 : Int) else 0) = v by rw [← HER.out]; exact HV.out]
  have HX3 := Aside0.mk (Kd.C_below HX2.out hb2)
  have HR3 := Aside0.mk (Kd.C_below HR2.out hb2)
  have HO3 := Aside0.mk (Kd.C_below HO2.out hb2)
  have HG03 := Aside0.mk (blk_below HG02.out hb2)
  have HG13 := Aside0.mk (blk_below HG12.out hb2)
  have HGA3 := Aside0.mk (blk_below HGA.out hb2)
  have HB3 := Aside0.mk (below_step HB2.out hb2)
  have HP3 := Aside0.mk hC2
  have HK2 := Aside0.mk hc2
  have hz1 : ga < w2.heap.size := by have := hb2.size; omega
  clear hh2 hC2 hc2 hb2 HX2 HR2 HO2 HG02 HG12 HGA q0 q1
  go_upto_region 5 with (fail)
  have hbx := below_alloc (Below.refl w2.heap.size w2) (.cells #[.int .i64 v, .slice A2 out2.length c2] 24)
  have HX4 := Aside0.mk (Kd.C_below HX3.out hbx)
  have HR4 := Aside0.mk (Kd.C_below HR3.out hbx)
  have HO4 := Aside0.mk (Kd.C_below HO3.out hbx)
  have HP4 := Aside0.mk (Kd.C_below HP3.out hbx)
  have HG04 := Aside0.mk (blk_below HG03.out hbx)
  have HG14 := Aside0.mk (blk_below HG13.out hbx)
  have HGA4 := Aside0.mk (blk_below HGA3.out hbx)
  have HGB4 := Aside0.mk (blk_new w2 (.cells #[.int .i64 v, .slice A2 out2.length c2] 24))
  have HB4 := Aside0.mk (below_step HB3.out hbx)
  clear hbx HX3 HR3 HO3 HP3 HG03 HG13 HGA3
  generalize hwa : w2.alloc (.cells #[.int .i64 v, .slice A2 out2.length c2] 24) = w3 at *
  clear hwa
  generalize w2.heap.size = gb at *
  have q0 : w3.cell? ⟨W.heap.size, 0, none⟩ = some (.int .i64 ep) := (blk_cell HG04.out 0).trans rfl
  have q1 : w3.cell? ⟨W.heap.size, 1, none⟩ = some (.slice A xs.length c) := (blk_cell HG04.out 1).trans rfl
  have q2 : w3.cell? ⟨W.heap.size + 1, 0, none⟩ = some (.int .i64 p) := (blk_cell HG14.out 0).trans rfl
  go_wp2_with fail
  refine (plan_calls ep A c xs B d ns p w3 HX4.out HC.out HR4.out).mono ?_
  rintro e w4 ⟨⟨AL, cL, L, rfl, hp1, hcL, hCL, _⟩, hb4⟩
  obtain ⟨pr, hpr⟩ : ∃ pr, pEr ep xs ns p = pr := ⟨_, rfl⟩
  rw [hpr]
  have HPR := Aside0.mk hpr
  have HX5 := Aside0.mk (Kd.C_below HX4.out hb4)
  have HR5 := Aside0.mk (Kd.C_below HR4.out hb4)
  have HO5 := Aside0.mk (Kd.C_below HO4.out hb4)
  have HP5 := Aside0.mk (Kd.C_below HP4.out hb4)
  have HG05 := Aside0.mk (blk_below HG04.out hb4)
  have HG15 := Aside0.mk (blk_below HG14.out hb4)
  have HGA5 := Aside0.mk (blk_below HGA4.out hb4)
  have HGB5 := Aside0.mk (blk_below HGB4.out hb4)
  have HB5 := Aside0.mk (below_step HB4.out hb4)
  have HPI := Aside0.mk hp1
  have HL5 := Aside0.mk hCL
  have HKL := Aside0.mk hcL
  have hLl : L.length ≤ 100 := by have := hp1.len; omega
  clear hb4 hp1 hCL hcL hpr q0 q1 q2 HX4 HR4 HO4 HP4 HG04 HG14 HGA4 HGB4
  have q0 : w4.cell? ⟨W.heap.size, 0, none⟩ = some (.int .i64 ep) := (blk_cell HG05.out 0).trans rfl
  have q1 : w4.cell? ⟨W.heap.size, 1, none⟩ = some (.slice A xs.length c) := (blk_cell HG05.out 1).trans rfl
  have q2 : w4.cell? ⟨W.heap.size + 1, 0, none⟩ = some (.int .i64 p) := (blk_cell HG15.out 0).trans rfl
  go_wp2_with fail
  refine (rplan_calls ep A c xs B d ns p w4 HX5.out HC.out HR5.out HD.out).mono ?_
  rintro e w5 ⟨⟨AM, cM, M, rfl, hp2, hcM, hCM, _⟩, hb5⟩
  obtain rfl : M = L := hp2.eq HPI.out
  rw [HPR.out]
  have HO6 := Aside0.mk (Kd.C_below HO5.out hb5)
  have HP6 := Aside0.mk (Kd.C_below HP5.out hb5)
  have HGA6 := Aside0.mk (blk_below HGA5.out hb5)
  have HGB6 := Aside0.mk (blk_below HGB5.out hb5)
  have HB6 := Aside0.mk (below_step HB5.out hb5)
  have HL6 := Aside0.mk (Kd.C_below HL5.out hb5)
  have HM6 := Aside0.mk hCM
  have HKM := Aside0.mk hcM
  clear hb5 hp2 hCM hcM q0 q1 q2 HX5 HR5 HO5 HP5 HG05 HG15 HGA5 HGB5 HL5
  have a0 : w5.cell? ⟨ga, 0, none⟩ = some (.int .i64 v) := (blk_cell HGA6.out 0).trans rfl
  have a1 : w5.cell? ⟨ga, 1, none⟩ = some (.slice A1 out2.length c1) := (blk_cell HGA6.out 1).trans rfl
  have b0 : w5.cell? ⟨gb, 0, none⟩ = some (.int .i64 v) := (blk_cell HGB6.out 0).trans rfl
  have b1 : w5.cell? ⟨gb, 1, none⟩ = some (.slice A2 out2.length c2) := (blk_cell HGB6.out 1).trans rfl
  have HSA := Aside0.mk (PChartPlans.ploverref12_Same.calls (out2.length + 1) v A1 c1 out2 v A2 c2 out2 true w5 HO6.out HK1.out HP6.out HK2.out (by rw [Pl.same_f v v out2 out2 HO6.out.2.1]; simp))
  go_wp2_with fail
  refine HSA.out.mono ?_
  rintro e w6 ⟨rfl, hb6⟩
  have HSM := Aside0.mk (PChartPlans.ploverref12_SameMoves.calls (M.length + 1) AL cL M AM cM M true w6 (Kd.C_below HL6.out hb6) HKL.out (Kd.C_below HM6.out hb6) HKM.out (Pl.sameMoves_f M hLl))
  have HB7 := Aside0.mk (below_step HB6.out hb6)
  clear hb6
  go_wp2_with fail
  refine HSM.out.mono ?_
  rintro e w7 ⟨rfl, hdr7⟩
  have HB8 := Aside0.mk (below_step HB7.out hdr7.below)
  clear hdr7
  go_wp2_with (go_at_call 22; refine (awake_calls _).mono ?_; rintro e w9 ⟨rfl, hb9⟩)
  go_ret
  exact ⟨rfl, below_step HB8.out hb9⟩
end Go.Proofs.YthnonapfkobdcaaDoor.Ch

namespace Go.Proofs.YthnonapfkobdcaaDoor.Ch
open Go.RowKit Go.Joins Go.WideShapes Go.ChangeShapes Go.Proofs.YthnonapfkobdcaaDoorW.PrintWords Go.Proofs.YthnonapfkobdcaaDoorW.PrintLast Go.Proofs.YthnonapfkobdcaaDoorW.PrintMore
set_option linter.unusedVariables false
theorem open_ints_top {P : Program} {H : Type} {enc : TypeId × Value → H} {W : World} {base : Nat} {spare : Nat → Bool} {held : Bool} {r : Reach} {b0 : Nat} {t e : TypeId} {v : Value} {d : DataW H} {p : List MemPlace} (ht : P.underlying t = some (.slice e)) (he : P.underlying e = some (.int .i64)) (hc : P.cellsOf e = 1)
    (hv : Value.okWide P W r b0 t v) (h : DataW.Trod enc P W base spare held t v d p) : ∃ A cap l, v = .slice A l.length cap ∧ Kd.C (Kd.int .i64) W A l.length l ∧ l.length ≤ cap := by
  obtain ⟨a, len, cap, rfl⟩ := okWide_slice ht hv
  obtain ⟨f, hf⟩ := h
  exact Base.open_ints_C ht he hc (show DataW.trod enc P W base spare held f t [.slice a len cap] = some _ from hf)
theorem two_of {cs : Array Value} (h : cs.size = 2) : ∃ a b, cs = #[a, b] := by
  obtain ⟨l⟩ := cs
  match l, h with
  | [a, b], _ => exact ⟨a, b, rfl⟩
theorem open_arr2 {H : Type} {enc : TypeId × Value → H} {P : Program} {w : World} {base : Nat} {spare : Nat → Bool} {held : Bool} {r : Reach} {b0 : Nat} {t e : TypeId} {q : IntKind} {v : Value} {d : DataW H} {p : List MemPlace} (hs : P.underlying t = some (.array 2 e)) (he : P.underlying e = some (.int q)) (hce : P.cellsOf e = 1) (hct : P.cellsOf t = 2)
    (hv : Value.okWide P w r b0 t v) (h : DataW.Trod enc P w base spare held t v d p) : ∃ a0 a1 : Int, v = .agg #[.int q a0, .int q a1] := by
  simp only [Value.okWide, hs] at hv
  obtain ⟨cs, rfl, h2, _⟩ := hv
  obtain ⟨c0, c1, rfl⟩ := two_of (h2.trans hct)
  obtain ⟨fuel, hf⟩ := h
  cases fuel with
  | zero => simp [DataW.trod] at hf
  | succ m =>
    rw [DataW.trod_step] at hf
    unfold DataW.trodStep at hf
    simp only [hs, Value.cells] at hf
    rw [if_pos (by rw [hct]; rfl)] at hf
    simp only [Option.map_eq_some_iff, hce] at hf
    obtain ⟨ys, hy, _⟩ := hf
    rw [show List.range 2 = [0, 1] from rfl, List.mapM_cons, List.mapM_cons] at hy
    simp only [bind, Option.bind_eq_some_iff] at hy
    obtain ⟨y0, h0, z1, ⟨y1, h1, _⟩, _⟩ := hy
    obtain ⟨a0, e0, _, _⟩ := DataW.trod_int he h0
    obtain ⟨a1, e1, _, _⟩ := DataW.trod_int he h1
    simp at e0 e1
    subst e0; subst e1
    exact ⟨a0, a1, rfl⟩
end Go.Proofs.YthnonapfkobdcaaDoor.Ch
