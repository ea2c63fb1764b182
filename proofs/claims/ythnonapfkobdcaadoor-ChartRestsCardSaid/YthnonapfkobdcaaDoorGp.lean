/- A chart behind each move of a list of moves: plain, and what is boxed. -/
import Derived.Test.YthnonapfkobdcaaDoorChD
namespace Go.Proofs.YthnonapfkobdcaaDoor.Ch
open Base Go.RowKit Go.Proofs.YthnonapfkobdcaaDoorW.PrintWords Go.Proofs.YthnonapfkobdcaaDoorW.PrintLast Go.Proofs.YthnonapfkobdcaaDoorW.PrintMore
set_option linter.unusedVariables false
set_option linter.unusedSimpArgs false
open PChartPlans (S52 k52)

theorem ck_bounds {ep : Int} {xs : List Int} (h : ckI ep xs = 0) : 1 ≤ ep ∧ ep ≤ 1099511627776 ∧ 1 ≤ xs.length ∧ xs.length ≤ 16 := by
  unfold ckI mayB at h; simp at h; omega

theorem doneN_length (xs : List Int) (s : Nat) (n : Int) (hs : s < xs.length) : (doneN xs s n).length = xs.length := by
  unfold doneN; simp; omega

theorem doneN_set (xs : List Int) (s : Nat) (n : Int) (hs : s < xs.length) : doneN xs s n = xs.set s n := by
  unfold doneN
  rw [List.set_eq_take_append_cons_drop, if_pos hs]
  simp

theorem rd_set (xs : List Int) (s : Nat) (n : Int) (i : Nat) (hi : i < xs.length) : rd (xs.set s n) (i : Int) = if s = i then n else rd xs (i : Int) := by
  unfold rd
  rw [Int.toNat_natCast, List.getD_eq_getElem?_getD, List.getD_eq_getElem?_getD, List.getElem?_set]
  by_cases e : s = i
  · subst e; simp [hi]
  · simp [e]

theorem any_odd {xs : List Int} (h : xs.any oddB = false) (i : Nat) (hi : i < xs.length) : 0 ≤ rd xs (i : Int) ∧ rd xs (i : Int) < 8 := by
  rw [List.any_eq_false] at h
  have := h xs[i] (List.getElem_mem hi)
  unfold rd
  rw [Int.toNat_natCast, List.getD_eq_getElem?_getD, List.getElem?_eq_getElem hi]
  unfold oddB at this
  simp at this
  simpa using this

theorem ck_any {ep : Int} {xs : List Int} (h : ckI ep xs = 0) : xs.any oddB = false := by
  unfold ckI mayB at h
  cases e : xs.any oddB
  · rfl
  · rw [e] at h; simp at h

theorem set_any {xs : List Int} (h : xs.any oddB = false) (s : Nat) (n : Int) (hn : oddB n = false) : (xs.set s n).any oddB = false := by
  rw [List.any_eq_false] at *
  intro x hx
  rcases List.mem_or_eq_of_mem_set hx with h1 | rfl
  · exact h x h1
  · simp [hn]

theorem ck_done {ep : Int} {xs : List Int} (h : ckI ep xs = 0) (he : ep < 1099511627776) (s : Nat) (n : Int) (hs : s < xs.length) (h0 : 0 ≤ n) (h8 : n < 8) : ckI (ep + 1) (doneN xs s n) = 0 := by
  have b := ck_bounds h
  rw [doneN_set xs s n hs]
  exact (ck_yes (by rw [List.length_set]; omega) (set_any (ck_any h) s n (odd_no (by omega) (by omega)))).symm

/-- Nodes of which the first p are the others' already. -/
def mix (xs ys : List Int) (p : Nat) : List Int := ys.take p ++ xs.drop p

theorem mix_length (xs ys : List Int) (p : Nat) (hl : xs.length = ys.length) (hp : p ≤ xs.length) : (mix xs ys p).length = xs.length := by
  unfold mix; simp; omega

theorem mix_zero (xs ys : List Int) : mix xs ys 0 = xs := by simp [mix]
theorem mix_end (xs ys : List Int) (hl : xs.length = ys.length) : mix xs ys xs.length = ys := by simp [mix, hl]

theorem mix_succ (xs ys : List Int) (p : Nat) (hl : xs.length = ys.length) (hp : p < xs.length) : mix xs ys (p + 1) = (mix xs ys p).set p (ys.getD p 0) := by
  apply List.ext_getElem?
  intro i
  unfold mix
  rw [List.getElem?_set]
  have e1 : (ys.take p).length = p := by rw [List.length_take]; omega
  have e2 : (ys.take (p + 1)).length = p + 1 := by rw [List.length_take]; omega
  have hy : p < ys.length := by omega
  by_cases h : p = i
  · subst h
    rw [if_pos rfl, if_pos (by simp; omega), List.getElem?_append_left (by omega), List.getElem?_take_of_lt (by omega), List.getD_eq_getElem?_getD, List.getElem?_eq_getElem hy]
    rfl
  · rw [if_neg h]
    rcases Nat.lt_or_ge i p with h1 | h1
    · rw [List.getElem?_append_left (by omega), List.getElem?_append_left (by omega), List.getElem?_take_of_lt (by omega), List.getElem?_take_of_lt (by omega)]
    · rw [List.getElem?_append_right (by omega), List.getElem?_append_right (by omega), e1, e2, List.getElem?_drop, List.getElem?_drop]
      congr 1; omega

theorem mix_at (xs ys : List Int) (p : Nat) (hl : xs.length = ys.length) (hp : p < xs.length) : rd (mix xs ys p) (p : Int) = xs.getD p 0 := by
  unfold rd mix
  have e1 : (ys.take p).length = p := by rw [List.length_take]; omega
  rw [Int.toNat_natCast, List.getD_eq_getElem?_getD, List.getElem?_append_right (by omega), e1, List.getElem?_drop, List.getD_eq_getElem?_getD]
  simp

theorem mix_same (xs ys : List Int) (p : Nat) (hl : xs.length = ys.length) (hp : p < xs.length) (h : xs.getD p 0 = ys.getD p 0) : mix xs ys (p + 1) = mix xs ys p := by
  rw [mix_succ xs ys p hl hp, ← h]
  have h1 := mix_at xs ys p hl hp
  unfold rd at h1
  rw [Int.toNat_natCast] at h1
  have hlen := mix_length xs ys p hl (by omega)
  rw [← h1, List.getD_eq_getElem?_getD, List.getElem?_eq_getElem (by omega)]
  exact List.set_getElem_self _

theorem next_move (xs ys : List Int) (hl : xs.length = ys.length) : ∀ (d p : Nat), p + d = xs.length →
    (Pl.mvF xs ys d p = [] ∧ mix xs ys p = ys) ∨
    ∃ q d', p ≤ q ∧ q + d' + 1 = xs.length ∧ Pl.mvF xs ys d p = ⟨(q : Int), xs.getD q 0, ys.getD q 0⟩ :: Pl.mvF xs ys d' (q + 1) ∧ mix xs ys p = mix xs ys q ∧ xs.getD q 0 ≠ ys.getD q 0
  | 0, p, h => .inl ⟨rfl, by rw [show p = xs.length by omega]; exact mix_end xs ys hl⟩
  | d + 1, p, h => by
    by_cases e : xs.getD p 0 = ys.getD p 0
    · rcases next_move xs ys hl d (p + 1) (by omega) with ⟨h1, h2⟩ | ⟨q, d', h1, h2, h3, h4, h5⟩
      · exact .inl ⟨by rw [Pl.mvF, if_pos e]; exact h1, by rw [← mix_same xs ys p hl (by omega) e]; exact h2⟩
      · exact .inr ⟨q, d', by omega, h2, by rw [Pl.mvF, if_pos e]; exact h3, by rw [← mix_same xs ys p hl (by omega) e]; exact h4, h5⟩
    · exact .inr ⟨p, d, Nat.le_refl _, by omega, by rw [Pl.mvF, if_neg e], rfl, e⟩

/-- What the list of moves says of its next one. -/
theorem drop_next {L : List S52} {i : Nat} {m : S52} {R : List S52} (h : L.drop i = m :: R) : i < L.length ∧ PChartPlans.rd_T52 L (i : Int) = m ∧ L.drop (i + 1) = R := by
  have hi : i < L.length := by
    rcases Nat.lt_or_ge i L.length with h1 | h1
    · exact h1
    · rw [List.drop_of_length_le h1] at h; cases h
  rw [List.drop_eq_getElem_cons hi] at h
  injection h with h1 h2
  refine ⟨hi, ?_, h2⟩
  unfold PChartPlans.rd_T52
  rw [Int.toNat_natCast, List.getD_eq_getElem?_getD, List.getElem?_eq_getElem hi]
  exact h1

theorem mv_self (ys : List Int) : ∀ d p, Pl.mvF ys ys d p = []
  | 0, _ => rfl
  | d + 1, p => by rw [Pl.mvF, if_pos rfl]; exact mv_self ys d (p + 1)

/-- What is readable stays so where one block alone is written that it does not lie in. -/
theorem C_keep {α : Type} {d : Kd α} {w wr : World} {g n : Nat} {A : Option Addr} {xs : List α} (hK : ∀ x cs, d.K w x cs → d.K wr x cs) (h : d.C w A n xs) (hk : KeepBut w wr g none) (hA : ∀ a, A = some a → a.block ≠ g) : d.C wr A n xs :=
  ⟨h.1, h.2.1, fun hn => by
    obtain ⟨ad, e, hc⟩ := h.2.2 hn
    refine ⟨ad, e, fun j p hj => ?_⟩
    obtain ⟨c, hs, hr, hcell⟩ := hc j p hj
    refine ⟨c, hs, hK _ _ hr, fun i u hu => keep_cell hk (hcell i u hu) ?_⟩
    rw [show (ad.add (j * d.sz + i)).block = ad.block by unfold Addr.add; split <;> rfl]
    exact hA ad e⟩
theorem C_lt {w : World} {A : Option Addr} {n : Nat} {xs : List Int} (h : Kd.C (Kd.int .i64) w A n xs) (hn : 0 < n) : ∀ a, A = some a → a.block < w.heap.size := by
  intro a ha
  obtain ⟨ad, e, hc⟩ := at_nat h 0 hn
  rw [ha] at e
  cases e
  have := World.block_lt_of_cell? w _ hc
  rw [show (a.add 0).block = a.block by unfold Addr.add; split <;> rfl] at this
  exact this
theorem add_block (ad : Addr) (k : Nat) : (ad.add k).block = ad.block := by unfold Addr.add; split <;> rfl

/-- What Done gave, boxed behind the call or ahead of it. -/
structure Boxed (wr wc : World) (ep : Int) (xs : List Int) (g2 : Nat) : Prop where
  ex : ∃ A c, wc.heap[g2]? = some (.cells #[.int .i64 ep, .slice A xs.length c] 24 (0, 0)) ∧ xs.length ≤ c ∧ Kd.C (Kd.int .i64) wc A xs.length xs ∧ ∀ a, A = some a → wr.heap.size ≤ a.block
  le : wr.heap.size ≤ g2
  below : Below wr.heap.size wr wc

theorem boxed_after {wr w9 : World} {ep : Int} {xs : List Int} {A : Option Addr} {c : Nat} (hb : Below wr.drew.heap.size wr.drew w9) (hc : xs.length ≤ c) (hC : Kd.C (Kd.int .i64) w9 A xs.length xs) (hA : ∀ a, A = some a → wr.drew.heap.size ≤ a.block) :
    Boxed wr (w9.alloc (.cells #[.int .i64 ep, .slice A xs.length c] 24)) ep xs w9.heap.size :=
  ⟨⟨A, c, blk_new _ _, hc, Kd.C_alloc hC _, hA⟩, hb.size, below_alloc (show Below wr.heap.size wr w9 from ⟨hb.os, hb.tape, hb.output, hb.size, hb.block⟩) _⟩

theorem boxed_ahead {wr w9 : World} {z : Obj} {ep : Int} {xs : List Int} {A : Option Addr} {c : Nat} (hz : ∃ u v, z = .cells #[u, v] 24 (0, 0)) (hb : Below (wr.alloc z).drew.heap.size (wr.alloc z).drew w9) (hc : xs.length ≤ c) (hC : Kd.C (Kd.int .i64) w9 A xs.length xs) (hA : ∀ a, A = some a → (wr.alloc z).drew.heap.size ≤ a.block) :
    Boxed wr ((w9.setCell ⟨wr.heap.size, 0, none⟩ (.int .i64 ep)).setCell ⟨wr.heap.size, 1, none⟩ (.slice A xs.length c)) ep xs wr.heap.size := by
  obtain ⟨u, v, rfl⟩ := hz
  have h0 : w9.heap[wr.heap.size]? = some (.cells #[u, v] 24 (0, 0)) := (hb.block wr.heap.size (by simp)).trans (blk_new wr _)
  have hb' : Below wr.heap.size wr w9 := by
    have h1 : Below wr.heap.size wr (wr.alloc (.cells #[u, v] 24 (0, 0))).drew := below_drew1 (below_alloc (Below.refl _ _) _)
    exact below_step h1 hb
  have hk : KeepBut w9 ((w9.setCell ⟨wr.heap.size, 0, none⟩ (.int .i64 ep)).setCell ⟨wr.heap.size, 1, none⟩ (.slice A xs.length c)) wr.heap.size none := KeepBut.set_ (KeepBut.set_ (KeepBut.refl _ _ _) _ _) _ _
  have hA' : ∀ a, A = some a → wr.heap.size + 1 ≤ a.block := fun a ha => by have := hA a ha; simp at this; omega
  have hC' : Kd.C (Kd.int .i64) ((w9.setCell ⟨wr.heap.size, 0, none⟩ (.int .i64 ep)).setCell ⟨wr.heap.size, 1, none⟩ (.slice A xs.length c)) A xs.length xs :=
    C_keep (w := w9) (g := wr.heap.size) (fun _ _ h => h) hC hk (fun a ha => by have := hA' a ha; omega)
  exact ⟨⟨A, c, by simpa using blk_set (blk_set h0 0 (.int .i64 ep)) 1 (.slice A xs.length c), hc, hC', fun a ha => by have := hA' a ha; omega⟩, Nat.le_refl _, below_set (below_set hb' (Nat.le_refl _)) (Nat.le_refl _)⟩

end Go.Proofs.YthnonapfkobdcaaDoor.Ch
