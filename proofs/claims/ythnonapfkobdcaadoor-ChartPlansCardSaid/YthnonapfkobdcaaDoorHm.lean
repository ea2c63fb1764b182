/- A ring in memory: which node has a place. -/
import Derived.Test.YthnonapfkobdcaaDoorSp
import Derived.Test.YthnonapfkobdcaaDoorRg
namespace Go.Proofs.YthnonapfkobdcaaDoor.Ri
open Go.RowKit Cr Rg Go.Proofs.YthnonapfkobdcaaDoorW.PrintWords Go.Proofs.YthnonapfkobdcaaDoorW.PrintLast Go.Proofs.YthnonapfkobdcaaDoorW.PrintMore
set_option linter.unusedVariables false
set_option linter.unusedSimpArgs false

def P2 (x : Int × Int) (cs : List Value) : Prop := cs = [.int .i64 x.1, .int .i64 x.2]
theorem at_two {W : World} {A : Option Addr} {l : List (Int × Int)} (h : ReadsRow P2 2 W A l.length l) (k : Nat) (hk : k < l.length) : ∃ ad, A = some ad ∧ W.cell? (ad.add (k * 2)) = some (.int .i64 l[k].1) ∧ W.cell? ⟨(ad.add (k * 2)).block, (ad.add (k * 2)).off + 1, none⟩ = some (.int .i64 l[k].2) := by
  obtain ⟨ad, e, hc⟩ := h.2.2 (by omega)
  obtain ⟨c, _, rfl, hx⟩ := hc k _ (List.getElem?_eq_getElem hk)
  exact ⟨ad, e, hx 0 _ rfl, by have := hx 1 _ rfl; rw [← Addr.add_add] at this; exact this⟩

theorem compare_calls (x y : Int) (W : World) : Calls Tryd.prog 44 #[.int .i64 x, .int .i64 y] W fun e w' => e = .returned (.int .i64 (Lib.compareInt x y)) ∧ w' = W := AnyG.cmp_Compare_int Tryd.cmpInt x y W

set_option maxHeartbeats 400000 in
theorem home1_calls (a b t : Int) (W : World) : Calls Tryd.prog 47 #[.agg #[.int .i64 a, .int .i64 b], .int .i64 t] W fun e w' => e = .returned (.int .i64 (Lib.compareInt a t)) ∧ Below W.heap.size W w' := by
  go_enter Tryd.func47, Tryd.ntmps47
  go_wp2_with (go_at_call 44; refine (compare_calls _ _ _).mono ?_; rintro e w' ⟨rfl, rfl⟩)
  go_ret
  exact ⟨rfl, below_alloc (Below.refl _ _) _⟩

theorem compare_neg (x y : Int) : (Lib.compareInt x y < 0) ↔ x < y := by
  unfold Lib.compareInt
  split
  · simp; assumption
  · split <;> simp <;> omega

structure Found (l : List (Int × Int)) (t : Int) (W : World) (e : Ending) (w' : World) : Prop where
  ex : ∃ (i : Nat) (b : Bool), e = .returned (.tuple #[.int .i64 i, .bool b]) ∧ i ≤ l.length ∧ (∀ j (hj : j < l.length), j < i → l[j].1 < t) ∧ (∀ j (hj : j < l.length), i ≤ j → t ≤ l[j].1)
  below : Below W.heap.size W w'

set_option maxRecDepth 100000 in
set_option maxHeartbeats 1000000 in
theorem search_calls (A : Option Addr) (cap : Nat) (l : List (Int × Int)) (t : Int) (W : World) (hr : ReadsRow P2 2 W A l.length l) (hs : l.Pairwise le2) (hn : l.length ≤ 1000000) :
    Calls Tryd.prog 46 #[.slice A l.length cap, .int .i64 t, .func (.func 47) #[] #[]] W (Found l t W) := by
  have HR := Aside0.mk hr
  have hle : ∀ a b (ha : a < l.length) (hb : b < l.length), a ≤ b → l[a].1 ≤ l[b].1 := by
    intro a b ha hb hab
    rcases Nat.lt_or_eq_of_le hab with h | h
    · have := List.pairwise_iff_getElem.1 hs a b ha hb h
      unfold le2 at this; omega
    · subst h; exact Int.le_refl _
  have HL := Aside0.mk hle
  clear hr hs hle
  go_enter Tryd.func46, Tryd.ntmps46
  go_wp2_with fail
  go_loopw [9, 10] (fun i j wr => ∃ a b : Nat, i = .int .i64 a ∧ j = .int .i64 b ∧ a ≤ b ∧ b ≤ l.length ∧ Aside0 (∀ j (hj : j < l.length), j < a → l[j].1 < t) ∧ Aside0 (∀ j (hj : j < l.length), b ≤ j → t ≤ l[j].1) ∧ Aside0 (Below W.heap.size W wr)) (fun i j _ => (intOf j - intOf i).toNat)
  case atStart => exact ⟨0, l.length, rfl, rfl, by omega, by omega, ⟨fun j hj h => by omega⟩, ⟨fun j hj h => by omega⟩, ⟨Below.refl _ _⟩⟩
  case round =>
    obtain ⟨a, b, rfl, rfl, hab, hbl, H1, H2, HB⟩ := hrel
    by_cases hlt : a < b
    · have hlt' : (a : Int) < (b : Int) := by omega
      obtain ⟨h, hh, hh1, hh2⟩ : ∃ h : Nat, (a + b) / 2 = h ∧ a ≤ h ∧ h < b := ⟨_, rfl, by omega, by omega⟩
      obtain ⟨ad, ea, hx0, hx1⟩ := at_two HR.out h (by omega)
      cases ea
      replace hx0 := (HB.out.cell (World.block_lt_of_cell? W _ hx0)).trans hx0
      replace hx1 := (HB.out.cell (World.block_lt_of_cell? W _ hx1)).trans hx1
      go_wp2_with fail
      refine (home1_calls _ _ _ _).mono ?_
      rintro e w' ⟨rfl, hbw⟩
      have HBW : Aside0 (Below W.heap.size W w') := ⟨below_then HB.out HB.out.size hbw⟩
      have hcmp := compare_neg l[h].1 t
      generalize Lib.compareInt l[h].1 t = r at *
      clear hbw hx0 hx1
      by_cases hc : l[h].1 < t
      · have hr0 : r < 0 := hcmp.2 hc
        have H1' : Aside0 (∀ j (hj : j < l.length), j < h + 1 → l[j].1 < t) := ⟨fun j hj hj2 => by have := HL.out j h hj (by omega) (by omega); omega⟩
        clear hcmp hc
        go_wp2_with fail
        go_roundw
        case rel => exact ⟨h + 1, b, by rw [show ((h + 1 : Nat) : Int) = ((a : Int) + (b : Int)) / 2 + 1 by omega], rfl, by omega, hbl, H1', H2, HBW⟩
        case measure => simp [intOf]; omega
      · have hr0 : ¬ r < 0 := fun e => hc (hcmp.1 e)
        have H2' : Aside0 (∀ j (hj : j < l.length), h ≤ j → t ≤ l[j].1) := ⟨fun j hj hj2 => by have := HL.out h j (by omega) hj hj2; omega⟩
        clear hcmp hc
        go_wp2_with fail
        go_roundw
        case rel => exact ⟨a, h, rfl, by rw [show ((h : Nat) : Int) = ((a : Int) + (b : Int)) / 2 by omega], hh1, by omega, H1, H2', HBW⟩
        case measure => simp [intOf]; omega
    · have eab : a = b := by omega
      subst eab
      have hlt' : ¬ (a : Int) < (a : Int) := by omega
      by_cases hal : a < l.length
      · have hal' : (a : Int) < (l.length : Int) := by omega
        have ha0 : (0 : Int) ≤ (a : Int) := by omega
        obtain ⟨ad, ea, hx0, hx1⟩ := at_two HR.out a (by omega)
        cases ea
        replace hx0 := (HB.out.cell (World.block_lt_of_cell? W _ hx0)).trans hx0
        replace hx1 := (HB.out.cell (World.block_lt_of_cell? W _ hx1)).trans hx1
        go_wp2_with fail
        refine (home1_calls _ _ _ _).mono ?_
        rintro e w' ⟨rfl, hbw⟩
        have HBW : Aside0 (Below W.heap.size W w') := ⟨below_then HB.out HB.out.size hbw⟩
        generalize Lib.compareInt l[a].1 t = r at *
        clear hbw hx0 hx1
        go_wp2_with fail
        go_ret2
        exact ⟨⟨a, _, rfl, hbl, H1.out, H2.out⟩, HBW.out⟩
      · have hal' : ¬ (a : Int) < (l.length : Int) := by omega
        go_wp2_with fail
        go_ret2
        exact ⟨⟨a, _, rfl, hbl, H1.out, H2.out⟩, HB.out⟩

/-- A ring in memory: made, and its places, sorted. -/
structure RingIs (W : World) (p : Nat) (l : List (Int × Int)) : Prop where
  made : W.cell? ⟨p, 0, none⟩ = some (.bool true)
  row : ∃ A cap, W.cell? ⟨p, 2, none⟩ = some (.slice A l.length cap) ∧ ReadsRow P2 2 W A l.length l
  sorted : l.Pairwise le2
  small : l.length ≤ 1000000
  lt : p < W.heap.size
theorem reads_below {α : Type} {R : α → List Value → Prop} {sz : Nat} {W W' : World} {A : Option Addr} {n : Nat} {l : List α} (h : ReadsRow R sz W A n l) (hb : Below W.heap.size W W') : ReadsRow R sz W' A n l := ReadsRow.imp_ h hb (fun _ _ hp => hp)
theorem RingIs.below {W W' : World} {p : Nat} {l : List (Int × Int)} (h : RingIs W p l) (hb : Below W.heap.size W W') : RingIs W' p l := by
  obtain ⟨A, cap, h1, h2⟩ := h.row
  exact ⟨(hb.cell (p := ⟨p, 0, none⟩) h.lt).trans h.made, ⟨A, cap, (hb.cell (p := ⟨p, 2, none⟩) h.lt).trans h1, reads_below h2 hb⟩, h.sorted, h.small, Nat.lt_of_lt_of_le h.lt hb.size⟩

theorem given_yes {W : World} {p : Nat} (h : W.cell? ⟨p, 0, none⟩ = some (.bool true)) : Calls Tryd.prog 45 #[.pointer (some ⟨p, 0, none⟩)] W fun e w' => e = .returned (.bool true) ∧ W = w' := by
  go_enter Tryd.func45, Tryd.ntmps45
  go_wp2
  go_ret
  exact ⟨rfl, rfl⟩
theorem given_no {W : World} {p : Nat} (h : W.cell? ⟨p, 0, none⟩ = some (.bool false)) : Calls Tryd.prog 45 #[.pointer (some ⟨p, 0, none⟩)] W fun e w' => e = .returned (.bool false) ∧ W = w' := by
  go_enter Tryd.func45, Tryd.ntmps45
  go_wp2
  go_ret
  exact ⟨rfl, rfl⟩
theorem given_nil (W : World) : Calls Tryd.prog 45 #[.pointer none] W fun e w' => e = .returned (.bool false) ∧ W = w' := by
  go_enter Tryd.func45, Tryd.ntmps45
  go_wp2
  go_ret
  exact ⟨rfl, rfl⟩

theorem home_bad {W : World} {p : Nat} {l : List (Int × Int)} (h : RingIs W p l) (t : Int) (hb : t < 0 ∨ 16777216 ≤ t) : Calls Tryd.prog 17 #[.pointer (some ⟨p, 0, none⟩), .int .i64 t] W fun e w' => e = .returned (.tuple #[.int .i64 0, .int .i64 1]) ∧ W = w' := by
  have hm := Aside0.mk h.made
  clear h
  by_cases h1 : t < 0
  · clear hb
    go_enter Tryd.func17, Tryd.ntmps17
    go_wp2_with (go_at_call 45; refine (given_yes hm.out).mono ?_; rintro e w' ⟨rfl, rfl⟩)
    go_ret2
    exact ⟨rfl, rfl⟩
  · have h2 : 16777216 ≤ t := by omega
    clear hb
    go_enter Tryd.func17, Tryd.ntmps17
    go_wp2_with (go_at_call 45; refine (given_yes hm.out).mono ?_; rintro e w' ⟨rfl, rfl⟩)
    go_ret2
    exact ⟨rfl, rfl⟩
theorem home_none {W : World} {p : Nat} (h : RingIs W p []) (t : Int) (h1 : 0 ≤ t) (h2 : t < 16777216) : Calls Tryd.prog 17 #[.pointer (some ⟨p, 0, none⟩), .int .i64 t] W fun e w' => e = .returned (.tuple #[.int .i64 0, .int .i64 3]) ∧ W = w' := by
  have hm := Aside0.mk h.made
  obtain ⟨A, cap, hr, _⟩ := h.row
  change W.cell? ⟨p, 2, none⟩ = some (.slice A 0 cap) at hr
  clear h
  go_enter Tryd.func17, Tryd.ntmps17
  go_wp2_with (go_at_call 45; refine (given_yes hm.out).mono ?_; rintro e w' ⟨rfl, rfl⟩)
  go_ret2
  exact ⟨rfl, rfl⟩
structure HomeDone (l : List (Int × Int)) (t : Int) (W : World) (e : Ending) (w' : World) : Prop where
  ex : ∃ n, e = .returned (.tuple #[.int .i64 n, .int .i64 0]) ∧ IsHome l t n
  below : Below W.heap.size W w'
set_option maxHeartbeats 1000000 in
theorem home_some {W : World} {p : Nat} {l : List (Int × Int)} (h : RingIs W p l) (hl : 0 < l.length) (t : Int) (h1 : 0 ≤ t) (h2 : t < 16777216) : Calls Tryd.prog 17 #[.pointer (some ⟨p, 0, none⟩), .int .i64 t] W (HomeDone l t W) := by
  have hm := Aside0.mk h.made
  obtain ⟨A, cap, hr, hrow⟩ := h.row
  have HR := Aside0.mk hrow
  have HS := Aside0.mk h.sorted
  have hsm := h.small
  have hpl := h.lt
  have hl0 : ((l.length : Int) == 0) = false := by rw [beq_eq_false_iff_ne]; omega
  clear h hrow
  go_enter Tryd.func17, Tryd.ntmps17
  go_wp2_with (go_at_call 45; refine (given_yes hm.out).mono ?_; rintro e w' ⟨rfl, rfl⟩)
  refine (search_calls A cap l t W HR.out HS.out hsm).mono ?_
  rintro e w' ⟨⟨i, b, rfl, hi, k1, k2⟩, hb⟩
  obtain ⟨hm1, hhome⟩ := home_at HS.out hl hi k1 k2
  have HB := Aside0.mk hb
  obtain ⟨m, hmm⟩ : ∃ m, i % l.length = m := ⟨_, rfl⟩
  have hml : m < l.length := by rw [← hmm]; exact hm1
  have HH : Aside0 (IsHome l t (l[m]'hml).2) := ⟨by simp only [hmm] at hhome; exact hhome⟩
  obtain ⟨ad, ea, hx0, hx1⟩ := at_two HR.out m hml
  cases ea
  replace hr := (HB.out.cell (World.block_lt_of_cell? W _ hr)).trans hr
  replace hx1 := (HB.out.cell (World.block_lt_of_cell? W _ hx1)).trans hx1
  have hq : (i : Int).tmod (l.length : Int) = (m : Int) := by rw [← hmm]; rfl
  have hq2 : (i : Int) % (l.length : Int) = (m : Int) := by rw [← hmm]; rfl
  have hm0 : (0 : Int) ≤ (m : Int) := by omega
  have hm2 : (m : Int) < (l.length : Int) := by omega
  have HMM := Aside0.mk hmm
  clear hb k1 k2 hx0 hhome hm1 hmm
  go_wp2_with fail
  go_quiet (fail)
  go_wp2_with fail
  go_ret2
  exact ⟨⟨_, rfl, HH.out⟩, pw_below_drewN HB.out _⟩
end Go.Proofs.YthnonapfkobdcaaDoor.Ri
