/- Several texts in one: Hc, Bs. -/
import Derived.Test.YtealiaafdkhonaaVa1
import Derived.Sort.Grow
import Derived.Test.YtealiaafdkhonaaLk1
import Derived.Deep.RegionLawGrows
namespace Go.Proofs.Ytealiaafdkhonaa.Vp
open Go.RowKit Go.Sort Go.Proofs.YtealiaafdkhonaaW.PrintWords Go.Proofs.YtealiaafdkhonaaW.PrintLast Go.Proofs.YtealiaafdkhonaaW.PrintMore
set_option linter.unusedVariables false
set_option linter.unusedSimpArgs false
noncomputable def hc1.T : Bool × List (List Nat × List Nat) := rtab .any (opsOf Try.f47 1)
def hc1.B : List Nat := [0, 1, 0, 4, 15, 0, 32, 0, 128, 511, 1023, 2047, 4095]
theorem hc1.tab : rtab .any (opsOf Try.f47 1) = hc1.T := rfl
theorem hc1.bits : waitsOk hc1.T.2 hc1.B = true := by kernel_rfl

theorem world_grow (W : World) (X Y Z : Obj) : (((W.alloc X).alloc Y).drew).alloc Z = grow (W.drewN 1) #[X, Y, Z] := by
  rw [alloc_eq_grow, alloc_eq_grow, alloc_eq_grow]
  show grow (grow (grow (W.drewN 1) _) _) _ = _
  rw [grow_grow, grow_grow]
  rfl
def orI (x y : Int) : Int := if x = 0 then y else x
theorem compare_calls (x y : Int) (W : World) : Calls Try.prog 49 #[.int .i64 x, .int .i64 y] W fun e w' => e = .returned (.int .i64 (Lib.compareInt x y)) ∧ w' = W := AnyG.cmp_Compare_int Try.cmpInt x y W
theorem compare_calls2 (x y : Int) (W : World) : Calls Try.prog 49 #[.int .i64 x, .int .i64 y] W fun e w' => e = .returned (.int .i64 (Lib.compareInt x y)) ∧ W = w' := (compare_calls x y W).mono fun _ _ h => ⟨h.1, h.2.symm⟩
set_option maxHeartbeats 400000 in
theorem or_calls (g : Nat) (c : Nat) (x y : Int) (W : World) (h0 : W.cell? ⟨g, 0, none⟩ = some (.int .i64 x)) (h1 : W.cell? ⟨g, 1, none⟩ = some (.int .i64 y)) :
    Calls Try.prog 48 #[.slice (some ⟨g, 0, none⟩) 2 c] W fun e w' => e = .returned (.int .i64 (orI x y)) ∧ W = w' := by
  by_cases hx : x = 0
  · subst hx
    rw [show orI 0 y = y from rfl]
    by_cases hy : y = 0
    · subst hy
      go_enter Try.func48, Try.ntmps48
      go_wp2
      refine wp_loop_rounds 3 ?_
      rw [rounds_succ]
      go_wp2
      rw [rounds_succ]
      go_wp2
      rw [rounds_succ]
      go_wp2
      go_ret
      exact ⟨rfl, rfl⟩
    · have g1 : (y != 0) = true := by rw [bne_iff_ne]; exact hy
      clear hy
      go_enter Try.func48, Try.ntmps48
      go_wp2
      refine wp_loop_rounds 2 ?_
      rw [rounds_succ]
      go_wp2
      rw [rounds_succ]
      go_wp2
      go_ret
      exact ⟨rfl, rfl⟩
  · have g1 : (x != 0) = true := by rw [bne_iff_ne]; exact hx
    rw [show orI x y = x from if_neg hx]
    clear hx
    go_enter Try.func48, Try.ntmps48
    go_wp2
    refine wp_loop_rounds 1 ?_
    rw [rounds_succ]
    go_wp2
    go_ret
    exact ⟨rfl, rfl⟩

/-- What the closure tells of two places. -/
def cf (x y : Int × Int) : Int := orI (Lib.compareInt x.2 y.2) (Lib.compareInt x.1 y.1)
/-- Hits by how far, then by number. -/
def hlt (x y : Int × Int) : Bool := decide (x.2 < y.2 ∨ x.2 = y.2 ∧ x.1 < y.1)
theorem cf_lt (x y : Int × Int) : decide (cf x y < 0) = hlt x y := by
  unfold cf orI hlt Lib.compareInt
  by_cases h1 : x.2 < y.2
  · simp [h1]
  · by_cases h2 : y.2 < x.2
    · simp [h1, h2]; omega
    · have e : x.2 = y.2 := by omega
      by_cases h3 : x.1 < y.1
      · simp [e, h3]
      · by_cases h4 : y.1 < x.1 <;> simp [e, h3, h4]

set_option maxHeartbeats 1000000 in
set_option maxRecDepth 100000 in
theorem cmp_calls (x y : Int × Int) (W : World) : Calls Try.prog 47 #[.agg #[.int .i64 x.1, .int .i64 x.2], .agg #[.int .i64 y.1, .int .i64 y.2]] W fun e w' => e = .returned (.int .i64 (cf x y)) ∧ ∃ q os', w' = grow (W.drewN q) os' := by
  go_enter Try.func47, Try.ntmps47
  go_wp2_with fail
  have c0 : ((W.alloc (.cells #[.int .i64 x.1, .int .i64 x.2] 49)).alloc (.cells #[.int .i64 y.1, .int .i64 y.2] 49)).drew.cell? ⟨W.heap.size, 0, none⟩ = some (.int .i64 x.1) := by go_simp
  have c1 : ((W.alloc (.cells #[.int .i64 x.1, .int .i64 x.2] 49)).alloc (.cells #[.int .i64 y.1, .int .i64 y.2] 49)).drew.cell? ⟨W.heap.size + 1, 0, none⟩ = some (.int .i64 y.1) := by go_simp
  have c2 : ((W.alloc (.cells #[.int .i64 x.1, .int .i64 x.2] 49)).alloc (.cells #[.int .i64 y.1, .int .i64 y.2] 49)).drew.cell? ⟨W.heap.size, 1, none⟩ = some (.int .i64 x.2) := by go_simp
  have c3 : ((W.alloc (.cells #[.int .i64 x.1, .int .i64 x.2] 49)).alloc (.cells #[.int .i64 y.1, .int .i64 y.2] 49)).drew.cell? ⟨W.heap.size + 1, 1, none⟩ = some (.int .i64 y.2) := by go_simp
  refine start_ (n := 13) (S := fun w' => w'.cell? ⟨W.heap.size, 0, none⟩ = some (.int .i64 x.1) ∧ w'.cell? ⟨W.heap.size + 1, 0, none⟩ = some (.int .i64 y.1) ∧ w'.cell? ⟨W.heap.size, 1, none⟩ = some (.int .i64 x.2) ∧ w'.cell? ⟨W.heap.size + 1, 1, none⟩ = some (.int .i64 y.2)) (ds := []) #[false, false, false, false, false, false, false, false, false, false, false, false, false] (by kernel_rfl) rfl rfl ⟨c0, c1, c2, c3⟩ (fun hHeld => ?_)
  refine with_tabW hc1.tab hc1.bits (fun HT_ HW_ => ?_)
  generalize hwD : ((W.alloc (.cells #[.int .i64 x.1, .int .i64 x.2] 49)).alloc (.cells #[.int .i64 y.1, .int .i64 y.2] 49)).drew = wD at *
  have HWD := Aside0.mk hwD
  clear hwD
  refine pure_ (i := 0) (N := some 5) (v := ?_) (a' := ?_) #[true, false, false, false, false, false, false, false, false, false, false, false, false] rfl rfl (any_of HT_.out (by kernel_rfl)) (fun _ _ _ h => h) (Or.inl ⟨by rfl, ?_⟩) ?_ ?_
  rotate_left
  · intro w'
    go_simp
    with_reducible rfl
  rotate_left
  · simp only [Act.put, List.setIfInBounds_toArray, List.set_cons_zero, List.set_cons_succ, i64_w, i32_w]
    rfl
  refine pure_ (i := 2) (N := some 7) (v := ?_) (a' := ?_) #[true, false, true, false, false, false, false, false, false, false, false, false, false] rfl rfl (any_of HT_.out (by kernel_rfl)) (fun _ _ _ h => h) (Or.inl ⟨by rfl, ?_⟩) ?_ ?_
  rotate_left
  · intro w'
    go_simp
    with_reducible rfl
  rotate_left
  · simp only [Act.put, List.setIfInBounds_toArray, List.set_cons_zero, List.set_cons_succ, i64_w, i32_w]
    rfl
  refine pure_ (i := 5) (N := some 10) (v := ?_) (a' := ?_) #[true, false, true, false, false, true, false, false, false, false, false, false, false] rfl rfl (any_of HT_.out (by kernel_rfl)) (fun _ _ _ h => h) (Or.inl ⟨by rfl, ?_⟩) ?_ ?_
  rotate_left
  · intro w'
    go_simp
    with_reducible rfl
  rotate_left
  · simp only [Act.put, List.setIfInBounds_toArray, List.set_cons_zero, List.set_cons_succ, i64_w, i32_w]
    rfl
  refine pure_ (i := 7) (N := some 12) (v := ?_) (a' := ?_) #[true, false, true, false, false, true, false, true, false, false, false, false, false] rfl rfl (any_of HT_.out (by kernel_rfl)) (fun _ _ _ h => h) (Or.inl ⟨by rfl, ?_⟩) ?_ ?_
  rotate_left
  · intro w'
    go_simp
    with_reducible rfl
  rotate_left
  · simp only [Act.put, List.setIfInBounds_toArray, List.set_cons_zero, List.set_cons_succ, i64_w, i32_w]
    rfl
  refine take_ (i := 1) (N := some 6) (v := ?_) (a' := ?_) #[true, true, true, false, false, true, false, true, false, false, false, false, false] rfl rfl (take_ofW HT_.out HW_.out (by kernel_rfl)) (fun _ _ _ h => h) (Or.inl ⟨by rfl, ?_⟩) hHeld ?_ ?_
  rotate_left
  · rintro w' ⟨s0, s1, s2, s3⟩
    go_simp
    with_reducible rfl
  rotate_left
  · simp only [Act.put, List.setIfInBounds_toArray, List.set_cons_zero, List.set_cons_succ, i64_w, i32_w]
    rfl
  refine take_ (i := 3) (N := some 8) (v := ?_) (a' := ?_) #[true, true, true, true, false, true, false, true, false, false, false, false, false] rfl rfl (take_ofW HT_.out HW_.out (by kernel_rfl)) (fun _ _ _ h => h) (Or.inl ⟨by rfl, ?_⟩) hHeld ?_ ?_
  rotate_left
  · rintro w' ⟨s0, s1, s2, s3⟩
    go_simp
    with_reducible rfl
  rotate_left
  · simp only [Act.put, List.setIfInBounds_toArray, List.set_cons_zero, List.set_cons_succ, i64_w, i32_w]
    rfl
  refine take_ (i := 6) (N := some 11) (v := ?_) (a' := ?_) #[true, true, true, true, false, true, true, true, false, false, false, false, false] rfl rfl (take_ofW HT_.out HW_.out (by kernel_rfl)) (fun _ _ _ h => h) (Or.inl ⟨by rfl, ?_⟩) hHeld ?_ ?_
  rotate_left
  · rintro w' ⟨s0, s1, s2, s3⟩
    go_simp
    with_reducible rfl
  rotate_left
  · simp only [Act.put, List.setIfInBounds_toArray, List.set_cons_zero, List.set_cons_succ, i64_w, i32_w]
    rfl
  refine take_ (i := 8) (N := some 13) (v := ?_) (a' := ?_) #[true, true, true, true, false, true, true, true, true, false, false, false, false] rfl rfl (take_ofW HT_.out HW_.out (by kernel_rfl)) (fun _ _ _ h => h) (Or.inl ⟨by rfl, ?_⟩) hHeld ?_ ?_
  rotate_left
  · rintro w' ⟨s0, s1, s2, s3⟩
    go_simp
    with_reducible rfl
  rotate_left
  · simp only [Act.put, List.setIfInBounds_toArray, List.set_cons_zero, List.set_cons_succ, i64_w, i32_w]
    rfl
  refine one_ (i := 4) (N := some 9) #[true, true, true, true, true, true, true, true, true, false, false, false, false] rfl rfl (one_of HT_.out (by kernel_rfl)) (by decide) (fun K hK => ?_)
  refine goes_ Try.func49 (by kernel_rfl) rfl #[.int .i64 x.2, .int .i64 y.2] (by rfl) rfl rfl (by (try simp only [List.map_toArray, List.map_cons, List.map_nil]); first | done | rfl) ?_
  refine (compare_calls2 _ _ _).mono ?_
  rintro e w9 ⟨rfl, rfl⟩
  refine ⟨_, rfl, ?_⟩
  refine hK.out _ _ hHeld (fun hH2 => ?_)
  clear hHeld
  have hHeld := hH2
  clear hH2
  clear hK K
  refine norm_ (a' := ?_) ?_ ?_
  rotate_left
  · simp only [Act.put, List.setIfInBounds_toArray, List.set_cons_zero, List.set_cons_succ, i64_w, i32_w]
    rfl
  refine one_ (i := 9) (N := some 14) #[true, true, true, true, true, true, true, true, true, true, false, false, false] rfl rfl (one_of HT_.out (by kernel_rfl)) (by decide) (fun K hK => ?_)
  refine goes_ Try.func49 (by kernel_rfl) rfl #[.int .i64 x.1, .int .i64 y.1] (by rfl) rfl rfl (by (try simp only [List.map_toArray, List.map_cons, List.map_nil]); first | done | rfl) ?_
  refine (compare_calls2 _ _ _).mono ?_
  rintro e w9 ⟨rfl, rfl⟩
  refine ⟨_, rfl, ?_⟩
  refine hK.out _ _ hHeld (fun hH2 => ?_)
  clear hHeld
  have hHeld := hH2
  clear hH2
  clear hK K
  refine norm_ (a' := ?_) ?_ ?_
  rotate_left
  · simp only [Act.put, List.setIfInBounds_toArray, List.set_cons_zero, List.set_cons_succ, i64_w, i32_w]
    rfl
  refine one_ (i := 10) (N := some 15) #[true, true, true, true, true, true, true, true, true, true, true, false, false] rfl rfl (one_of HT_.out (by kernel_rfl)) (by decide) (fun K hK => ?_)
  refine value_ (w1 := ?_) (v := ?_) (by rfl) rfl ?_ ?_
  rotate_left 2
  · go_simp
    constructor
    · rfl
    · rfl
  have hbA := below_alloc (Below.refl wD.heap.size wD) (.cells #[.int .i64 (Lib.compareInt x.2 y.2), .int .i64 (Lib.compareInt x.1 y.1)] 3)
  refine hK.out _ _ ⟨pw_cell_below hbA hHeld.1, pw_cell_below hbA hHeld.2.1, pw_cell_below hbA hHeld.2.2.1, pw_cell_below hbA hHeld.2.2.2⟩ (fun hH2 => ?_)
  clear hHeld
  have hHeld := hH2
  clear hH2 hK K
  refine norm_ (a' := ?_) ?_ ?_
  rotate_left
  · simp only [Act.put, List.setIfInBounds_toArray, List.set_cons_zero, List.set_cons_succ, i64_w, i32_w]
    rfl
  refine one_ (i := 11) (N := some 16) #[true, true, true, true, true, true, true, true, true, true, true, true, false] rfl rfl (one_of HT_.out (by kernel_rfl)) (by decide) (fun K hK => ?_)
  refine goes_ Try.func48 (by kernel_rfl) rfl #[.slice (some ⟨wD.heap.size, 0, none⟩) 2 2] (by rfl) rfl rfl (by (try simp only [List.map_toArray, List.map_cons, List.map_nil]); first | done | rfl) ?_
  refine (or_calls wD.heap.size 2 (Lib.compareInt x.2 y.2) (Lib.compareInt x.1 y.1) _ (by go_simp) (by go_simp)).mono ?_
  rintro e w9 ⟨rfl, rfl⟩
  refine ⟨_, rfl, ?_⟩
  refine hK.out _ _ hHeld (fun hH2 => ?_)
  clear hHeld
  have hHeld := hH2
  clear hH2
  clear hK K
  refine norm_ (a' := ?_) ?_ ?_
  rotate_left
  · simp only [Act.put, List.setIfInBounds_toArray, List.set_cons_zero, List.set_cons_succ, i64_w, i32_w]
    rfl
  refine pure_ (i := 12) (N := some 4) (v := ?_) (a' := ?_) #[true, true, true, true, true, true, true, true, true, true, true, true, true] rfl rfl (any_of HT_.out (by kernel_rfl)) (fun _ _ _ h => h) (Or.inl ⟨by rfl, ?_⟩) ?_ ?_
  rotate_left
  · intro w'
    go_simp
    with_reducible rfl
  rotate_left
  · simp only [Act.put, List.setIfInBounds_toArray, List.set_cons_zero, List.set_cons_succ, i64_w, i32_w]
    rfl
  refine done_ (done_of HT_.out (by kernel_rfl)) ?_
  go_wp2_with fail
  go_ret
  exact ⟨rfl, 1, _, by rw [← HWD.out]; exact world_grow _ _ _ _⟩
end Go.Proofs.Ytealiaafdkhonaa.Vp

namespace Go.Proofs.Ytealiaafdkhonaa.Vp
open Go.RowKit Go.Sort Go.Proofs.YtealiaafdkhonaaW.PrintWords Go.Proofs.YtealiaafdkhonaaW.PrintLast Go.Proofs.YtealiaafdkhonaaW.PrintMore
set_option linter.unusedVariables false
set_option linter.unusedSimpArgs false

def P2 (x : Int × Int) (cs : List Value) : Prop := cs = [.int .i64 x.1, .int .i64 x.2]
theorem at_two {W : World} {A : Option Addr} {l : List (Int × Int)} (h : ReadsRow P2 2 W A l.length l) (k : Nat) (hk : k < l.length) : ∃ ad, A = some ad ∧ W.cell? (ad.add (k * 2)) = some (.int .i64 l[k].1) ∧ W.cell? ⟨(ad.add (k * 2)).block, (ad.add (k * 2)).off + 1, none⟩ = some (.int .i64 l[k].2) := by
  obtain ⟨ad, e, hc⟩ := h.2.2 (by omega)
  obtain ⟨c, _, rfl, hx⟩ := hc k _ (List.getElem?_eq_getElem hk)
  exact ⟨ad, e, hx 0 _ rfl, by have := hx 1 _ rfl; rw [← Addr.add_add] at this; exact this⟩
theorem below_grow (w : World) (k : Nat) (os : Array Obj) : Below w.heap.size w (Sort.grow (w.drewN k) os) :=
  ⟨rfl, rfl, rfl, by simp [Sort.grow], fun i hi => Sort.heap_grow_old (w.drewN k) os hi⟩
theorem cmp_below (x y : Int × Int) (W : World) : Calls Try.prog 47 #[.agg #[.int .i64 x.1, .int .i64 x.2], .agg #[.int .i64 y.1, .int .i64 y.2]] W fun e w' => e = .returned (.int .i64 (cf x y)) ∧ Below W.heap.size W w' :=
  (cmp_calls x y W).mono fun _ _ ⟨h, q, os, hw⟩ => ⟨h, by rw [hw]; exact below_grow _ _ _⟩
theorem cf_neg (x y : Int × Int) : cf x y < 0 ↔ hlt x y = true := by rw [← cf_lt]; simp
theorem hlt_trans {x y z : Int × Int} (h1 : hlt x y = true) (h2 : hlt y z = true) : hlt x z = true := by
  unfold hlt at *; simp at *; omega
theorem hle_lt {x y z : Int × Int} (h1 : hlt y x = false) (h2 : hlt y z = true) : hlt x z = true := by
  unfold hlt at *; simp at *; omega
structure Found (l : List (Int × Int)) (t : Int × Int) (W : World) (e : Ending) (w' : World) : Prop where
  ex : ∃ (i : Nat) (b : Bool), e = .returned (.tuple #[.int .i64 i, .bool b]) ∧ i ≤ l.length ∧ (∀ j (hj : j < l.length), j < i → hlt l[j] t = true) ∧ (∀ j (hj : j < l.length), i ≤ j → hlt l[j] t = false)
  below : Below W.heap.size W w'

set_option maxRecDepth 100000 in
set_option maxHeartbeats 2000000 in
theorem search_calls (A : Option Addr) (cap : Nat) (l : List (Int × Int)) (t : Int × Int) (W : World) (hr : ReadsRow P2 2 W A l.length l) (hs : l.Pairwise (fun x y => hlt y x = false)) (hn : l.length ≤ 1000000) :
    Calls Try.prog 46 #[.slice A l.length cap, .agg #[.int .i64 t.1, .int .i64 t.2], .func (.func 47) #[] #[]] W (Found l t W) := by
  have HR := Aside0.mk hr
  have hb0 := below_alloc (Below.refl W.heap.size W) (.cells #[.int .i64 t.1, .int .i64 t.2] 49)
  have HG := Aside0.mk (blk_new W (.cells #[.int .i64 t.1, .int .i64 t.2] 49))
  have HB0 := Aside0.mk hb0
  have HS := Aside0.mk hs
  clear hr hs hb0
  go_enter Try.func46, Try.ntmps46
  go_wp2_with fail
  generalize hW1 : W.alloc (.cells #[.int .i64 t.1, .int .i64 t.2] 49) = W1 at *
  obtain ⟨g, hgg⟩ : ∃ g, W.heap.size = g := ⟨_, rfl⟩
  have HGG := Aside0.mk hgg
  rw [hgg] at HG HB0
  simp only [hgg]
  clear hgg hW1
  go_loopw [9, 10] (fun i j wr => ∃ a b : Nat, i = .int .i64 a ∧ j = .int .i64 b ∧ a ≤ b ∧ b ≤ l.length ∧ Aside0 (∀ j (hj : j < l.length), j < a → hlt l[j] t = true) ∧ Aside0 (∀ j (hj : j < l.length), b ≤ j → hlt l[j] t = false) ∧ Aside0 (Below W1.heap.size W1 wr)) (fun i j _ => (intOf j - intOf i).toNat)
  case atStart => exact ⟨0, l.length, rfl, rfl, by omega, by omega, ⟨fun j hj h => by omega⟩, ⟨fun j hj h => by omega⟩, ⟨Below.refl _ _⟩⟩
  case round =>
    obtain ⟨a, b, rfl, rfl, hab, hbl, H1, H2, HB⟩ := hrel
    have HGR := Aside0.mk (blk_below HG.out HB.out)
    have hbw : Below g W wr := below_then HB0.out (by have := HB0.out.size; rw [HGG.out] at this; exact this) HB.out
    have t0 : wr.cell? ⟨g, 0, none⟩ = some (.int .i64 t.1) := (blk_cell HGR.out 0).trans rfl
    have t1 : wr.cell? ⟨g, 1, none⟩ = some (.int .i64 t.2) := (blk_cell HGR.out 1).trans rfl
    by_cases hlt' : a < b
    · have hlt2 : (a : Int) < (b : Int) := by omega
      obtain ⟨h, hh, hh1, hh2⟩ : ∃ h : Nat, (a + b) / 2 = h ∧ a ≤ h ∧ h < b := ⟨_, rfl, by omega, by omega⟩
      obtain ⟨ad, ea, hx0, hx1⟩ := at_two HR.out h (by omega)
      cases ea
      have hbW : Below W.heap.size W wr := by rw [HGG.out]; exact hbw
      replace hx0 := (hbW.cell (World.block_lt_of_cell? W _ hx0)).trans hx0
      replace hx1 := (hbW.cell (World.block_lt_of_cell? W _ hx1)).trans hx1
      have hcmp := cf_neg l[h] t
      have H1' : Aside0 (hlt l[h] t = true → ∀ j (hj : j < l.length), j < h + 1 → hlt l[j] t = true) := ⟨fun e j hj hj2 => by
        rcases Nat.lt_or_eq_of_le (Nat.lt_succ_iff.1 hj2) with h3 | h3
        · exact hle_lt (List.pairwise_iff_getElem.1 HS.out j h hj (by omega) h3) e
        · subst h3; exact e⟩
      have H2' : Aside0 (hlt l[h] t = false → ∀ j (hj : j < l.length), h ≤ j → hlt l[j] t = false) := ⟨fun e j hj hj2 => by
        rcases Nat.lt_or_eq_of_le hj2 with h3 | h3
        · cases e9 : hlt l[j] t with
          | false => rfl
          | true => have := hle_lt (List.pairwise_iff_getElem.1 HS.out h j (by omega) hj h3) e9; rw [e] at this; cases this
        · subst h3; exact e⟩
      have HCM := Aside0.mk (fun W => cmp_below l[h] t W)
      obtain ⟨r, hrr⟩ : ∃ r, cf l[h] t = r := ⟨_, rfl⟩
      rw [hrr] at hcmp HCM
      obtain ⟨p0, hp0⟩ : ∃ p0, l[h].1 = p0 := ⟨_, rfl⟩
      obtain ⟨p1, hp1⟩ : ∃ p1, l[h].2 = p1 := ⟨_, rfl⟩
      rw [hp0] at hx0 HCM
      rw [hp1] at hx1 HCM
      have HCP := Aside0.mk hcmp
      clear hcmp hrr hp0 hp1 hbW hbw
      obtain ⟨q0, hq0⟩ : ∃ q0, t.1 = q0 := ⟨_, rfl⟩
      obtain ⟨q1, hq1⟩ : ∃ q1, t.2 = q1 := ⟨_, rfl⟩
      rw [hq0] at t0 HCM
      rw [hq1] at t1 HCM
      clear hq0 hq1
      have hmid : ((a : Int) + (b : Int)) / 2 = (h : Int) := by omega
      have hm0 : (0 : Int) ≤ (h : Int) := by omega
      have hm1 : (h : Int) < (l.length : Int) := by omega
      go_upto_region 5 with (fail)
      go_cut [31] (fun v wc => v = .bool (decide (r < 0)) ∧ Aside0 (Below wr.heap.size wr wc))
      case first =>
        go_region_held3 (fun w' => w'.cell? ⟨g, 0, none⟩ = some (.int .i64 q0) ∧ w'.cell? ⟨g, 1, none⟩ = some (.int .i64 q1) ∧ w'.cell? (ad.add (h * 2)) = some (.int .i64 p0) ∧ w'.cell? ⟨(ad.add (h * 2)).block, (ad.add (h * 2)).off + 1, none⟩ = some (.int .i64 p1))
        (first | (go_split_ands; refine ⟨?_, ?_, ?_, ?_⟩ <;> assumption) | (go_split_ands; refine ⟨?_, ?_, ?_, ?_⟩ <;> (refine pw_cell_below hb9 ?_; assumption)) | (go_keep; done))
        ((go_at_call 47; refine (HCM.out _).mono ?_; rintro e w9 ⟨rfl, hb9⟩))
        all_goals (go_wp2_with fail; go_meet; exact ⟨rfl, ⟨below_step (below_drew1 (Below.refl wr.heap.size wr)) hb9⟩⟩)
      case rest =>
        obtain ⟨rfl, HBC⟩ := hcut
        have HBN : Aside0 (Below W1.heap.size W1 wc) := ⟨below_then HB.out HB.out.size HBC.out⟩
        by_cases hc : r < 0
        · have HN := Aside0.mk (H1'.out (HCP.out.1 hc))
          clear H1' H2' HCP
          go_wp2_with fail
          go_roundw
          case rel => exact ⟨h + 1, b, by go_num, rfl, by omega, hbl, HN, H2, HBN⟩
          case measure => simp [intOf]; omega
        · have HN := Aside0.mk (H2'.out (by cases e : hlt l[h] t with
            | false => rfl
            | true => exact absurd (HCP.out.2 e) hc))
          clear H1' H2' HCP
          go_wp2_with fail
          go_roundw
          case rel => exact ⟨a, h, rfl, rfl, hh1, by omega, H1, HN, HBN⟩
          case measure => simp [intOf]; omega
    · have eab : a = b := by omega
      subst eab
      have hlt2 : ¬ (a : Int) < (a : Int) := by omega
      by_cases hal : a < l.length
      · have hal' : (a : Int) < (l.length : Int) := by omega
        have ha0 : (0 : Int) ≤ (a : Int) := by omega
        obtain ⟨ad, ea, hx0, hx1⟩ := at_two HR.out a (by omega)
        cases ea
        have hbW : Below W.heap.size W wr := by rw [HGG.out]; exact hbw
        replace hx0 := (hbW.cell (World.block_lt_of_cell? W _ hx0)).trans hx0
        replace hx1 := (hbW.cell (World.block_lt_of_cell? W _ hx1)).trans hx1
        have HCM := Aside0.mk (fun W => cmp_below l[a] t W)
        obtain ⟨r, hrr⟩ : ∃ r, cf l[a] t = r := ⟨_, rfl⟩
        rw [hrr] at HCM
        obtain ⟨p0, hp0⟩ : ∃ p0, l[a].1 = p0 := ⟨_, rfl⟩
        obtain ⟨p1, hp1⟩ : ∃ p1, l[a].2 = p1 := ⟨_, rfl⟩
        rw [hp0] at hx0 HCM
        rw [hp1] at hx1 HCM
        obtain ⟨q0, hq0⟩ : ∃ q0, t.1 = q0 := ⟨_, rfl⟩
        obtain ⟨q1, hq1⟩ : ∃ q1, t.2 = q1 := ⟨_, rfl⟩
        rw [hq0] at t0 HCM
        rw [hq1] at t1 HCM
        have HF : Aside0 (∀ (b : Bool) w', Below wr.heap.size wr w' → Found l t W (.returned (.tuple #[.int .i64 (a : Int), .bool b])) w') := ⟨fun b w' hb => ⟨⟨a, b, rfl, hbl, H1.out, H2.out⟩, by rw [HGG.out]; exact below_then hbw (by have := hbw.size; rw [HGG.out] at this; exact this) hb⟩⟩
        clear hrr hp0 hp1 hbW hbw hq0 hq1
        go_wp2_with fail
        go_region_held3 (fun w' => w'.cell? ⟨g, 0, none⟩ = some (.int .i64 q0) ∧ w'.cell? ⟨g, 1, none⟩ = some (.int .i64 q1) ∧ w'.cell? (ad.add (a * 2)) = some (.int .i64 p0) ∧ w'.cell? ⟨(ad.add (a * 2)).block, (ad.add (a * 2)).off + 1, none⟩ = some (.int .i64 p1))
          (first | (go_split_ands; refine ⟨?_, ?_, ?_, ?_⟩ <;> assumption) | (go_split_ands; refine ⟨?_, ?_, ?_, ?_⟩ <;> (refine pw_cell_below hb9 ?_; assumption)) | (go_keep; done))
          ((go_at_call 47; refine (HCM.out _).mono ?_; rintro e w9 ⟨rfl, hb9⟩))
        all_goals (go_wp2_with fail; go_ret2; exact HF.out _ _ (below_step (below_drew1 (Below.refl wr.heap.size wr)) hb9))
      · have hal' : ¬ (a : Int) < (l.length : Int) := by omega
        have HF : Aside0 (∀ (b : Bool) w', Below wr.heap.size wr w' → Found l t W (.returned (.tuple #[.int .i64 (a : Int), .bool b])) w') := ⟨fun b w' hb => ⟨⟨a, b, rfl, hbl, H1.out, H2.out⟩, by rw [HGG.out]; exact below_then hbw (by have := hbw.size; rw [HGG.out] at this; exact this) hb⟩⟩
        clear hbw
        go_wp2_with fail
        go_quiet (fail)
        go_wp2_with fail
        go_ret2
        exact HF.out _ _ (pw_below_drewN (Below.refl _ _) _)
end Go.Proofs.Ytealiaafdkhonaa.Vp
