/- Several texts in one: Sw, Sy. -/
import Derived.Test.YtealiaafdkhonaaHo1
import Derived.Test.YtealiaafdkhonaaTd1
import Derived.Test.YtealiaafdkhonaaPk1
namespace Go.Proofs.Ytealiaafdkhonaa.Vp
open Go.RowKit Go.Sort Mb Base Go.Proofs.YtealiaafdkhonaaW.PrintWords Go.Proofs.YtealiaafdkhonaaW.PrintLast Go.Proofs.YtealiaafdkhonaaW.PrintMore
set_option linter.unusedVariables false
set_option linter.unusedSimpArgs false
noncomputable def sf7.T : Bool × List (List Nat × List Nat) := rtab .any (opsOf Try.f7 7)
def sf7.B : List Nat := [0, 0, 0, 0, 12, 28, 60, 124, 0, 0, 768, 1792, 3840, 7936, 16380, 32766, 65535]
theorem sf7.tab : rtab .any (opsOf Try.f7 7) = sf7.T := rfl
theorem sf7.bits : waitsOk sf7.T.2 sf7.B = true := by kernel_rfl
noncomputable def sf19.T : Bool × List (List Nat × List Nat) := rtab .any (opsOf Try.f7 19)
def sf19.B : List Nat := [0, 0, 0, 6, 14, 30, 62, 0, 0, 384, 896, 1920, 3968, 8190, 16383, 32767, 65535, 65535, 131071, 524287]
theorem sf19.tab : rtab .any (opsOf Try.f7 19) = sf19.T := rfl
theorem sf19.bits : waitsOk sf19.T.2 sf19.B = true := by kernel_rfl
theorem i64_and255 (n : Int) : bits .and .i64 n 255 = n % 256 := by
  have hm : (BitVec.ofInt 64 255).toNat = 2 ^ 8 - 1 := by decide
  have key : (BitVec.ofInt 64 n &&& BitVec.ofInt 64 255).toNat = (n % ((2 ^ 64 : Nat) : Int)).toNat % 2 ^ 8 := by
    rw [BitVec.toNat_and, BitVec.toNat_ofInt, hm, Nat.and_two_pow_sub_one_eq_mod]
  show IntKind.i64.wrap ((BitVec.ofInt 64 n &&& BitVec.ofInt 64 255).toNat : Nat) = n % 256
  rw [key, IntKind.wrap_i64]
  omega
theorem C_two {W : World} {j : Nat} {x y : Int} (h : W.heap[j]? = some (.cells #[.int .i64 x, .int .i64 y] 3 (0, 0))) : Kd.C (Kd.int .i64) W (some ⟨j, 0, none⟩) [x, y].length [x, y] := by
  have hva : VecAt W W.heap.size (.slice (some ⟨j, 0, none⟩) 2 2) [x, y] := ⟨j, 2, _, rfl, blk_lt h, h, rfl, Nat.le_refl _⟩
  obtain ⟨A', c', e', hC, hb⟩ := hva.form (by show 2 ≤ 9223372036854775807; decide)
  injection e' with e1 _ _
  subst e1
  exact hC
/-- A tree of two numbers that holds L, of the law's own. -/
def Holds (W : World) (b0 g ma : Nat) (L : List (Int × List Int)) : Prop := ∃ mi s, TreeAt W g ma mi s ∧ TSok s ∧ s.L = L ∧ s.dim = 2 ∧ b0 ≤ mi
theorem Holds.below {W W' : World} {b0 g ma : Nat} {L : List (Int × List Int)} (h : Holds W b0 g ma L) (hb : Below W.heap.size W W') : Holds W' b0 g ma L := by
  obtain ⟨mi, s, h1, h2⟩ := h
  exact ⟨mi, s, h1.below hb, h2⟩
structure PutH (W : World) (b0 g ma : Nat) (L : List (Int × List Int)) (e : Ending) (w' : World) : Prop where
  ret : e = .returned (.tuple #[.bool false, .int .i64 0])
  holds : Holds w' b0 g ma L
  below : Below b0 W w'
theorem holds_put {W : World} {b0 g ma : Nat} {l : List (Int × Int)} {i j : Nat} (h : Holds W b0 g ma (rowsL l i)) (hb : b0 ≤ W.heap.size) (h1 : b0 ≤ g) (h2 : b0 ≤ ma) (hi : i ≤ 500) (hj : W.heap[j]? = some (.cells #[.int .i64 ((l.getD i (0, 0)).1 % 256), .int .i64 ((l.getD i (0, 0)).2 % 256)] 3 (0, 0))) :
    Calls Try.prog 15 #[.pointer (some ⟨g, 0, none⟩), .agg #[.int .i64 i, .slice (some ⟨j, 0, none⟩) 2 2]] W (PutH W b0 g ma (rowsL l (i + 1))) := by
  obtain ⟨mi, s, ht, hok, hL, hd, hm⟩ := h
  have hv := at2_ok l i
  have h5 := put_ok W g ma mi s ht hok i (by show decide _ = true; simp [IntKind.wrap]; omega) (some ⟨j, 0, none⟩) 2 (at2 l i) (C_two hj) hv.1 (by rw [hv.2, hd]; rfl) false (by rw [hL, rows_look]; rfl) (.inr (by rw [hL, rows_len]; omega))
  refine h5.mono ?_
  rintro e w' ⟨e1, ⟨mi', s', t1, t2, t3, t4, t5⟩, tu⟩
  refine ⟨e1, ⟨mi', s', t1, t2, ?_, t4.trans hd, by omega⟩, belowB_turns (Below.refl _ _) tu (fun j hj => by rcases hj with rfl | rfl | rfl <;> assumption) hb⟩
  rw [t3, hL, rows_put]
structure MadeH (W : World) (b0 g ma : Nat) (L : List (Int × List Int)) (e : Ending) (w' : World) : Prop where
  ret : e = .returned (.int .i64 0)
  holds : Holds w' b0 g ma L
  below : Below b0 W w'
theorem holds_make {W : World} {b0 g ma : Nat} {L : List (Int × List Int)} (h : Holds W b0 g ma L) (hb : b0 ≤ W.heap.size) (h1 : b0 ≤ g) (h2 : b0 ≤ ma) : Calls Try.prog 18 #[.pointer (some ⟨g, 0, none⟩)] W (MadeH W b0 g ma L) := by
  obtain ⟨mi, s, ht, hok, hL, hd, hm⟩ := h
  refine (make_calls W g ma mi s ht hok).mono ?_
  rintro e w' ⟨e1, ⟨mi', T, t1, t2, t3⟩, tu⟩
  exact ⟨e1, ⟨mi', _, t1, hok.built t2.1 t2.2.1 t2.2.2, hL, hd, by omega⟩, belowB_turns (Below.refl _ _) tu (fun j hj => by rcases hj with rfl | rfl | rfl <;> assumption) hb⟩
structure TopH (W : World) (b0 g ma : Nat) (L : List (Int × List Int)) (m : Nat) (e : Ending) (w' : World) : Prop where
  ex : ∃ A c, e = .returned (.tuple #[.slice A 1 c, .int .i64 0]) ∧ w'.ownsRow W.heap.size 49 2 (.slice A 1 c) 1 (prs [((m : Int), 0)])
  holds : Holds w' b0 g ma L
  below : Below W.heap.size W w'
theorem holds_top {W : World} {b0 g ma n i m j : Nat} {l : List (Int × Int)} {x y : Int} (h : Holds W b0 g ma (rowsL l n)) (ha : at2 l i = [x, y]) (hj : W.heap[j]? = some (.cells #[.int .i64 x, .int .i64 y] 3 (0, 0))) (hi : i < n) (hf : FirstAt l i i m) :
    Calls Try.prog 17 #[.pointer (some ⟨g, 0, none⟩), .slice (some ⟨j, 0, none⟩) 2 2, .int .i64 1, .int .i64 0] W (TopH W b0 g ma (rowsL l n) m) := by
  obtain ⟨mi, s, ht, hok, hL, hd, hm⟩ := h
  have hv := at2_ok l i
  have h1 := top_ok W g ma mi s ht hok (some ⟨j, 0, none⟩) 2 (at2 l i) (by rw [ha]; exact C_two hj) (fun ad e => by cases e; exact blk_lt hj) hv.1 (by rw [hv.2, hd]; rfl) 1 (by omega) (by omega) 0
  rw [hL, self_best hi hf, hv.2] at h1
  refine h1.mono ?_
  rintro e w' ⟨⟨A, c, e1, ho⟩, hb⟩
  exact ⟨⟨A, c, e1, ho⟩, ⟨mi, s, ht.below hb, hok, hL, hd, hm⟩, hb⟩
set_option maxRecDepth 100000 in
set_option maxHeartbeats 4000000 in
theorem self_calls (W : World) (A : Option Addr) (c : Nat) (l : List (Int × Int)) (b : Bool) (hr : ReadsRow P2 2 W A l.length l) (hc : l.length ≤ c) : Calls Try.prog 7 #[.slice A l.length c, .bool b] W (Yes W) := by
  have HR := Aside0.mk hr
  obtain ⟨N, hN⟩ : ∃ N, l.length = N := ⟨_, rfl⟩
  have HN := Aside0.mk hN
  rw [hN] at hc
  rw [hN]
  clear hr hN
  by_cases hlen : (60 : Int) < (N : Int)
  · go_enter Try.func7, Try.ntmps7
    go_wp2_with (first
      | (go_at_call 11; refine (new_calls 2 (by omega) (by omega) _).mono ?_; rintro e w1 ⟨⟨g, ma, mi, rfl, ht, hg1, hg2, hg3⟩, hb⟩; have e25 : ∀ w, (binOp .eql 25 (.pointer (some ⟨g, 0, none⟩)) (.pointer none)).run Try.prog w = .ok (.bool false) w := (fun w => by kernel_rfl); have e25n : ∀ w, (binOp .neq 25 (.pointer (some ⟨g, 0, none⟩)) (.pointer none)).run Try.prog w = .ok (.bool true) w := (fun w => by kernel_rfl); have HB1 := Aside0.mk hb; clear ht hb hg1 hg2 hg3)
      | (go_at_call 12; refine (awake_calls _).mono ?_; rintro e w2 ⟨rfl, hb2⟩; have HB2 := Aside0.mk hb2; clear hb2))
    go_ret
    exact ⟨rfl, below_step HB1.out HB2.out⟩
  · go_enter Try.func7, Try.ntmps7
    go_upto_region 4 with (first
      | (go_at_call 11; refine (new_calls 2 (by omega) (by omega) _).mono ?_; rintro e w1 ⟨⟨g, ma, mi, rfl, ht, hg1, hg2, hg3⟩, hb⟩; have e25 : ∀ w, (binOp .eql 25 (.pointer (some ⟨g, 0, none⟩)) (.pointer none)).run Try.prog w = .ok (.bool false) w := (fun w => by kernel_rfl); have HB1 := Aside0.mk hb; have HT1 := Aside0.mk ht; have HG := Aside0.mk (And.intro hg1 (And.intro hg2 hg3)); clear ht hb hg1 hg2 hg3))
    obtain ⟨b0, hb0⟩ : ∃ b0, W.heap.size = b0 := ⟨_, rfl⟩
    rw [hb0] at HG
    have HB0 := Aside0.mk hb0
    have HH0 : Aside0 (Holds w1 b0 g ma (rowsL l 0)) := ⟨⟨mi, _, HT1.out, TSok.new (dim := 2) (by omega) (by omega), rfl, rfl, HG.out.2.2⟩⟩
    have hN60 : N ≤ 60 := by omega
    have HBB1 : Aside0 (Below b0 W w1) := ⟨by rw [← hb0]; exact HB1.out⟩
    clear hb0
    go_wp2_with fail
    go_loopw [7] (fun z wr => ∃ i : Nat, z = .int .i64 i ∧ i ≤ N ∧ Aside0 (Holds wr b0 g ma (rowsL l i)) ∧ Aside0 (Below b0 W wr)) (fun z _ => N - (intOf z).toNat)
    case atStart => exact ⟨0, rfl, Nat.zero_le _, HH0, HBB1⟩
    case round =>
      obtain ⟨i, rfl, hi, HH, HB⟩ := hrel
      by_cases hlt : i < N
      · have hlt' : (i : Int) < (N : Int) := by omega
        have hi0 : (0 : Int) ≤ (i : Int) := by omega
        go_upto_region 7 with fail
        obtain ⟨ad, e0, r0', r1'⟩ := at_two HR.out i (by have := HN.out; omega)
        subst e0
        obtain ⟨x0, hx0⟩ : ∃ x0, (l[i]'(by have := HN.out; omega)).1 = x0 := ⟨_, rfl⟩
        obtain ⟨y0, hy0⟩ : ∃ y0, (l[i]'(by have := HN.out; omega)).2 = y0 := ⟨_, rfl⟩
        rw [hx0] at r0'
        rw [hy0] at r1'
        have hbd : Below W.heap.size W wr.drew := by rw [HB0.out]; exact HB.out.drew
        have r0 : wr.drew.cell? (ad.add (i * 2)) = some (.int .i64 x0) := pw_cell_below hbd r0'
        have r1 : wr.drew.cell? ⟨(ad.add (i * 2)).block, (ad.add (i * 2)).off + 1, none⟩ = some (.int .i64 y0) := pw_cell_below hbd r1'
        have HGD : Aside0 (l.getD i (0, 0) = (x0, y0)) := ⟨by rw [List.getD_eq_getElem?_getD, List.getElem?_eq_getElem (by have := HN.out; omega)]; exact Prod.ext hx0 hy0⟩
        have q1 := i64_and255 x0
        have q2 := i64_and255 y0
        obtain ⟨x1, hx1⟩ : ∃ x1, x0 % 256 = x1 := ⟨_, rfl⟩
        obtain ⟨y1, hy1⟩ : ∃ y1, y0 % 256 = y1 := ⟨_, rfl⟩
        rw [hx1] at q1
        rw [hy1] at q2
        have HBD : Aside0 (Below b0 W wr.drew) := ⟨HB.out.drew⟩
        have HPUT : Aside0 (Calls Try.prog 15 #[.pointer (some ⟨g, 0, none⟩), .agg #[.int .i64 i, .slice (some ⟨wr.drew.heap.size, 0, none⟩) 2 2]] (wr.drew.alloc (.cells #[.int .i64 x1, .int .i64 y1] 3)) (PutH (wr.drew.alloc (.cells #[.int .i64 x1, .int .i64 y1] 3)) b0 g ma (rowsL l (i + 1)))) := ⟨by
          have hs := HBD.out.size
          have hw0 := HB0.out
          refine holds_put (j := wr.drew.heap.size) ((HH.out.below (below_drew1 (Below.refl _ _))).below (below_alloc (Below.refl _ _) _)) ?_ HG.out.1 HG.out.2.1 (by omega) ?_
          · simp only [World.size_alloc]; omega
          · rw [HGD.out, hx1, hy1]; exact blk_new _ _⟩
        clear hx0 hy0 r0' r1' hbd hx1 hy1
        refine start_ (n := 17) (S := fun w' => w'.cell? (ad.add (i * 2)) = some (.int .i64 x0) ∧ w'.cell? ⟨(ad.add (i * 2)).block, (ad.add (i * 2)).off + 1, none⟩ = some (.int .i64 y0)) (ds := [16]) #[false, false, false, false, false, false, false, false, false, false, false, false, false, false, false, false, false] (by kernel_rfl) rfl rfl ⟨r0, r1⟩ (fun hHeld => ?_)
        refine with_tabW sf7.tab sf7.bits (fun HT_ HW_ => ?_)
        generalize hwE : wr.drew = wE at *
        refine pure_ (i := 0) (N := some 43) (v := ?_) (a' := ?_) #[true, false, false, false, false, false, false, false, false, false, false, false, false, false, false, false, false] rfl rfl (any_of HT_.out (by kernel_rfl)) (fun _ _ _ h => h) (Or.inl ⟨by rfl, ?_⟩) ?_ ?_
        rotate_left
        · intro w'
          go_simp
          with_reducible rfl
        rotate_left
        · simp only [Act.put, List.setIfInBounds_toArray, List.set_cons_zero, List.set_cons_succ, i64_w, i32_w]
          rfl
        refine pure_ (i := 1) (N := some 44) (v := ?_) (a' := ?_) #[true, true, false, false, false, false, false, false, false, false, false, false, false, false, false, false, false] rfl rfl (any_of HT_.out (by kernel_rfl)) (fun _ _ _ h => h) (Or.inl ⟨by rfl, ?_⟩) ?_ ?_
        rotate_left
        · intro w'
          go_simp
          with_reducible rfl
        rotate_left
        · simp only [Act.put, List.setIfInBounds_toArray, List.set_cons_zero, List.set_cons_succ, i64_w, i32_w]
          rfl
        refine pure_ (i := 2) (N := some 45) (v := ?_) (a' := ?_) #[true, true, true, false, false, false, false, false, false, false, false, false, false, false, false, false, false] rfl rfl (any_of HT_.out (by kernel_rfl)) (fun _ _ _ h => h) (Or.inl ⟨by rfl, ?_⟩) ?_ ?_
        rotate_left
        · intro w'
          go_simp
          with_reducible rfl
        rotate_left
        · simp only [Act.put, List.setIfInBounds_toArray, List.set_cons_zero, List.set_cons_succ, i64_w, i32_w]
          rfl
        refine pure_ (i := 3) (N := some 46) (v := ?_) (a' := ?_) #[true, true, true, true, false, false, false, false, false, false, false, false, false, false, false, false, false] rfl rfl (any_of HT_.out (by kernel_rfl)) (fun _ _ _ h => h) (Or.inl ⟨by rfl, ?_⟩) ?_ ?_
        rotate_left
        · intro w'
          go_simp
          with_reducible rfl
        rotate_left
        · simp only [Act.put, List.setIfInBounds_toArray, List.set_cons_zero, List.set_cons_succ, i64_w, i32_w]
          rfl
        refine pure_ (i := 4) (N := some 47) (v := ?_) (a' := ?_) #[true, true, true, true, true, false, false, false, false, false, false, false, false, false, false, false, false] rfl rfl (any_of HT_.out (by kernel_rfl)) (fun _ _ _ h => h) (Or.inl ⟨by rfl, ?_⟩) ?_ ?_
        rotate_left
        · intro w'
          go_simp
          with_reducible rfl
        rotate_left
        · simp only [Act.put, List.setIfInBounds_toArray, List.set_cons_zero, List.set_cons_succ, i64_w, i32_w]
          rfl
        refine pure_ (i := 5) (N := some 48) (v := ?_) (a' := ?_) #[true, true, true, true, true, true, false, false, false, false, false, false, false, false, false, false, false] rfl rfl (any_of HT_.out (by kernel_rfl)) (fun _ _ _ h => h) (Or.inl ⟨by rfl, ?_⟩) ?_ ?_
        rotate_left
        · intro w'
          go_simp
          with_reducible rfl
        rotate_left
        · simp only [Act.put, List.setIfInBounds_toArray, List.set_cons_zero, List.set_cons_succ, i64_w, i32_w]
          rfl
        refine pure_ (i := 8) (N := some 51) (v := ?_) (a' := ?_) #[true, true, true, true, true, true, false, false, true, false, false, false, false, false, false, false, false] rfl rfl (any_of HT_.out (by kernel_rfl)) (fun _ _ _ h => h) (Or.inl ⟨by rfl, ?_⟩) ?_ ?_
        rotate_left
        · intro w'
          go_simp
          with_reducible rfl
        rotate_left
        · simp only [Act.put, List.setIfInBounds_toArray, List.set_cons_zero, List.set_cons_succ, i64_w, i32_w]
          rfl
        refine pure_ (i := 9) (N := some 52) (v := ?_) (a' := ?_) #[true, true, true, true, true, true, false, false, true, true, false, false, false, false, false, false, false] rfl rfl (any_of HT_.out (by kernel_rfl)) (fun _ _ _ h => h) (Or.inl ⟨by rfl, ?_⟩) ?_ ?_
        rotate_left
        · intro w'
          go_simp
          with_reducible rfl
        rotate_left
        · simp only [Act.put, List.setIfInBounds_toArray, List.set_cons_zero, List.set_cons_succ, i64_w, i32_w]
          rfl
        refine pure_ (i := 10) (N := some 53) (v := ?_) (a' := ?_) #[true, true, true, true, true, true, false, false, true, true, true, false, false, false, false, false, false] rfl rfl (any_of HT_.out (by kernel_rfl)) (fun _ _ _ h => h) (Or.inl ⟨by rfl, ?_⟩) ?_ ?_
        rotate_left
        · intro w'
          go_simp
          with_reducible rfl
        rotate_left
        · simp only [Act.put, List.setIfInBounds_toArray, List.set_cons_zero, List.set_cons_succ, i64_w, i32_w]
          rfl
        refine pure_ (i := 11) (N := some 54) (v := ?_) (a' := ?_) #[true, true, true, true, true, true, false, false, true, true, true, true, false, false, false, false, false] rfl rfl (any_of HT_.out (by kernel_rfl)) (fun _ _ _ h => h) (Or.inl ⟨by rfl, ?_⟩) ?_ ?_
        rotate_left
        · intro w'
          go_simp
          with_reducible rfl
        rotate_left
        · simp only [Act.put, List.setIfInBounds_toArray, List.set_cons_zero, List.set_cons_succ, i64_w, i32_w]
          rfl
        refine take_ (i := 6) (N := some 49) (v := ?_) (a' := ?_) #[true, true, true, true, true, true, true, false, true, true, true, true, false, false, false, false, false] rfl rfl (take_ofW HT_.out HW_.out (by kernel_rfl)) (fun _ _ _ h => h) (Or.inl ⟨by rfl, ?_⟩) hHeld ?_ ?_
        rotate_left
        · rintro w' ⟨s0, s1⟩
          go_simp
          with_reducible rfl
        rotate_left
        · simp only [Act.put, List.setIfInBounds_toArray, List.set_cons_zero, List.set_cons_succ, i64_w, i32_w]
          rfl
        refine pure_ (i := 7) (N := some 50) (v := ?_) (a' := ?_) #[true, true, true, true, true, true, true, true, true, true, true, true, false, false, false, false, false] rfl rfl (any_of HT_.out (by kernel_rfl)) (fun _ _ _ h => h) (Or.inl ⟨by rfl, ?_⟩) ?_ ?_
        rotate_left
        · intro w'
          go_simp
          with_reducible rfl
        rotate_left
        · simp only [Act.put, List.setIfInBounds_toArray, List.set_cons_zero, List.set_cons_succ, i64_w, i32_w]
          rfl
        refine take_ (i := 12) (N := some 55) (v := ?_) (a' := ?_) #[true, true, true, true, true, true, true, true, true, true, true, true, true, false, false, false, false] rfl rfl (take_ofW HT_.out HW_.out (by kernel_rfl)) (fun _ _ _ h => h) (Or.inl ⟨by rfl, ?_⟩) hHeld ?_ ?_
        rotate_left
        · rintro w' ⟨s0, s1⟩
          go_simp
          with_reducible rfl
        rotate_left
        · simp only [Act.put, List.setIfInBounds_toArray, List.set_cons_zero, List.set_cons_succ, i64_w, i32_w]
          rfl
        refine pure_ (i := 13) (N := some 56) (v := ?_) (a' := ?_) #[true, true, true, true, true, true, true, true, true, true, true, true, true, true, false, false, false] rfl rfl (any_of HT_.out (by kernel_rfl)) (fun _ _ _ h => h) (Or.inl ⟨by rfl, ?_⟩) ?_ ?_
        rotate_left
        · intro w'
          go_simp
          with_reducible rfl
        rotate_left
        · simp only [Act.put, List.setIfInBounds_toArray, List.set_cons_zero, List.set_cons_succ, i64_w, i32_w]
          rfl
        refine one_ (i := 14) (N := some 57) #[true, true, true, true, true, true, true, true, true, true, true, true, true, true, true, false, false] rfl rfl (one_of HT_.out (by kernel_rfl)) (by decide) (fun K hK => ?_)
        refine value_ (v := .slice (some ⟨wE.heap.size, 0, none⟩) 2 2) (w1 := wE.alloc (.cells #[.int .i64 x1, .int .i64 y1] 3)) (by rfl) rfl ?_ ?_
        · go_simp
        refine hK.out _ _ ⟨pw_cell_below (below_alloc (Below.refl _ _) _) hHeld.1, pw_cell_below (below_alloc (Below.refl _ _) _) hHeld.2⟩ (fun hH2 => ?_)
        clear hHeld hK K
        refine norm_ (a' := ?_) ?_ ?_
        rotate_left
        · simp only [Act.put, List.setIfInBounds_toArray, List.set_cons_zero, List.set_cons_succ, i64_w, i32_w]
          rfl
        refine pure_ (i := 15) (N := some 58) (v := ?_) (a' := ?_) #[true, true, true, true, true, true, true, true, true, true, true, true, true, true, true, true, false] rfl rfl (any_of HT_.out (by kernel_rfl)) (fun _ _ _ h => h) (Or.inl ⟨by rfl, ?_⟩) ?_ ?_
        rotate_left
        · intro w'
          go_simp
          with_reducible rfl
        rotate_left
        · simp only [Act.put, List.setIfInBounds_toArray, List.set_cons_zero, List.set_cons_succ, i64_w, i32_w]
          rfl
        refine last_ (i := 16) (N := some 59) #[true, true, true, true, true, true, true, true, true, true, true, true, true, true, true, true, true] rfl rfl (one_of HT_.out (by kernel_rfl)) (by decide) (fun K hK => ?_)
        refine goes_ Try.func15 (by kernel_rfl) rfl #[.pointer (some ⟨g, 0, none⟩), .agg #[.int .i64 i, .slice (some ⟨wE.heap.size, 0, none⟩) 2 2]] (by rfl) rfl rfl (by (try simp only [List.map_toArray, List.map_cons, List.map_nil]); first | done | rfl) ?_
        refine HPUT.out.mono ?_
        rintro e w9 ⟨rfl, hh9, hb9⟩
        refine ⟨_, rfl, ?_⟩
        have HH9 := Aside0.mk hh9
        have HB9 := Aside0.mk hb9
        refine hK.out _ _ ?_
        clear hK K hH2 hh9 hb9
        simp only [Act.put, List.setIfInBounds_toArray, List.set_cons_zero, List.set_cons_succ, i64_w, i32_w]
        refine done_ (done_of HT_.out (by kernel_rfl)) ?_
        go_wp2_with fail
        go_roundw
        case rel => exact ⟨i + 1, rfl, hlt, HH9, ⟨below_cat (below_cat HBD.out (below_alloc0 (by rw [← HB0.out]; exact HBD.out.size) _)) HB9.out⟩⟩
        case measure => simp [intOf]; omega
      · have ei : i = N := by omega
        subst ei
        go_upto_if 60 with (fail)
        go_cut [] (fun w2 => Aside0 (Holds w2 b0 g ma (rowsL l i)) ∧ Aside0 (Below b0 W w2))
        case first =>
          have HMK := Aside0.mk (holds_make HH.out (by rw [← HB0.out]; exact HB.out.size) HG.out.1 HG.out.2.1)
          cases b
          · go_wp2_with fail
            go_meet
            exact ⟨HH, HB⟩
          · go_wp2_with (go_at_call 18; refine HMK.out.mono ?_; rintro e w8 ⟨rfl, hh8, hb8⟩; have HH8 := Aside0.mk hh8; have HB8 := Aside0.mk hb8; clear hh8 hb8)
            go_meet
            exact ⟨HH8, ⟨below_cat HB.out HB8.out⟩⟩
        case rest =>
          obtain ⟨HHC, HBC⟩ := hcut
          clear HH HB
          go_wp2_with fail
          go_loopw [8] (fun z wr2 => ∃ k : Nat, z = .int .i64 k ∧ k ≤ i ∧ Aside0 (Holds wr2 b0 g ma (rowsL l i)) ∧ Aside0 (Below b0 W wr2)) (fun z _ => i - (intOf z).toNat)
          case atStart => exact ⟨0, rfl, Nat.zero_le _, HHC, HBC⟩
          case round =>
            obtain ⟨k, rfl, hk, HH2, HB2⟩ := hrel
            by_cases hkl : k < i
            · have hkl' : (k : Int) < (i : Int) := by omega
              have hk0 : (0 : Int) ≤ (k : Int) := by omega
              obtain ⟨ad, e0, r0', r1'⟩ := at_two HR.out k (by have := HN.out; omega)
              subst e0
              obtain ⟨x0, hx0⟩ : ∃ x0, (l[k]'(by have := HN.out; omega)).1 = x0 := ⟨_, rfl⟩
              obtain ⟨y0, hy0⟩ : ∃ y0, (l[k]'(by have := HN.out; omega)).2 = y0 := ⟨_, rfl⟩
              rw [hx0] at r0'
              rw [hy0] at r1'
              have HGK : Aside0 (l.getD k (0, 0) = (x0, y0)) := ⟨by rw [List.getD_eq_getElem?_getD, List.getElem?_eq_getElem (by have := HN.out; omega)]; exact Prod.ext hx0 hy0⟩
              have HC0 := Aside0.mk r0'
              have HC1 := Aside0.mk r1'
              have q1 := i64_and255 x0
              have q2 := i64_and255 y0
              obtain ⟨x1, hx1⟩ : ∃ x1, x0 % 256 = x1 := ⟨_, rfl⟩
              obtain ⟨y1, hy1⟩ : ∃ y1, y0 % 256 = y1 := ⟨_, rfl⟩
              rw [hx1] at q1
              rw [hy1] at q2
              have HAK : Aside0 (at2 l k = [x1, y1]) := ⟨by unfold at2; rw [HGK.out, ← hx1, ← hy1]; rfl⟩
              clear hx0 hy0 hx1 hy1 r0' r1'
              go_wp2_with fail
              go_loopw [9, 10] (fun z9 z10 wr3 => ∃ m j : Nat, z9 = .int .i64 m ∧ z10 = .int .i64 j ∧ j ≤ k ∧ Aside0 (FirstAt l k j m) ∧ Aside0 (Holds wr3 b0 g ma (rowsL l i)) ∧ Aside0 (Below b0 W wr3)) (fun _ z10 _ => k - (intOf z10).toNat)
              case atStart => exact ⟨k, 0, rfl, rfl, Nat.zero_le _, ⟨FirstAt.start l k⟩, HH2, HB2⟩
              case round =>
                obtain ⟨m, j, rfl, rfl, hj, HF, HH3, HB3⟩ := hrel
                by_cases hjk : j < k
                · have hjk' : (j : Int) < (k : Int) := by omega
                  have hj0 : (0 : Int) ≤ (j : Int) := by omega
                  have hjn : (j : Int) < (i : Int) := by omega
                  obtain ⟨ad2, e0, r2', r3'⟩ := at_two HR.out j (by have := HN.out; omega)
                  cases e0
                  obtain ⟨u0, hu0⟩ : ∃ u0, (l[j]'(by have := HN.out; omega)).1 = u0 := ⟨_, rfl⟩
                  obtain ⟨v0, hv0⟩ : ∃ v0, (l[j]'(by have := HN.out; omega)).2 = v0 := ⟨_, rfl⟩
                  rw [hu0] at r2'
                  rw [hv0] at r3'
                  have HGJ : Aside0 (l.getD j (0, 0) = (u0, v0)) := ⟨by rw [List.getD_eq_getElem?_getD, List.getElem?_eq_getElem (by have := HN.out; omega)]; exact Prod.ext hu0 hv0⟩
                  have q3 := i64_and255 u0
                  have q4 := i64_and255 v0
                  obtain ⟨u1, hu1⟩ : ∃ u1, u0 % 256 = u1 := ⟨_, rfl⟩
                  obtain ⟨v1, hv1⟩ : ∃ v1, v0 % 256 = v1 := ⟨_, rfl⟩
                  rw [hu1] at q3
                  rw [hv1] at q4
                  have HAJ : Aside0 (at2 l j = [u1, v1]) := ⟨by unfold at2; rw [HGJ.out, ← hu1, ← hv1]; rfl⟩
                  have hbd : RowKit.Below W.heap.size W wr := by rw [HB0.out]; exact HB3.out
                  have r0 := pw_cell_below hbd HC0.out
                  have r1 := pw_cell_below hbd HC1.out
                  have r2 := pw_cell_below hbd r2'
                  have r3 := pw_cell_below hbd r3'
                  clear hu0 hv0 hu1 hv1 r2' r3' hbd
                  by_cases e1 : u1 = x1
                  · by_cases e2 : v1 = y1
                    · have HS : Aside0 (at2 l j = at2 l k) := ⟨by rw [HAJ.out, HAK.out, e1, e2]⟩
                      go_upto_region 17 with (fail)
                      go_quiet (fail)
                      go_wp2_with fail
                      go_roundw
                      case rel => exact ⟨Min.min m j, j + 1, congrArg (Value.int .i64) (by omega), rfl, hjk, ⟨HF.out.step hjk HS.out⟩, ⟨HH3.out.below (pw_below_drewN (Below.refl _ _) _)⟩, ⟨pw_below_drewN HB3.out _⟩⟩
                      case measure => simp [intOf]; omega
                    · have HS : Aside0 (at2 l j ≠ at2 l k) := ⟨by rw [HAJ.out, HAK.out]; intro e; injection e with _ e; injection e with e _; exact e2 e⟩
                      go_upto_region 17 with (fail)
                      go_quiet (fail)
                      go_wp2_with fail
                      go_roundw
                      case rel => exact ⟨m, j + 1, rfl, rfl, hjk, ⟨HF.out.skip HS.out⟩, ⟨HH3.out.below (pw_below_drewN (Below.refl _ _) _)⟩, ⟨pw_below_drewN HB3.out _⟩⟩
                      case measure => simp [intOf]; omega
                  · have HS : Aside0 (at2 l j ≠ at2 l k) := ⟨by rw [HAJ.out, HAK.out]; intro e; injection e with e _; exact e1 e⟩
                    go_upto_region 17 with (fail)
                    go_quiet (fail)
                    go_wp2_with fail
                    go_roundw
                    case rel => exact ⟨m, j + 1, rfl, rfl, hjk, ⟨HF.out.skip HS.out⟩, ⟨HH3.out.below (pw_below_drewN (Below.refl _ _) _)⟩, ⟨pw_below_drewN HB3.out _⟩⟩
                    case measure => simp [intOf]; omega
                · have ej : j = k := by omega
                  subst ej
                  have hbd : RowKit.Below W.heap.size W wr.drew := by rw [HB0.out]; exact HB3.out.drew
                  have r0 : wr.drew.cell? (ad.add (j * 2)) = some (.int .i64 x0) := pw_cell_below hbd HC0.out
                  have r1 : wr.drew.cell? ⟨(ad.add (j * 2)).block, (ad.add (j * 2)).off + 1, none⟩ = some (.int .i64 y0) := pw_cell_below hbd HC1.out
                  have HBD : Aside0 (Below b0 W wr.drew) := ⟨HB3.out.drew⟩
                  have HTOP : Aside0 (Calls Try.prog 17 #[.pointer (some ⟨g, 0, none⟩), .slice (some ⟨wr.drew.heap.size, 0, none⟩) 2 2, .int .i64 1, .int .i64 0] (wr.drew.alloc (.cells #[.int .i64 x1, .int .i64 y1] 3)) (TopH (wr.drew.alloc (.cells #[.int .i64 x1, .int .i64 y1] 3)) b0 g ma (rowsL l i) m)) := ⟨by
                    have h1 := holds_top (j := wr.drew.heap.size) (m := m) (i := j) (n := i) (l := l) ((HH3.out.below (below_drew1 (Below.refl _ _))).below (below_alloc (Below.refl _ _) (.cells #[.int .i64 x1, .int .i64 y1] 3))) HAK.out (blk_new _ _) hkl HF.out
                    exact h1⟩
                  go_upto_region 19 with (fail)
                  clear hbd
                  refine start_ (n := 20) (S := fun w' => w'.cell? (ad.add (j * 2)) = some (.int .i64 x0) ∧ w'.cell? ⟨(ad.add (j * 2)).block, (ad.add (j * 2)).off + 1, none⟩ = some (.int .i64 y0)) (ds := []) #[false, false, false, false, false, false, false, false, false, false, false, false, false, false, false, false, false, false, false, false] (by kernel_rfl) rfl rfl ⟨r0, r1⟩ (fun hHeld => ?_)
                  refine with_tabW sf19.tab sf19.bits (fun HT_ HW_ => ?_)
                  generalize hwE : wr.drew = wE at *
                  refine pure_ (i := 0) (N := some 107) (v := ?_) (a' := ?_) #[true, false, false, false, false, false, false, false, false, false, false, false, false, false, false, false, false, false, false, false] rfl rfl (any_of HT_.out (by kernel_rfl)) (fun _ _ _ h => h) (Or.inl ⟨by rfl, ?_⟩) ?_ ?_
                  rotate_left
                  · intro w'
                    go_simp
                    with_reducible rfl
                  rotate_left
                  · simp only [Act.put, List.setIfInBounds_toArray, List.set_cons_zero, List.set_cons_succ, i64_w, i32_w]
                    rfl
                  refine pure_ (i := 1) (N := some 108) (v := ?_) (a' := ?_) #[true, true, false, false, false, false, false, false, false, false, false, false, false, false, false, false, false, false, false, false] rfl rfl (any_of HT_.out (by kernel_rfl)) (fun _ _ _ h => h) (Or.inl ⟨by rfl, ?_⟩) ?_ ?_
                  rotate_left
                  · intro w'
                    go_simp
                    with_reducible rfl
                  rotate_left
                  · simp only [Act.put, List.setIfInBounds_toArray, List.set_cons_zero, List.set_cons_succ, i64_w, i32_w]
                    rfl
                  refine pure_ (i := 2) (N := some 109) (v := ?_) (a' := ?_) #[true, true, true, false, false, false, false, false, false, false, false, false, false, false, false, false, false, false, false, false] rfl rfl (any_of HT_.out (by kernel_rfl)) (fun _ _ _ h => h) (Or.inl ⟨by rfl, ?_⟩) ?_ ?_
                  rotate_left
                  · intro w'
                    go_simp
                    with_reducible rfl
                  rotate_left
                  · simp only [Act.put, List.setIfInBounds_toArray, List.set_cons_zero, List.set_cons_succ, i64_w, i32_w]
                    rfl
                  refine pure_ (i := 3) (N := some 110) (v := ?_) (a' := ?_) #[true, true, true, true, false, false, false, false, false, false, false, false, false, false, false, false, false, false, false, false] rfl rfl (any_of HT_.out (by kernel_rfl)) (fun _ _ _ h => h) (Or.inl ⟨by rfl, ?_⟩) ?_ ?_
                  rotate_left
                  · intro w'
                    go_simp
                    with_reducible rfl
                  rotate_left
                  · simp only [Act.put, List.setIfInBounds_toArray, List.set_cons_zero, List.set_cons_succ, i64_w, i32_w]
                    rfl
                  refine pure_ (i := 4) (N := some 111) (v := ?_) (a' := ?_) #[true, true, true, true, true, false, false, false, false, false, false, false, false, false, false, false, false, false, false, false] rfl rfl (any_of HT_.out (by kernel_rfl)) (fun _ _ _ h => h) (Or.inl ⟨by rfl, ?_⟩) ?_ ?_
                  rotate_left
                  · intro w'
                    go_simp
                    with_reducible rfl
                  rotate_left
                  · simp only [Act.put, List.setIfInBounds_toArray, List.set_cons_zero, List.set_cons_succ, i64_w, i32_w]
                    rfl
                  refine pure_ (i := 7) (N := some 114) (v := ?_) (a' := ?_) #[true, true, true, true, true, false, false, true, false, false, false, false, false, false, false, false, false, false, false, false] rfl rfl (any_of HT_.out (by kernel_rfl)) (fun _ _ _ h => h) (Or.inl ⟨by rfl, ?_⟩) ?_ ?_
                  rotate_left
                  · intro w'
                    go_simp
                    with_reducible rfl
                  rotate_left
                  · simp only [Act.put, List.setIfInBounds_toArray, List.set_cons_zero, List.set_cons_succ, i64_w, i32_w]
                    rfl
                  refine pure_ (i := 8) (N := some 115) (v := ?_) (a' := ?_) #[true, true, true, true, true, false, false, true, true, false, false, false, false, false, false, false, false, false, false, false] rfl rfl (any_of HT_.out (by kernel_rfl)) (fun _ _ _ h => h) (Or.inl ⟨by rfl, ?_⟩) ?_ ?_
                  rotate_left
                  · intro w'
                    go_simp
                    with_reducible rfl
                  rotate_left
                  · simp only [Act.put, List.setIfInBounds_toArray, List.set_cons_zero, List.set_cons_succ, i64_w, i32_w]
                    rfl
                  refine pure_ (i := 9) (N := some 116) (v := ?_) (a' := ?_) #[true, true, true, true, true, false, false, true, true, true, false, false, false, false, false, false, false, false, false, false] rfl rfl (any_of HT_.out (by kernel_rfl)) (fun _ _ _ h => h) (Or.inl ⟨by rfl, ?_⟩) ?_ ?_
                  rotate_left
                  · intro w'
                    go_simp
                    with_reducible rfl
                  rotate_left
                  · simp only [Act.put, List.setIfInBounds_toArray, List.set_cons_zero, List.set_cons_succ, i64_w, i32_w]
                    rfl
                  refine pure_ (i := 10) (N := some 117) (v := ?_) (a' := ?_) #[true, true, true, true, true, false, false, true, true, true, true, false, false, false, false, false, false, false, false, false] rfl rfl (any_of HT_.out (by kernel_rfl)) (fun _ _ _ h => h) (Or.inl ⟨by rfl, ?_⟩) ?_ ?_
                  rotate_left
                  · intro w'
                    go_simp
                    with_reducible rfl
                  rotate_left
                  · simp only [Act.put, List.setIfInBounds_toArray, List.set_cons_zero, List.set_cons_succ, i64_w, i32_w]
                    rfl
                  refine take_ (i := 5) (N := some 112) (v := ?_) (a' := ?_) #[true, true, true, true, true, true, false, true, true, true, true, false, false, false, false, false, false, false, false, false] rfl rfl (take_ofW HT_.out HW_.out (by kernel_rfl)) (fun _ _ _ h => h) (Or.inl ⟨by rfl, ?_⟩) hHeld ?_ ?_
                  rotate_left
                  · rintro w' ⟨s0, s1⟩
                    go_simp
                    with_reducible rfl
                  rotate_left
                  · simp only [Act.put, List.setIfInBounds_toArray, List.set_cons_zero, List.set_cons_succ, i64_w, i32_w]
                    rfl
                  refine pure_ (i := 6) (N := some 113) (v := ?_) (a' := ?_) #[true, true, true, true, true, true, true, true, true, true, true, false, false, false, false, false, false, false, false, false] rfl rfl (any_of HT_.out (by kernel_rfl)) (fun _ _ _ h => h) (Or.inl ⟨by rfl, ?_⟩) ?_ ?_
                  rotate_left
                  · intro w'
                    go_simp
                    with_reducible rfl
                  rotate_left
                  · simp only [Act.put, List.setIfInBounds_toArray, List.set_cons_zero, List.set_cons_succ, i64_w, i32_w]
                    rfl
                  refine take_ (i := 11) (N := some 118) (v := ?_) (a' := ?_) #[true, true, true, true, true, true, true, true, true, true, true, true, false, false, false, false, false, false, false, false] rfl rfl (take_ofW HT_.out HW_.out (by kernel_rfl)) (fun _ _ _ h => h) (Or.inl ⟨by rfl, ?_⟩) hHeld ?_ ?_
                  rotate_left
                  · rintro w' ⟨s0, s1⟩
                    go_simp
                    with_reducible rfl
                  rotate_left
                  · simp only [Act.put, List.setIfInBounds_toArray, List.set_cons_zero, List.set_cons_succ, i64_w, i32_w]
                    rfl
                  refine pure_ (i := 12) (N := some 119) (v := ?_) (a' := ?_) #[true, true, true, true, true, true, true, true, true, true, true, true, true, false, false, false, false, false, false, false] rfl rfl (any_of HT_.out (by kernel_rfl)) (fun _ _ _ h => h) (Or.inl ⟨by rfl, ?_⟩) ?_ ?_
                  rotate_left
                  · intro w'
                    go_simp
                    with_reducible rfl
                  rotate_left
                  · simp only [Act.put, List.setIfInBounds_toArray, List.set_cons_zero, List.set_cons_succ, i64_w, i32_w]
                    rfl
                  refine one_ (i := 13) (N := some 120) #[true, true, true, true, true, true, true, true, true, true, true, true, true, true, false, false, false, false, false, false] rfl rfl (one_of HT_.out (by kernel_rfl)) (by decide) (fun K hK => ?_)
                  refine value_ (v := .slice (some ⟨wE.heap.size, 0, none⟩) 2 2) (w1 := wE.alloc (.cells #[.int .i64 x1, .int .i64 y1] 3)) (by rfl) rfl ?_ ?_
                  · go_simp
                  refine hK.out _ _ ⟨pw_cell_below (below_alloc (Below.refl _ _) _) hHeld.1, pw_cell_below (below_alloc (Below.refl _ _) _) hHeld.2⟩ (fun hH2 => ?_)
                  clear hHeld hK K
                  refine norm_ (a' := ?_) ?_ ?_
                  rotate_left
                  · simp only [Act.put, List.setIfInBounds_toArray, List.set_cons_zero, List.set_cons_succ, i64_w, i32_w]
                    rfl
                  refine one_ (i := 14) (N := some 121) #[true, true, true, true, true, true, true, true, true, true, true, true, true, true, true, false, false, false, false, false] rfl rfl (one_of HT_.out (by kernel_rfl)) (by decide) (fun K hK => ?_)
                  refine goes_ Try.func17 (by kernel_rfl) rfl #[.pointer (some ⟨g, 0, none⟩), .slice (some ⟨wE.heap.size, 0, none⟩) 2 2, .int .i64 1, .int .i64 0] (by rfl) rfl rfl (by (try simp only [List.map_toArray, List.map_cons, List.map_nil]); first | done | rfl) ?_
                  refine HTOP.out.mono ?_
                  rintro e w9 ⟨⟨A9, c9, rfl, ho9⟩, hh9, hb9⟩
                  refine ⟨_, rfl, ?_⟩
                  have HO9 := Aside0.mk ho9
                  have HH9 := Aside0.mk hh9
                  have HB9 := Aside0.mk hb9
                  refine hK.out _ _ ⟨pw_cell_below hb9 hH2.1, pw_cell_below hb9 hH2.2⟩ (fun hHeld => ?_)
                  clear hK K hH2 hh9 hb9 ho9
                  refine norm_ (a' := ?_) ?_ ?_
                  rotate_left
                  · simp only [Act.put, List.setIfInBounds_toArray, List.set_cons_zero, List.set_cons_succ, i64_w, i32_w]
                    rfl
                  refine pure_ (i := 15) (N := some 106) (v := ?_) (a' := ?_) #[true, true, true, true, true, true, true, true, true, true, true, true, true, true, true, true, false, false, false, false] rfl rfl (any_of HT_.out (by kernel_rfl)) (fun _ _ _ h => h) (Or.inl ⟨by rfl, ?_⟩) ?_ ?_
                  rotate_left
                  · intro w'
                    go_simp
                    with_reducible rfl
                  rotate_left
                  · simp only [Act.put, List.setIfInBounds_toArray, List.set_cons_zero, List.set_cons_succ, i64_w, i32_w]
                    rfl
                  refine pure_ (i := 16) (N := some 122) (v := ?_) (a' := ?_) #[true, true, true, true, true, true, true, true, true, true, true, true, true, true, true, true, true, false, false, false] rfl rfl (any_of HT_.out (by kernel_rfl)) (fun _ _ _ h => h) (Or.inl ⟨by rfl, ?_⟩) ?_ ?_
                  rotate_left
                  · intro w'
                    go_simp
                    with_reducible rfl
                  rotate_left
                  · simp only [Act.put, List.setIfInBounds_toArray, List.set_cons_zero, List.set_cons_succ, i64_w, i32_w]
                    rfl
                  refine pure_ (i := 17) (N := some 123) (v := ?_) (a' := ?_) #[true, true, true, true, true, true, true, true, true, true, true, true, true, true, true, true, true, true, false, false] rfl rfl (any_of HT_.out (by kernel_rfl)) (fun _ _ _ h => h) (Or.inl ⟨by rfl, ?_⟩) ?_ ?_
                  rotate_left
                  · intro w'
                    go_simp
                    with_reducible rfl
                  rotate_left
                  · simp only [Act.put, List.setIfInBounds_toArray, List.set_cons_zero, List.set_cons_succ, i64_w, i32_w]
                    rfl
                  refine pure_ (i := 18) (N := some 11) (v := ?_) (a' := ?_) #[true, true, true, true, true, true, true, true, true, true, true, true, true, true, true, true, true, true, true, false] rfl rfl (any_of HT_.out (by kernel_rfl)) (fun _ _ _ h => h) (Or.inl ⟨by rfl, ?_⟩) ?_ ?_
                  rotate_left
                  · intro w'
                    go_simp
                    with_reducible rfl
                  rotate_left
                  · simp only [Act.put, List.setIfInBounds_toArray, List.set_cons_zero, List.set_cons_succ, i64_w, i32_w]
                    rfl
                  refine pure_ (i := 19) (N := some 12) (v := ?_) (a' := ?_) #[true, true, true, true, true, true, true, true, true, true, true, true, true, true, true, true, true, true, true, true] rfl rfl (any_of HT_.out (by kernel_rfl)) (fun _ _ _ h => h) (Or.inl ⟨by rfl, ?_⟩) ?_ ?_
                  rotate_left
                  · intro w'
                    go_simp
                    with_reducible rfl
                  rotate_left
                  · simp only [Act.put, List.setIfInBounds_toArray, List.set_cons_zero, List.set_cons_succ, i64_w, i32_w]
                    rfl
                  refine done_ (done_of HT_.out (by kernel_rfl)) ?_
                  have HSM : Aside0 (Calls Try.prog 19 #[.slice A9 1 c9, .slice (some ⟨w9.heap.size, 0, none⟩) 1 1] (w9.alloc (.cells #[.int .i64 m, .int .i64 0] 49)) fun e w' => e = .returned (.bool true) ∧ ∃ q, w' = (w9.alloc (.cells #[.int .i64 m, .int .i64 0] 49)).drewN q) := ⟨by
                    have h1 := row_reads (l := [((m : Int), 0)]) (own_alloc HO9.out (.cells #[.int .i64 m, .int .i64 0] 49)) (by simp)
                    have h2 := same_calls A9 (some ⟨w9.heap.size, 0, none⟩) c9 1 [((m : Int), 0)] [((m : Int), 0)] _ h1.1 (blk_reads (l := [((m : Int), 0)]) (blk_new _ _) (by simp)) h1.2 (by simp) (by simp)
                    rw [decide_eq_true rfl] at h2
                    exact h2⟩
                  have HBF : Aside0 (Below b0 W (w9.alloc (.cells #[.int .i64 m, .int .i64 0] 49))) := ⟨by
                    have z1 : b0 ≤ wE.heap.size := by rw [← HB0.out]; exact HBD.out.size
                    have k1 := below_cat HBD.out (below_alloc0 z1 (.cells #[.int .i64 x1, .int .i64 y1] 3))
                    have k2 := below_cat k1 (HB9.out.mono (by simp only [World.size_alloc]; omega))
                    exact below_cat k2 (below_alloc0 (by rw [← HB0.out]; exact k2.size) _)⟩
                  go_wp2_with (go_at_call 19; refine HSM.out.mono ?_; rintro e w6 ⟨rfl, m6, rfl⟩)
                  go_roundw
                  case rel => exact ⟨j + 1, rfl, hkl, ⟨(HH9.out.below (below_alloc (Below.refl _ _) _)).below (pw_below_drewN (Below.refl _ _) _)⟩, ⟨pw_below_drewN HBF.out _⟩⟩
                  case measure => simp [intOf]; omega
            · go_wp2_with (go_at_call 12; refine (awake_calls _).mono ?_; rintro e w5 ⟨rfl, hb5⟩; have HB5 := Aside0.mk hb5; clear hb5)
              go_ret
              exact ⟨rfl, by rw [HB0.out]; exact below_cat HB2.out (HB5.out.mono (by rw [← HB0.out]; exact HB2.out.size))⟩
end Go.Proofs.Ytealiaafdkhonaa.Vp

namespace Go.Proofs.Ytealiaafdkhonaa.Vp
open Go.RowKit Go.Proofs.YtealiaafdkhonaaW.PrintWords
theorem row_two {W : World} {A : Option Addr} {n : Nat} {l : List (Int × Int)} (h : ReadsRow Op.I2 2 W A n l) : ReadsRow P2 2 W A n l := by
  refine ⟨h.1, h.2.1, fun hn => ?_⟩
  obtain ⟨ad, e, ha⟩ := h.2.2 hn
  exact ⟨ad, e, fun j p hp => by obtain ⟨c, h1, h2, h3⟩ := ha j p hp; exact ⟨c, h1, h2.1, h3⟩⟩
theorem self_row (W : World) (A : Option Addr) (c : Nat) (l : List (Int × Int)) (b : Bool) (hr : ReadsRow Op.I2 2 W A l.length l) (hc : l.length ≤ c) : Calls Try.prog 7 #[.slice A l.length c, .bool b] W (Yes W) := self_calls W A c l b (row_two hr) hc
end Go.Proofs.Ytealiaafdkhonaa.Vp
