/- Several texts in one: Sv, Op, Lp, Ho, Pr. -/
import Derived.Test.YtealiaafdkhonaaPk1
import Derived.Test.YtealiaafdkhonaaX0
import Derived.Test.YtealiaafdkhonaaProg
import Derived.OpenShut
import Derived.ProofKit
import Derived.Deep.Strs
import Derived.Test.YtealiaafdkhonaaPt
import Derived.Test.YtealiaafdkhonaaTd1
namespace Go.Proofs.Ytealiaafdkhonaa.Vp
open Go.RowKit Go.Sort Go.Proofs.YtealiaafdkhonaaW.PrintWords
set_option linter.unusedVariables false
set_option linter.unusedSimpArgs false
end Go.Proofs.Ytealiaafdkhonaa.Vp
namespace Go.Proofs.Ytealiaafdkhonaa.Op
open Go.RowKit Go.WideShapes Go.ChangeShapes Go.Proofs.YtealiaafdkhonaaW.PrintWords Go.Proofs.YtealiaafdkhonaaW.PrintLast Go.Proofs.YtealiaafdkhonaaW.PrintMore
set_option linter.unusedVariables false
set_option linter.unusedSimpArgs false
theorem list_of {α : Type} (P : Nat → α → Prop) : ∀ n, (∀ i, i < n → ∃ x, P i x) → ∃ xs : List α, xs.length = n ∧ ∀ i x, xs[i]? = some x → P i x
  | 0, _ => ⟨[], rfl, fun i x h => by simp at h⟩
  | n + 1, h => by
    obtain ⟨xs, h1, h2⟩ := list_of P n (fun i hi => h i (by omega))
    obtain ⟨x, hx⟩ := h n (by omega)
    refine ⟨xs ++ [x], by simp [h1], fun i y hy => ?_⟩
    by_cases hi : i < n
    · rw [List.getElem?_append_left (by omega)] at hy; exact h2 i y hy
    · by_cases e : i = n
      · rw [List.getElem?_append_right (by omega)] at hy
        rw [e, h1] at hy
        simp at hy
        rw [e, ← hy]; exact hx
      · rw [List.getElem?_eq_none (by simp; omega)] at hy; cases hy
section
variable {P : Program} {H : Type} {enc : TypeId × Value → H} {W : World} {base : Nat} {spare : Nat → Bool} {held : Bool} {t e : TypeId} {fuel : Nat} {v : Value} {y : DataW H × List MemPlace} {r : Reach} {b0 : Nat} {d : DataW H} {p : List MemPlace}
/-- A slice of elements of whatever kind, wherever it lies. -/
theorem open_row {α : Type} {R : α → List Value → Prop} {sz : Nat} (ht : P.underlying t = some (.slice e)) (hc : P.cellsOf e = sz)
    (hE : ∀ (f : Nat) (cs : List Value) (z : DataW H × List MemPlace), cs.length = sz → DataW.trod enc P W base spare held f e cs = some z → ∃ x, R x cs)
    (h : DataW.trod enc P W base spare held fuel t [v] = some y) : ∃ A cap l, v = .slice A l.length cap ∧ ReadsRow R sz W A l.length l ∧ l.length ≤ cap := by
  rcases DataW.trod_slice ht h with ⟨h0, _⟩ | ⟨a, len, cap, elems, rest, n, _, h1, _, hb, hl, hm, hlen, hel, _, _⟩
  · simp at h0
    exact ⟨none, 0, [], h0, ⟨rfl, by simp, fun h => by simp at h⟩, Nat.le_refl _⟩
  · simp at h1
    obtain ⟨xs, hx1, hx2⟩ := list_of (fun i (x : α) => ∃ c : List Value, c.length = sz ∧ R x c ∧ ∀ j u, c[j]? = some u → W.cell? (a.add (i * sz + j)) = some u) len (fun i hi => by
      have hh := hel i hi
      rw [List.getElem?_eq_getElem (by omega), Option.bind_eq_some_iff] at hh
      obtain ⟨cs, hcs, hz⟩ := hh
      obtain ⟨_, hcl, hcell⟩ := World.cells?_some hcs
      rw [hc] at hcl
      obtain ⟨x, hx⟩ := hE n cs _ hcl hz
      refine ⟨x, cs, hcl, hx, fun j u hu => ?_⟩
      have hj : j < sz := by have := (List.getElem?_eq_some_iff.1 hu).1; omega
      have := hcell j (by rw [hc]; exact hj)
      rw [hu, hc, Addr.add_add] at this
      exact this)
    refine ⟨some a, cap, xs, by rw [hx1]; exact h1, ⟨rfl, by unfold maxLen at hm; omega, fun _ => ⟨a, rfl, hx2⟩⟩, by omega⟩
theorem open_row_top {α : Type} {R : α → List Value → Prop} {sz : Nat} (ht : P.underlying t = some (.slice e)) (hc : P.cellsOf e = sz)
    (hE : ∀ (f : Nat) (cs : List Value) (z : DataW H × List MemPlace), cs.length = sz → DataW.trod enc P W base spare held f e cs = some z → ∃ x, R x cs)
    (hv : Value.okWide P W r b0 t v) (h : DataW.Trod enc P W base spare held t v d p) : ∃ A cap l, v = .slice A l.length cap ∧ ReadsRow R sz W A l.length l ∧ l.length ≤ cap := by
  obtain ⟨a, len, cap, rfl⟩ := okWide_slice ht hv
  obtain ⟨f, hf⟩ := h
  exact open_row ht hc hE (show DataW.trod enc P W base spare held f t [.slice a len cap] = some _ from hf)
end
end Go.Proofs.Ytealiaafdkhonaa.Op
namespace Go.Proofs.Ytealiaafdkhonaa.Vp
open Go.RowKit Go.Sort
set_option linter.unusedVariables false
set_option linter.unusedSimpArgs false
end Go.Proofs.Ytealiaafdkhonaa.Vp
namespace Go.Proofs.Ytealiaafdkhonaa.Vp
open Go.RowKit Go.Sort Mb Base Go.Proofs.YtealiaafdkhonaaW.PrintWords Go.Proofs.YtealiaafdkhonaaW.PrintLast Go.Proofs.YtealiaafdkhonaaW.PrintMore
set_option linter.unusedVariables false
set_option linter.unusedSimpArgs false
set_option maxRecDepth 100000 in
set_option maxHeartbeats 4000000 in
theorem put_full (W : World) (g ma mi : Nat) (s : TS) (h : TreeAt W g ma mi s) (hok : TSok s) (id : Int) (hw : (Lit.int .i64 id).wf = true) (A : Option Addr) (c : Nat) (v : List Int) (hC : Kd.C (Kd.int .i64) W A v.length v) (hv : isV v = true) (hl : (v.length : Int) = s.dim)
    (hwas : look s.L id = none) (hfull : s.L.length = 512) :
    Calls Try.prog 15 #[.pointer (some ⟨g, 0, none⟩), .agg #[.int .i64 id, .slice A v.length c]] W fun e w' => e = .returned (.tuple #[.bool false, .int .i64 2]) ∧ Below W.heap.size W w' := by
  have hd := hok.d1
  have hb1 := below_alloc (Below.refl W.heap.size W) (.cells #[.int .i64 id, .slice A v.length c] 37)
  have HPB := Aside0.mk (blk_new W (.cells #[.int .i64 id, .slice A v.length c] 37))
  have HT1 := Aside0.mk (h.below hb1)
  have HB1 := Aside0.mk hb1
  have HC1 := Aside0.mk (Kd.C_below hC hb1)
  have HCK := Aside0.mk (fun (W' : World) (hr : Kd.C (Kd.int .i64) W' A v.length v) => check_calls A c v s.dim W' hr)
  rw [show ckV v s.dim = 0 from if_pos ⟨hv, hl⟩] at HCK
  obtain ⟨root, f, ni, q1, q2, q3, q4, q5, q6, q7⟩ := HT1.out.ex
  have m0 : (W.alloc (.cells #[.int .i64 id, .slice A v.length c] 37)).cell? ⟨g, 0, none⟩ = some (.int .i64 s.dim) := (blk_cell q1 0).trans rfl
  have HM2 : Aside0 ((W.alloc (.cells #[.int .i64 id, .slice A v.length c] 37)).cell? ⟨g, 2, none⟩ = some (.map (some ma))) := ⟨(blk_cell q1 2).trans rfl⟩
  have hfn : f id = none := by
    have := q6 id
    rw [hwas] at this
    cases e : f id with
    | none => rfl
    | some x => rw [e] at this; cases this
  have lk2 := fun m : Nat => (((q2.drewN m).drew).look_ok law Try.underlying3 Try.underlying66 (zero23 _) id hw)
  rw [hfn] at lk2
  have hlen2 := fun (m : Nat) ty => ((q2.drewN m).drew).len Try.underlying66 ty
  have HLK2 := Aside0.mk lk2
  rw [hfull] at hlen2
  have HLEN2 := Aside0.mk hlen2
  have p1 : (W.alloc (.cells #[.int .i64 id, .slice A v.length c] 37)).cell? ⟨W.heap.size, 1, none⟩ = some (.slice A v.length c) := (blk_cell HPB.out 1).trans rfl
  have hsz : W.heap.size < (W.alloc (.cells #[.int .i64 id, .slice A v.length c] 37)).heap.size := by simp
  have HSZ := Aside0.mk hsz
  obtain ⟨vn, hvn⟩ : ∃ vn, v.length = vn := ⟨_, rfl⟩
  obtain ⟨dim, hdim⟩ : ∃ dim, s.dim = dim := ⟨_, rfl⟩
  rw [hvn] at HC1 HCK HPB HB1 HT1 HM2 HLK2 HLEN2 HSZ p1 m0
  rw [hdim] at m0 HCK hd
  rw [hvn]
  obtain ⟨pb, hpb⟩ : ∃ pb, W.heap.size = pb := ⟨_, rfl⟩
  have HPBE := Aside0.mk hpb
  obtain ⟨wA, hwA⟩ : ∃ wA, W.alloc (.cells #[.int .i64 id, .slice A vn c] 37) = wA := ⟨_, rfl⟩
  have HWA := Aside0.mk hwA
  rw [hwA] at HC1 HPB HB1 HT1 HM2 HLK2 HLEN2 HSZ p1 m0
  rw [hpb] at HPB p1 HSZ
  have HCQ : Aside0 (∀ m, Calls Try.prog 29 #[.slice A vn c, .int .i64 dim] (wA.drewN m) fun e w' => e = .returned (.int .i64 0) ∧ w' = wA.drewN m) := ⟨fun m => (HCK.out (wA.drewN m) (Kd.C_below HC1.out (pw_below_drewN (Below.refl _ _) m))).mono fun _ _ h => ⟨h.1, h.2.symm⟩⟩
  clear q1 q2 q3 q4 q5 q6 q7 hwA lk2 hlen2 hfn hb1 hsz hvn hdim h hw hwas hC hpb hfull hl hv hok
  go_enter Try.func15, Try.ntmps15
  go_upto_region 3 with (rw [HWA.out]; go_at_call 28; refine (given_calls g dim hd _ m0).mono ?_; rintro e w' ⟨rfl, rfl⟩)
  simp only [HPBE.out]
  go_quiet ((go_at_call 29; exact Calls.quiet_of_same (HCQ.out _)))
  go_upto_region 6 with (fail)
  have m2 : (wA.drewN nq).drew.cell? ⟨g, 2, none⟩ = some (.map (some ma)) := HM2.out
  have p0 : (wA.drewN nq).drew.cell? ⟨pb, 0, none⟩ = some (.int .i64 id) := (blk_cell HPB.out 0).trans rfl
  have lk : (Instr.lookup 66 (.map (some ma)) (.int .i64 id) true).run Try.prog (wA.drewN nq).drew = .ok (.tuple #[.slice none 0 0, .bool false]) (wA.drewN nq).drew := HLK2.out nq
  have HLENB := Aside0.mk (HLEN2.out nq)
  have HBB : Aside0 (RowKit.Below W.heap.size W (wA.drewN nq).drew) := ⟨below_drew1 (pw_below_drewN HB1.out nq)⟩
  clear p1 m0
  refine start_ (n := 12) (S := fun w' => w'.cell? ⟨g, 2, none⟩ = some (.map (some ma)) ∧ w'.cell? ⟨pb, 0, none⟩ = some (.int .i64 id) ∧ (Instr.lookup 66 (.map (some ma)) (.int .i64 id) true).run Try.prog w' = .ok (.tuple #[.slice none 0 0, .bool false]) w') (ds := []) #[false, false, false, false, false, false, false, false, false, false, false, false] (by kernel_rfl) rfl rfl ⟨m2, p0, lk⟩ (fun hHeld => ?_)
  refine with_tabW pu6.tab pu6.bits (fun HT_ HW_ => ?_)
  generalize (wA.drewN nq).drew = wB at *
  refine pure_ (i := 0) (N := some 23) (v := ?_) (a' := ?_) #[true, false, false, false, false, false, false, false, false, false, false, false] rfl rfl (any_of HT_.out (by kernel_rfl)) (fun _ _ _ h => h) (Or.inl ⟨by rfl, ?_⟩) ?_ ?_; rotate_left; focus (intro w'; go_simp; with_reducible rfl)
  rotate_left; focus (simp only [Act.put, List.setIfInBounds_toArray, List.set_cons_zero, List.set_cons_succ, i64_w, i32_w]; rfl)
  refine pure_ (i := 1) (N := some 24) (v := ?_) (a' := ?_) #[true, true, false, false, false, false, false, false, false, false, false, false] rfl rfl (any_of HT_.out (by kernel_rfl)) (fun _ _ _ h => h) (Or.inl ⟨by rfl, ?_⟩) ?_ ?_; rotate_left; focus (intro w'; go_simp; with_reducible rfl)
  rotate_left; focus (simp only [Act.put, List.setIfInBounds_toArray, List.set_cons_zero, List.set_cons_succ, i64_w, i32_w]; rfl)
  refine pure_ (i := 2) (N := some 25) (v := ?_) (a' := ?_) #[true, true, true, false, false, false, false, false, false, false, false, false] rfl rfl (any_of HT_.out (by kernel_rfl)) (fun _ _ _ h => h) (Or.inl ⟨by rfl, ?_⟩) ?_ ?_; rotate_left; focus (intro w'; go_simp; with_reducible rfl)
  rotate_left; focus (simp only [Act.put, List.setIfInBounds_toArray, List.set_cons_zero, List.set_cons_succ, i64_w, i32_w]; rfl)
  refine pure_ (i := 4) (N := some 27) (v := ?_) (a' := ?_) #[true, true, true, false, true, false, false, false, false, false, false, false] rfl rfl (any_of HT_.out (by kernel_rfl)) (fun _ _ _ h => h) (Or.inl ⟨by rfl, ?_⟩) ?_ ?_; rotate_left; focus (intro w'; go_simp; with_reducible rfl)
  rotate_left; focus (simp only [Act.put, List.setIfInBounds_toArray, List.set_cons_zero, List.set_cons_succ, i64_w, i32_w]; rfl)
  refine take_ (i := 3) (N := some 26) (v := ?_) (a' := ?_) #[true, true, true, true, true, false, false, false, false, false, false, false] rfl rfl (take_ofW HT_.out HW_.out (by kernel_rfl)) (fun _ _ _ h => h) (Or.inl ⟨by rfl, ?_⟩) hHeld ?_ ?_; rotate_left; focus (rintro w' ⟨s0, s1, s2⟩; go_simp; with_reducible rfl)
  rotate_left; focus (simp only [Act.put, List.setIfInBounds_toArray, List.set_cons_zero, List.set_cons_succ, i64_w, i32_w]; rfl)
  refine take_ (i := 5) (N := some 28) (v := ?_) (a' := ?_) #[true, true, true, true, true, true, false, false, false, false, false, false] rfl rfl (take_ofW HT_.out HW_.out (by kernel_rfl)) (fun _ _ _ h => h) (Or.inl ⟨by rfl, ?_⟩) hHeld ?_ ?_; rotate_left; focus (rintro w' ⟨s0, s1, s2⟩; go_simp; with_reducible rfl)
  rotate_left; focus (simp only [Act.put, List.setIfInBounds_toArray, List.set_cons_zero, List.set_cons_succ, i64_w, i32_w]; rfl)
  refine take_ (i := 6) (N := some 29) (v := ?_) (a' := ?_) #[true, true, true, true, true, true, true, false, false, false, false, false] rfl rfl (take_ofW HT_.out HW_.out (by kernel_rfl)) (fun _ _ _ h => h) (Or.inl ⟨by rfl, ?_⟩) hHeld ?_ ?_; rotate_left; focus (rintro w' ⟨s0, s1, s2⟩; go_simp; with_reducible rfl)
  rotate_left; focus (simp only [Act.put, List.setIfInBounds_toArray, List.set_cons_zero, List.set_cons_succ, i64_w, i32_w]; rfl)
  refine pure_ (i := 7) (N := some 22) (v := ?_) (a' := ?_) #[true, true, true, true, true, true, true, true, false, false, false, false] rfl rfl (any_of HT_.out (by kernel_rfl)) (fun _ _ _ h => h) (Or.inl ⟨by rfl, ?_⟩) ?_ ?_; rotate_left; focus (intro w'; go_simp; with_reducible rfl)
  rotate_left; focus (simp only [Act.put, List.setIfInBounds_toArray, List.set_cons_zero, List.set_cons_succ, i64_w, i32_w]; rfl)
  refine pure_ (i := 8) (N := some 30) (v := ?_) (a' := ?_) #[true, true, true, true, true, true, true, true, true, false, false, false] rfl rfl (any_of HT_.out (by kernel_rfl)) (fun _ _ _ h => h) (Or.inl ⟨by rfl, ?_⟩) ?_ ?_; rotate_left; focus (intro w'; go_simp; with_reducible rfl)
  rotate_left; focus (simp only [Act.put, List.setIfInBounds_toArray, List.set_cons_zero, List.set_cons_succ, i64_w, i32_w]; rfl)
  refine pure_ (i := 9) (N := some 31) (v := ?_) (a' := ?_) #[true, true, true, true, true, true, true, true, true, true, false, false] rfl rfl (any_of HT_.out (by kernel_rfl)) (fun _ _ _ h => h) (Or.inl ⟨by rfl, ?_⟩) ?_ ?_; rotate_left; focus (intro w'; go_simp; with_reducible rfl)
  rotate_left; focus (simp only [Act.put, List.setIfInBounds_toArray, List.set_cons_zero, List.set_cons_succ, i64_w, i32_w]; rfl)
  refine pure_ (i := 10) (N := some 7) (v := ?_) (a' := ?_) #[true, true, true, true, true, true, true, true, true, true, true, false] rfl rfl (any_of HT_.out (by kernel_rfl)) (fun _ _ _ h => h) (Or.inl ⟨by rfl, ?_⟩) ?_ ?_; rotate_left; focus (intro w'; go_simp; with_reducible rfl)
  rotate_left; focus (simp only [Act.put, List.setIfInBounds_toArray, List.set_cons_zero, List.set_cons_succ, i64_w, i32_w]; rfl)
  refine pure_ (i := 11) (N := some 8) (v := ?_) (a' := ?_) #[true, true, true, true, true, true, true, true, true, true, true, true] rfl rfl (any_of HT_.out (by kernel_rfl)) (fun _ _ _ h => h) (Or.inl ⟨by rfl, ?_⟩) ?_ ?_; rotate_left; focus (intro w'; go_simp; with_reducible rfl)
  rotate_left; focus (simp only [Act.put, List.setIfInBounds_toArray, List.set_cons_zero, List.set_cons_succ, i64_w, i32_w]; rfl)
  refine done_ (done_of HT_.out (by kernel_rfl)) ?_
  have hlenB := HLENB.out
  go_wp2_with fail
  go_ret2
  exact ⟨rfl, HBB.out⟩
theorem look_drop (x : Int) : ∀ (L : List (Int × List Int)) (y : Int), look (dropL x L) y = if y = x then none else look L y
  | [], y => by simp [dropL, look_nil]
  | p :: L, y => by
    have ih := look_drop x L y
    unfold dropL at ih ⊢
    by_cases h : p.1 = x
    · rw [List.filter_cons_of_neg (by simp [h]), ih, look_cons]
      by_cases e : y = x
      · rw [if_pos e, if_pos e]
      · rw [if_neg e, if_neg e, if_neg (by omega)]
    · rw [List.filter_cons_of_pos (by simp [h]), look_cons, ih, look_cons]
      by_cases e : y = x
      · rw [if_pos e, if_pos e, if_neg (by omega)]
      · rw [if_neg e, if_neg e]
theorem drop_same {x : Int} {L : List (Int × List Int)} (h : look L x = none) : dropL x L = L := by
  induction L with
  | nil => rfl
  | cons p L ih =>
    rw [look_cons] at h
    by_cases e : p.1 = x
    · rw [if_pos e] at h; cases h
    · rw [if_neg e] at h
      unfold dropL
      rw [List.filter_cons_of_pos (by simp [e])]
      exact congrArg _ (ih h)
theorem drop_len (x : Int) : ∀ (L : List (Int × List Int)), Rising L → (dropL x L).length = if (look L x).isSome then L.length - 1 else L.length
  | [], _ => rfl
  | p :: L, hr => by
    have hr' := List.pairwise_cons.1 hr
    have ih := drop_len x L hr'.2
    rw [look_cons]
    by_cases e : p.1 = x
    · rw [if_pos e]
      have hn : look L x = none := by
        cases h : look L x with
        | none => rfl
        | some v => have := hr'.1 _ (look_mem h); simp only [] at this; omega
      have h1 : dropL x (p :: L) = dropL x L := by unfold dropL; rw [List.filter_cons_of_neg (by simp [e])]
      rw [h1, drop_same hn]
      rfl
    · rw [if_neg e]
      have h1 : dropL x (p :: L) = p :: dropL x L := by unfold dropL; rw [List.filter_cons_of_pos (by simp [e])]
      rw [h1, List.length_cons, ih]
      split
      · rename_i h2
        have : 0 < L.length := by
          cases L with
          | nil => cases h2
          | cons => simp
        simp only [List.length_cons]
        omega
      · rfl
theorem tree_dropped {w9 wS : World} {g ma mi : Nat} {s : TS} {root : Value} {f : Int → Option Value} {ni : Nat} (h : TreeAt w9 g ma mi s)
    (q1 : w9.heap[g]? = some (.cells #[.int .i64 s.dim, root, .map (some ma), .map (some mi)] 69 (0, 0))) (q2 : IMap Try.prog 3 w9 ma f s.L.length) (q3 : IMap Try.prog 3 w9 mi (inV s.inn) ni) (q4 : ni ≤ 512) (q5 : NodeAt w9 w9.heap.size s.T root) (q6 : ∀ x, (f x).isSome = (look s.L x).isSome)
    (q7 : ∀ x val, f x = some val → ∃ v, look s.L x = some v ∧ VecAt w9 w9.heap.size val v) (hr : Rising s.L) (id : Int) (ht : Turns (fun j => j = ma) w9 wS) (hm : IMap Try.prog 3 wS ma (upd f id none) (if (f id).isSome then s.L.length - 1 else s.L.length)) :
    TreeAt wS g ma mi ⟨s.dim, dropL id s.L, s.inn, s.T⟩ := by
  obtain ⟨_, n1, n2, n3⟩ := h
  have hk : Kp w9.heap.size w9 wS := Kp.turns ht (fun j _ hj => by subst hj; exact imap_soft q2)
  refine ⟨⟨root, upd f id none, ni, ht.keep q1 n1, ?_, q3.move (ht.block mi q3.lt (Ne.symm n3)), q4, (q5.keep hk).more ht.size, fun x => ?_, fun x val' hx => ?_⟩, n1, n2, n3⟩
  · have := drop_len id s.L hr
    rw [← q6 id] at this
    show IMap Try.prog 3 wS ma _ (dropL id s.L).length
    rw [this]
    exact hm
  · show (upd f id none x).isSome = (look (dropL id s.L) x).isSome
    rw [look_drop]
    unfold upd
    split
    · rfl
    · exact q6 x
  · show ∃ v', look (dropL id s.L) x = some v' ∧ _
    rw [look_drop]
    unfold upd at hx
    split at hx
    · cases hx
    · rename_i e
      rw [if_neg e]
      obtain ⟨v', h1, h2⟩ := q7 x val' hx
      exact ⟨v', h1, (h2.keep hk).more ht.size⟩
set_option maxRecDepth 100000 in
set_option maxHeartbeats 4000000 in
theorem drop_ok (W : World) (g ma mi : Nat) (s : TS) (h : TreeAt W g ma mi s) (hok : TSok s) (id : Int) (hw : (Lit.int .i64 id).wf = true) (was : Bool) (hwas : (look s.L id).isSome = was) :
    Calls Try.prog 23 #[.pointer (some ⟨g, 0, none⟩), .int .i64 id] W (Took W g ma mi s.dim (dropL id s.L) (.bool was)) := by
  have hd := hok.d1
  have HT := Aside0.mk h
  have HOK := Aside0.mk hok
  obtain ⟨root, f, ni, q1, q2, q3, q4, q5, q6, q7⟩ := h.ex
  have c0 := h.dimc
  have c2 := h.allc
  have HC3 := Aside0.mk h.insc
  have lk := q2.look_ok law Try.underlying3 Try.underlying66 (zero23 _) id hw
  rw [q6 id, hwas] at lk
  have HW := Aside0.mk hw
  have HM2 := Aside0.mk q2
  have HQ := Aside0.mk (And.intro q1 (And.intro q3 (And.intro q4 (And.intro q5 (And.intro q6 q7)))))
  obtain ⟨z, hz⟩ : ∃ z, (f id).getD (.slice none 0 0) = z := ⟨_, rfl⟩
  rw [hz] at lk
  have HN := Aside0.mk h.2
  clear q1 q2 q3 q4 q5 q6 q7 hok h hw hz hwas
  go_enter Try.func23, Try.ntmps23
  go_upto_region 5 with (first | (go_at_call 28; refine (given_calls g s.dim (by omega) _ c0).mono ?_; rintro e w' ⟨rfl, rfl⟩) | (at_delete; refine wpList_drop_imap rfl _ _ rfl law Try.underlying3 Try.underlying66 rfl HM2.out id rfl HW.out ?_; intro w1 hm1 ht1; have HM3 := Aside0.mk hm1; have HT3 := Aside0.mk (turned_block ht1); clear hm1 ht1))
  have HD1 := Aside0.mk (tree_dropped HT.out HQ.out.1 HM2.out HQ.out.2.1 HQ.out.2.2.1 HQ.out.2.2.2.1 HQ.out.2.2.2.2.1 HQ.out.2.2.2.2.2 HOK.out.rise id HT3.out HM3.out)
  obtain ⟨⟨root9, f9, ni9, q1, q2, q3, q4, q5, q6, q7⟩, _, _, _⟩ := HD1.out
  have c3 := HD1.out.insc
  have HQ9 := Aside0.mk (And.intro q1 (And.intro q2 (And.intro q3 (And.intro q4 (And.intro q5 (And.intro q6 q7))))))
  clear q1 q2 q3 q4 q5 q6 q7 c0 c2 lk
  go_upto_region 6 with (at_delete; refine wpList_drop_imap rfl _ _ rfl law Try.underlying3 Try.underlying67 rfl HQ9.out.2.2.1 id rfl HW.out ?_; intro w2 hm2 ht2; have HM4 := Aside0.mk hm2; have HT4 := Aside0.mk (turned_block ht2); clear hm2 ht2)
  have HD2 := Aside0.mk (tree_outed HD1.out HQ9.out.1 HQ9.out.2.1 HQ9.out.2.2.1 HQ9.out.2.2.2.1 HQ9.out.2.2.2.2.1 HQ9.out.2.2.2.2.2.1 HQ9.out.2.2.2.2.2.2 id HT4.out HM4.out)
  have HTI := Aside0.mk (tidies_all _ g ma mi _ HD2.out (HOK.out.drop id))
  clear c3
  go_wp2_with (go_at_call 31; refine HTI.out.mono ?_; rintro e w5 ⟨rfl, hx5, ht5⟩; have HX5 := Aside0.mk hx5; have HT5 := Aside0.mk ht5; clear hx5 ht5)
  go_ret
  obtain ⟨mi', s', h3, h4, h5⟩ := HX5.out
  obtain ⟨h7, h8, h9⟩ := Tidy.ok h4 (HOK.out.drop id)
  have t3 := HT3.out.wide (G := fun j => j = g ∨ j = ma ∨ j = mi) (fun j hj => .inr (.inl hj))
  have t4 := HT4.out.wide (G := fun j => j = g ∨ j = ma ∨ j = mi) (fun j hj => .inr (.inr hj))
  refine ⟨rfl, ⟨mi', s', h3, h7, h8, h9, ?_⟩, (t3.trans_ t4).trans_ HT5.out⟩
  rcases h5 with e | e
  · exact .inl e
  · exact .inr (Nat.le_trans (Nat.le_trans t3.size t4.size) e)
theorem get_none (W : World) (g ma mi : Nat) (s : TS) (h : TreeAt W g ma mi s) (hok : TSok s) (id : Int) (hw : (Lit.int .i64 id).wf = true) (hwas : look s.L id = none) :
    Calls Try.prog 25 #[.pointer (some ⟨g, 0, none⟩), .int .i64 id] W fun e w' => e = .returned (.tuple #[.slice none 0 0, .int .i64 3]) ∧ W = w' := by
  have hd := hok.d1
  obtain ⟨root, f, ni, q1, q2, q3, q4, q5, q6, q7⟩ := h.ex
  have c0 := h.dimc
  have c2 := h.allc
  have lk := q2.look_ok law Try.underlying3 Try.underlying66 (zero23 _) id hw
  rw [q6 id, hwas] at lk
  obtain ⟨z, hz⟩ : ∃ z, (f id).getD (.slice none 0 0) = z := ⟨_, rfl⟩
  rw [hz] at lk
  clear q1 q2 q3 q4 q5 q6 q7 hok h hw hz hwas
  go_enter Try.func25, Try.ntmps25
  go_wp2_with (go_at_call 28; refine (given_calls g s.dim (by omega) _ c0).mono ?_; rintro e w' ⟨rfl, rfl⟩)
  go_ret2
  exact ⟨rfl, rfl⟩
structure GotV (W : World) (v : List Int) (e : Ending) (w' : World) : Prop where
  ex : ∃ A c, e = .returned (.tuple #[.slice A v.length c, .int .i64 0]) ∧ Kd.C (Kd.int .i64) w' A v.length v ∧ v.length ≤ c
  below : Below W.heap.size W w'
theorem get_some (W : World) (g ma mi : Nat) (s : TS) (h : TreeAt W g ma mi s) (hok : TSok s) (id : Int) (hw : (Lit.int .i64 id).wf = true) (v : List Int) (hwas : look s.L id = some v) :
    Calls Try.prog 25 #[.pointer (some ⟨g, 0, none⟩), .int .i64 id] W (GotV W v) := by
  have hd := hok.d1
  have hv : isV v = true ∧ _ := hok.vecs _ (look_mem hwas)
  have hlen := isV_len hv.1
  obtain ⟨root, f, ni, q1, q2, q3, q4, q5, q6, q7⟩ := h.ex
  have c0 := h.dimc
  have c2 := h.allc
  have lk := q2.look_ok law Try.underlying3 Try.underlying66 (zero23 _) id hw
  have hs := q6 id
  rw [hwas] at hs
  obtain ⟨val, hval⟩ : ∃ val, f id = some val := by
    cases e : f id with
    | none => rw [e] at hs; cases hs
    | some x => exact ⟨x, rfl⟩
  obtain ⟨v', e1, hva⟩ := q7 id val hval
  rw [hwas] at e1
  cases e1
  obtain ⟨A, c, rfl, hC, _⟩ := hva.form (by omega)
  rw [hval] at lk
  have HCL := Aside0.mk (clone_calls A c v W hC hlen.1 (by omega))
  obtain ⟨vn, hvn⟩ : ∃ vn, v.length = vn := ⟨_, rfl⟩
  have HVN := Aside0.mk hvn
  have HLEN := Aside0.mk hlen
  rw [hvn] at lk HCL
  clear q1 q2 q3 q4 q5 q6 q7 hok h hw hwas hs hval hva hC hlen hvn hv
  go_enter Try.func25, Try.ntmps25
  go_wp2_with (first | (go_at_call 28; refine (given_calls g s.dim (by omega) _ c0).mono ?_; rintro e w' ⟨rfl, rfl⟩) | (go_at_call 30; refine HCL.out.mono ?_; rintro e w5 ⟨⟨val5, rfl, hv5⟩, hb5⟩; have HV5 := Aside0.mk hv5; have HB5 := Aside0.mk hb5; clear hv5 hb5))
  go_ret2
  obtain ⟨A', c', rfl, hC', _⟩ := HV5.out.form (by have := HLEN.out; omega)
  exact ⟨⟨A', c', rfl, hC', HV5.out.room⟩, HB5.out⟩
/-- A tree of d numbers that holds L, of the law's own. -/
def HoldsD (W : World) (b0 g ma : Nat) (d : Int) (L : List (Int × List Int)) : Prop := ∃ mi s, TreeAt W g ma mi s ∧ TSok s ∧ s.L = L ∧ s.dim = d ∧ b0 ≤ mi ∧ b0 ≤ g ∧ b0 ≤ ma
theorem HoldsD.below {W W' : World} {b0 g ma : Nat} {d : Int} {L : List (Int × List Int)} (h : HoldsD W b0 g ma d L) (hb : Below W.heap.size W W') : HoldsD W' b0 g ma d L := by
  obtain ⟨mi, s, h1, h2⟩ := h
  exact ⟨mi, s, h1.below hb, h2⟩
theorem HoldsD.few {W : World} {b0 g ma : Nat} {d : Int} {L : List (Int × List Int)} (h : HoldsD W b0 g ma d L) : L.length ≤ 512 := by
  obtain ⟨mi, s, h1, h2, rfl, _⟩ := h
  exact h2.few
theorem HoldsD.rise {W : World} {b0 g ma : Nat} {d : Int} {L : List (Int × List Int)} (h : HoldsD W b0 g ma d L) : Rising L := by
  obtain ⟨mi, s, h1, h2, rfl, _⟩ := h
  exact h2.rise
theorem HoldsD.vecs {W : World} {b0 g ma : Nat} {d : Int} {L : List (Int × List Int)} (h : HoldsD W b0 g ma d L) : ∀ p ∈ L, isV p.2 = true ∧ (p.2.length : Int) = d ∧ (Lit.int .i64 p.1).wf = true := by
  obtain ⟨mi, s, h1, h2, rfl, rfl, _⟩ := h
  exact h2.vecs
theorem HoldsD.dims {W : World} {b0 g ma : Nat} {d : Int} {L : List (Int × List Int)} (h : HoldsD W b0 g ma d L) : 1 ≤ d ∧ d ≤ 16 := by
  obtain ⟨mi, s, h1, h2, _, rfl, _⟩ := h
  exact ⟨h2.d1, h2.d2⟩
theorem HoldsD.lt {W : World} {b0 g ma : Nat} {d : Int} {L : List (Int × List Int)} (h : HoldsD W b0 g ma d L) : b0 ≤ W.heap.size := by
  obtain ⟨mi, s, h1, _, _, _, _, h3, _⟩ := h
  have := h1.lt.1
  omega
structure DoneH (W : World) (b0 g ma : Nat) (d : Int) (L : List (Int × List Int)) (v : Value) (e : Ending) (w' : World) : Prop where
  ret : e = .returned v
  holds : HoldsD w' b0 g ma d L
  below : Below b0 W w'
theorem done_of_took {W : World} {b0 g ma mi : Nat} {d : Int} {L : List (Int × List Int)} {v : Value} {e : Ending} {w' : World} (hmi : b0 ≤ mi) (hg : b0 ≤ g) (hma : b0 ≤ ma) (hb : b0 ≤ W.heap.size) (h : Took W g ma mi d L v e w') : DoneH W b0 g ma d L v e w' := by
  obtain ⟨e1, ⟨mi', s', t1, t2, t3, t4, t5⟩, tu⟩ := h
  exact ⟨e1, ⟨mi', s', t1, t2, t3, t4, by omega, hg, hma⟩, belowB_turns (Below.refl _ _) tu (fun j hj => by rcases hj with rfl | rfl | rfl <;> assumption) hb⟩
/-- What Put answers, and what there is then. -/
def putR (d : Int) (L : List (Int × List Int)) (id : Int) (v : List Int) : Bool × Int × List (Int × List Int) :=
  if ckV v d = 0 then (if (look L id).isSome = true ∨ L.length < 512 then ((look L id).isSome, 0, putL id v L) else (false, 2, L)) else (false, 50, L)
theorem ck_cases (v : List Int) (d : Int) : (isV v = true ∧ (v.length : Int) = d ∧ ckV v d = 0) ∨ ckV v d = 50 := by
  unfold ckV
  split
  · rename_i h; exact .inl ⟨h.1, h.2, rfl⟩
  · exact .inr rfl
theorem hold_len {W : World} {b0 g ma : Nat} {d : Int} {L : List (Int × List Int)} (h : HoldsD W b0 g ma d L) : Calls Try.prog 20 #[.pointer (some ⟨g, 0, none⟩)] W fun e w' => e = .returned (.int .i64 L.length) ∧ W = w' := by
  obtain ⟨mi, s, ht, hok, rfl, rfl, hm, hg, hma⟩ := h
  have hd := hok.d1
  exact len_calls W g ma mi s ht (by omega)
structure TopD (W : World) (b0 g ma : Nat) (d : Int) (L : List (Int × List Int)) (l : List (Int × Int)) (e : Ending) (w' : World) : Prop where
  ex : ∃ A c, e = .returned (.tuple #[.slice A l.length c, .int .i64 0]) ∧ w'.ownsRow W.heap.size 49 2 (.slice A l.length c) l.length (prs l)
  holds : HoldsD w' b0 g ma d L
  below : Below W.heap.size W w'
theorem hold_top {W : World} {b0 g ma : Nat} {d : Int} {L : List (Int × List Int)} (h : HoldsD W b0 g ma d L) (V : Option Addr) (vc : Nat) (v : List Int) (hC : Kd.C (Kd.int .i64) W V v.length v) (hvb : ∀ ad, V = some ad → ad.block < W.heap.size) (hv : isV v = true) (hvd : (v.length : Int) = d) (k : Nat) (hk1 : 1 ≤ k) (hk2 : k ≤ 64) (limit : Int) :
    Calls Try.prog 17 #[.pointer (some ⟨g, 0, none⟩), .slice V v.length vc, .int .i64 (k : Int), .int .i64 limit] W (TopD W b0 g ma d L (best k limit (hits L v))) := by
  obtain ⟨mi, s, ht, hok, rfl, rfl, hm⟩ := h
  exact (top_ok W g ma mi s ht hok V vc v hC hvb hv hvd k hk1 hk2 limit).mono fun e w' hh => ⟨hh.ex, ⟨mi, s, ht.below hh.below, hok, rfl, rfl, hm⟩, hh.below⟩
structure PointsD (W : World) (b0 g ma : Nat) (d : Int) (L : List (Int × List Int)) (e : Ending) (w' : World) : Prop where
  done : PointsDone W d.toNat L e w'
  holds : HoldsD w' b0 g ma d L
theorem hold_points {W : World} {b0 g ma : Nat} {d : Int} {L : List (Int × List Int)} (h : HoldsD W b0 g ma d L) : Calls Try.prog 22 #[.pointer (some ⟨g, 0, none⟩)] W (PointsD W b0 g ma d L) := by
  obtain ⟨mi, s, ht, hok, rfl, rfl, hm⟩ := h
  exact (points_ok W g ma mi s ht hok).mono fun e w' hh => ⟨hh, ⟨mi, s, ht.below hh.below, hok, rfl, rfl, hm⟩⟩
structure NewD (W : World) (d : Int) (e : Ending) (w' : World) : Prop where
  ex : ∃ g ma, e = .returned (.tuple #[.pointer (some ⟨g, 0, none⟩), .int .i64 0]) ∧ HoldsD w' W.heap.size g ma d []
  below : Below W.heap.size W w'
theorem hold_new (d : Int) (h1 : 1 ≤ d) (h2 : d ≤ 16) (W : World) : Calls Try.prog 11 #[.int .i64 d] W (NewD W d) :=
  (new_calls d h1 h2 W).mono fun e w' hh => by
    obtain ⟨⟨g, ma, mi, rfl, ht, hg1, hg2, hg3⟩, hb⟩ := hh
    exact ⟨⟨g, ma, rfl, ⟨mi, _, ht, TSok.new h1 h2, rfl, rfl, hg3, hg1, hg2⟩⟩, hb⟩
end Go.Proofs.Ytealiaafdkhonaa.Vp
namespace Go.Proofs.Ytealiaafdkhonaa.Vp
open Go.RowKit Go.Sort Mb Base Go.WideShapes Go.ChangeShapes Go.Proofs.YtealiaafdkhonaaW.PrintWords Go.Proofs.YtealiaafdkhonaaW.PrintLast Go.Proofs.YtealiaafdkhonaaW.PrintMore
set_option linter.unusedVariables false
set_option linter.unusedSimpArgs false
section
variable {P : Program} {H : Type} {enc : TypeId × Value → H} {W : World} {base : Nat} {spare : Nat → Bool} {held : Bool} {e : TypeId}
end
end Go.Proofs.Ytealiaafdkhonaa.Vp
