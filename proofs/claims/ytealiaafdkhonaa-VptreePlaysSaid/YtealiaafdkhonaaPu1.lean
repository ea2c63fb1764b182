/- Several texts in one: Pu, Ty. -/
import Derived.Test.YtealiaafdkhonaaTr1
namespace Go.Proofs.Ytealiaafdkhonaa.Vp
open Go.RowKit Go.Sort Mb Base Go.Proofs.YtealiaafdkhonaaW.PrintWords Go.Proofs.YtealiaafdkhonaaW.PrintLast Go.Proofs.YtealiaafdkhonaaW.PrintMore
set_option linter.unusedVariables false
set_option linter.unusedSimpArgs false
/-- Tidied: as it was, or built anew. -/
inductive Tidy (B : TS → VT → Prop) (s : TS) : TS → Prop where
  | same : Tidy B s s
  | anew (T : VT) : B s T → Tidy B s ⟨s.dim, s.L, fun x => (look s.L x).isSome, T⟩
structure TidyDone (B : TS → VT → Prop) (W : World) (g ma mi : Nat) (s : TS) (e : Ending) (w' : World) : Prop where
  ret : e = .returned (.tuple #[])
  ex : ∃ mi' s', TreeAt w' g ma mi' s' ∧ Tidy B s s' ∧ (mi' = mi ∨ W.heap.size ≤ mi')
  turns : Turns (fun j => j = g ∨ j = ma ∨ j = mi) W w'
structure PutDone (B : TS → VT → Prop) (W : World) (g ma mi : Nat) (s : TS) (was : Bool) (e : Ending) (w' : World) : Prop where
  ret : e = .returned (.tuple #[.bool was, .int .i64 0])
  ex : ∃ mi' s', TreeAt w' g ma mi' s' ∧ Tidy B s s' ∧ (mi' = mi ∨ W.heap.size ≤ mi')
  turns : Turns (fun j => j = g ∨ j = ma ∨ j = mi) W w'

set_option maxRecDepth 100000 in
set_option maxHeartbeats 4000000 in
theorem put_calls (B : TS → VT → Prop) (W : World) (g ma mi : Nat) (s : TS) (h : TreeAt W g ma mi s) (hd : 0 < s.dim) (hrs : Rising s.L) (hnl : s.L.length ≤ 512) (id : Int) (hw : (Lit.int .i64 id).wf = true) (A : Option Addr) (c : Nat) (v : List Int) (hC : Kd.C (Kd.int .i64) W A v.length v) (hck : ckV v s.dim = 0) (hv1 : 1 ≤ v.length) (hv2 : v.length ≤ 16)
    (was : Bool) (hwas : (look s.L id).isSome = was) (hfull : was = true ∨ s.L.length < 512)
    (hT : ∀ W', TreeAt W' g ma mi ⟨s.dim, putL id v s.L, outI s.inn id, s.T⟩ → Calls Try.prog 31 #[.pointer (some ⟨g, 0, none⟩)] W' (TidyDone B W' g ma mi ⟨s.dim, putL id v s.L, outI s.inn id, s.T⟩)) :
    Calls Try.prog 15 #[.pointer (some ⟨g, 0, none⟩), .agg #[.int .i64 id, .slice A v.length c]] W (PutDone B W g ma mi ⟨s.dim, putL id v s.L, outI s.inn id, s.T⟩ was) := by
  have HT0 := Aside0.mk h
  have HRS := Aside0.mk hrs
  have HWF := Aside0.mk hw
  have HTI := Aside0.mk hT
  have HWAS := Aside0.mk hwas
  have hb1 := below_alloc (Below.refl W.heap.size W) (.cells #[.int .i64 id, .slice A v.length c] 37)
  have HPB := Aside0.mk (blk_new W (.cells #[.int .i64 id, .slice A v.length c] 37))
  have HT1 := Aside0.mk (h.below hb1)
  have HB1 := Aside0.mk hb1
  have HC1 := Aside0.mk (Kd.C_below hC hb1)
  have HCK := Aside0.mk (fun (W' : World) (hr : Kd.C (Kd.int .i64) W' A v.length v) => check_calls A c v s.dim W' hr)
  rw [hck] at HCK
  have HCLO := Aside0.mk (fun (W' : World) (hr : Kd.C (Kd.int .i64) W' A v.length v) => clone_calls A c v W' hr hv1 (by omega))
  obtain ⟨root, f, ni, q1, q2, q3, q4, q5, q6, q7⟩ := HT1.out.ex
  have m0 : (W.alloc (.cells #[.int .i64 id, .slice A v.length c] 37)).cell? ⟨g, 0, none⟩ = some (.int .i64 s.dim) := (blk_cell q1 0).trans rfl
  have HM2 : Aside0 ((W.alloc (.cells #[.int .i64 id, .slice A v.length c] 37)).cell? ⟨g, 2, none⟩ = some (.map (some ma))) := ⟨(blk_cell q1 2).trans rfl⟩
  have lk := q2.look_ok law Try.underlying3 Try.underlying66 (zero23 _) id hw
  have hlen := fun ty => q2.len Try.underlying66 ty
  rw [q6 id, hwas] at lk
  have hold : ∃ A0 n0 c0, (f id).getD (.slice none 0 0) = .slice A0 n0 c0 := by
    cases e : f id with
    | none => exact ⟨none, 0, 0, rfl⟩
    | some val => obtain ⟨v', _, ⟨j, c', cur, rfl, _⟩⟩ := q7 id val e; exact ⟨_, _, _, rfl⟩
  obtain ⟨A0, n0, c0, hold⟩ := hold
  rw [hold] at lk
  have lk2 := fun m : Nat => (((q2.drewN m).drew).look_ok law Try.underlying3 Try.underlying66 (zero23 _) id hw)
  rw [q6 id, hwas] at lk2
  rw [hold] at lk2
  have hlen2 := fun (m : Nat) ty => ((q2.drewN m).drew).len Try.underlying66 ty
  have HLK2 := Aside0.mk lk2
  have HLEN2 := Aside0.mk hlen2
  obtain ⟨N, hN⟩ : ∃ N, s.L.length = N := ⟨_, rfl⟩
  have HNN := Aside0.mk hN
  rw [hN] at HLEN2 hfull hnl
  have p1 : (W.alloc (.cells #[.int .i64 id, .slice A v.length c] 37)).cell? ⟨W.heap.size, 1, none⟩ = some (.slice A v.length c) := (blk_cell HPB.out 1).trans rfl
  have hsz : W.heap.size < (W.alloc (.cells #[.int .i64 id, .slice A v.length c] 37)).heap.size := by simp
  have HSZ := Aside0.mk hsz
  obtain ⟨vn, hvn⟩ : ∃ vn, v.length = vn := ⟨_, rfl⟩
  have HVN := Aside0.mk hvn
  obtain ⟨dim, hdim⟩ : ∃ dim, s.dim = dim := ⟨_, rfl⟩
  have HDIM := Aside0.mk hdim
  rw [hvn] at HC1 HCK HPB HB1 HT1 HM2 HLK2 HLEN2 HSZ p1 m0 HCLO
  rw [hdim] at m0 HCK hd
  rw [hvn]
  rw [hdim] at HTI
  rw [hdim]
  obtain ⟨pb, hpb⟩ : ∃ pb, W.heap.size = pb := ⟨_, rfl⟩
  have HPBE := Aside0.mk hpb
  obtain ⟨wA, hwA⟩ : ∃ wA, W.alloc (.cells #[.int .i64 id, .slice A vn c] 37) = wA := ⟨_, rfl⟩
  have HWA := Aside0.mk hwA
  rw [hwA] at HC1 HPB HB1 HT1 HM2 HLK2 HLEN2 HSZ p1 m0
  rw [hpb] at HPB p1 HSZ
  have HCQ : Aside0 (∀ m, Calls Try.prog 29 #[.slice A vn c, .int .i64 dim] (wA.drewN m) fun e w' => e = .returned (.int .i64 0) ∧ w' = wA.drewN m) := ⟨fun m => (HCK.out (wA.drewN m) (Kd.C_below HC1.out (pw_below_drewN (Below.refl _ _) m))).mono fun _ _ h => ⟨h.1, h.2.symm⟩⟩
  clear q1 q2 q3 q4 q5 q6 q7 hwA lk hlen lk2 hlen2 hold hN hb1 hsz hvn hdim h hrs hw hT hwas hC hck hpb
  go_enter Try.func15, Try.ntmps15
  go_upto_region 3 with (rw [HWA.out]; go_at_call 28; refine (given_calls g dim hd _ m0).mono ?_; rintro e w' ⟨rfl, rfl⟩)
  simp only [HPBE.out]
  go_quiet ((go_at_call 29; exact Calls.quiet_of_same (HCQ.out _)))

  go_upto_region 6 with (fail)
  have m2 : (wA.drewN nq).drew.cell? ⟨g, 2, none⟩ = some (.map (some ma)) := HM2.out
  have p0 : (wA.drewN nq).drew.cell? ⟨pb, 0, none⟩ = some (.int .i64 id) := (blk_cell HPB.out 0).trans rfl
  have p1' : (wA.drewN nq).drew.cell? ⟨pb, 1, none⟩ = some (.slice A vn c) := p1
  have lk : (Instr.lookup 66 (.map (some ma)) (.int .i64 id) true).run Try.prog (wA.drewN nq).drew = .ok (.tuple #[.slice A0 n0 c0, .bool was]) (wA.drewN nq).drew := HLK2.out nq
  have HLENB := Aside0.mk (HLEN2.out nq)
  have HTB := Aside0.mk ((HT1.out.below (pw_below_drewN (Below.refl _ _) nq)).drew)
  have HCB := Aside0.mk (Kd.C_below (Kd.C_below HC1.out (pw_below_drewN (Below.refl _ _) nq)) (below_drew1 (Below.refl _ _)))
  have HBB : Aside0 (RowKit.Below W.heap.size W (wA.drewN nq).drew) := ⟨below_drew1 (pw_below_drewN HB1.out nq)⟩
  have HPBB := Aside0.mk (blk_drew (blk_drewN HPB.out nq))
  clear p1 m0
  refine start_ (n := 12) (S := fun w' => w'.cell? ⟨g, 2, none⟩ = some (.map (some ma)) ∧ w'.cell? ⟨pb, 0, none⟩ = some (.int .i64 id) ∧ (Instr.lookup 66 (.map (some ma)) (.int .i64 id) true).run Try.prog w' = .ok (.tuple #[.slice A0 n0 c0, .bool was]) w') (ds := []) #[false, false, false, false, false, false, false, false, false, false, false, false] (by kernel_rfl) rfl rfl ⟨m2, p0, lk⟩ (fun hHeld => ?_)
  refine with_tabW pu6.tab pu6.bits (fun HT_ HW_ => ?_)
  generalize (wA.drewN nq).drew = wB at *
  refine pure_ (i := 0) (N := some 23) (v := ?_) (a' := ?_) #[true, false, false, false, false, false, false, false, false, false, false, false] rfl rfl (any_of HT_.out (by kernel_rfl)) (fun _ _ _ h => h) (Or.inl ⟨by rfl, ?_⟩) ?_ ?_
  rotate_left
  · intro w'
    go_simp
    with_reducible rfl
  rotate_left
  · simp only [Act.put, List.setIfInBounds_toArray, List.set_cons_zero, List.set_cons_succ, i64_w, i32_w]
    rfl
  refine pure_ (i := 1) (N := some 24) (v := ?_) (a' := ?_) #[true, true, false, false, false, false, false, false, false, false, false, false] rfl rfl (any_of HT_.out (by kernel_rfl)) (fun _ _ _ h => h) (Or.inl ⟨by rfl, ?_⟩) ?_ ?_
  rotate_left
  · intro w'
    go_simp
    with_reducible rfl
  rotate_left
  · simp only [Act.put, List.setIfInBounds_toArray, List.set_cons_zero, List.set_cons_succ, i64_w, i32_w]
    rfl
  refine pure_ (i := 2) (N := some 25) (v := ?_) (a' := ?_) #[true, true, true, false, false, false, false, false, false, false, false, false] rfl rfl (any_of HT_.out (by kernel_rfl)) (fun _ _ _ h => h) (Or.inl ⟨by rfl, ?_⟩) ?_ ?_
  rotate_left
  · intro w'
    go_simp
    with_reducible rfl
  rotate_left
  · simp only [Act.put, List.setIfInBounds_toArray, List.set_cons_zero, List.set_cons_succ, i64_w, i32_w]
    rfl
  refine pure_ (i := 4) (N := some 27) (v := ?_) (a' := ?_) #[true, true, true, false, true, false, false, false, false, false, false, false] rfl rfl (any_of HT_.out (by kernel_rfl)) (fun _ _ _ h => h) (Or.inl ⟨by rfl, ?_⟩) ?_ ?_
  rotate_left
  · intro w'
    go_simp
    with_reducible rfl
  rotate_left
  · simp only [Act.put, List.setIfInBounds_toArray, List.set_cons_zero, List.set_cons_succ, i64_w, i32_w]
    rfl
  refine take_ (i := 3) (N := some 26) (v := ?_) (a' := ?_) #[true, true, true, true, true, false, false, false, false, false, false, false] rfl rfl (take_ofW HT_.out HW_.out (by kernel_rfl)) (fun _ _ _ h => h) (Or.inl ⟨by rfl, ?_⟩) hHeld ?_ ?_
  rotate_left
  · rintro w' ⟨s0, s1, s2⟩
    go_simp
    with_reducible rfl
  rotate_left
  · simp only [Act.put, List.setIfInBounds_toArray, List.set_cons_zero, List.set_cons_succ, i64_w, i32_w]
    rfl
  refine take_ (i := 5) (N := some 28) (v := ?_) (a' := ?_) #[true, true, true, true, true, true, false, false, false, false, false, false] rfl rfl (take_ofW HT_.out HW_.out (by kernel_rfl)) (fun _ _ _ h => h) (Or.inl ⟨by rfl, ?_⟩) hHeld ?_ ?_
  rotate_left
  · rintro w' ⟨s0, s1, s2⟩
    go_simp
    with_reducible rfl
  rotate_left
  · simp only [Act.put, List.setIfInBounds_toArray, List.set_cons_zero, List.set_cons_succ, i64_w, i32_w]
    rfl
  refine take_ (i := 6) (N := some 29) (v := ?_) (a' := ?_) #[true, true, true, true, true, true, true, false, false, false, false, false] rfl rfl (take_ofW HT_.out HW_.out (by kernel_rfl)) (fun _ _ _ h => h) (Or.inl ⟨by rfl, ?_⟩) hHeld ?_ ?_
  rotate_left
  · rintro w' ⟨s0, s1, s2⟩
    go_simp
    with_reducible rfl
  rotate_left
  · simp only [Act.put, List.setIfInBounds_toArray, List.set_cons_zero, List.set_cons_succ, i64_w, i32_w]
    rfl
  refine pure_ (i := 7) (N := some 22) (v := ?_) (a' := ?_) #[true, true, true, true, true, true, true, true, false, false, false, false] rfl rfl (any_of HT_.out (by kernel_rfl)) (fun _ _ _ h => h) (Or.inl ⟨by rfl, ?_⟩) ?_ ?_
  rotate_left
  · intro w'
    go_simp
    with_reducible rfl
  rotate_left
  · simp only [Act.put, List.setIfInBounds_toArray, List.set_cons_zero, List.set_cons_succ, i64_w, i32_w]
    rfl
  refine pure_ (i := 8) (N := some 30) (v := ?_) (a' := ?_) #[true, true, true, true, true, true, true, true, true, false, false, false] rfl rfl (any_of HT_.out (by kernel_rfl)) (fun _ _ _ h => h) (Or.inl ⟨by rfl, ?_⟩) ?_ ?_
  rotate_left
  · intro w'
    go_simp
    with_reducible rfl
  rotate_left
  · simp only [Act.put, List.setIfInBounds_toArray, List.set_cons_zero, List.set_cons_succ, i64_w, i32_w]
    rfl
  refine pure_ (i := 9) (N := some 31) (v := ?_) (a' := ?_) #[true, true, true, true, true, true, true, true, true, true, false, false] rfl rfl (any_of HT_.out (by kernel_rfl)) (fun _ _ _ h => h) (Or.inl ⟨by rfl, ?_⟩) ?_ ?_
  rotate_left
  · intro w'
    go_simp
    with_reducible rfl
  rotate_left
  · simp only [Act.put, List.setIfInBounds_toArray, List.set_cons_zero, List.set_cons_succ, i64_w, i32_w]
    rfl
  refine pure_ (i := 10) (N := some 7) (v := ?_) (a' := ?_) #[true, true, true, true, true, true, true, true, true, true, true, false] rfl rfl (any_of HT_.out (by kernel_rfl)) (fun _ _ _ h => h) (Or.inl ⟨by rfl, ?_⟩) ?_ ?_
  rotate_left
  · intro w'
    go_simp
    with_reducible rfl
  rotate_left
  · simp only [Act.put, List.setIfInBounds_toArray, List.set_cons_zero, List.set_cons_succ, i64_w, i32_w]
    rfl
  refine pure_ (i := 11) (N := some 8) (v := ?_) (a' := ?_) #[true, true, true, true, true, true, true, true, true, true, true, true] rfl rfl (any_of HT_.out (by kernel_rfl)) (fun _ _ _ h => h) (Or.inl ⟨by rfl, ?_⟩) ?_ ?_
  rotate_left
  · intro w'
    go_simp
    with_reducible rfl
  rotate_left
  · simp only [Act.put, List.setIfInBounds_toArray, List.set_cons_zero, List.set_cons_succ, i64_w, i32_w]
    rfl
  refine done_ (done_of HT_.out (by kernel_rfl)) ?_
  have hlenB := HLENB.out
  have p1 := p1'
  clear p1'
  cases was
  all_goals
    (try have hfl : ¬ (512 : Int) ≤ (N : Int) := by rcases hfull with h | h; cases h; omega)
    clear hfull
    go_upto_region 9 with (fail)
    have HTC := Aside0.mk (HTB.out.drew)
    have HCL : Aside0 (Calls Try.prog 30 #[.slice A vn c] wB.drew (Cloned wB.drew v)) := ⟨HCLO.out _ (Kd.C_below HCB.out (below_drew1 (Below.refl _ _)))⟩
    have HBC := Aside0.mk (below_drew1 HBB.out)
    have m2 : wB.drew.cell? ⟨g, 2, none⟩ = some (.map (some ma)) := m2
    have p0 : wB.drew.cell? ⟨pb, 0, none⟩ = some (.int .i64 id) := p0
    have p1 : wB.drew.cell? ⟨pb, 1, none⟩ = some (.slice A vn c) := p1
    have HPBC := Aside0.mk (blk_drew HPBB.out)
    clear hlenB lk
    refine start_ (n := 10) (S := fun w' => w'.cell? ⟨g, 2, none⟩ = some (.map (some ma)) ∧ w'.cell? ⟨pb, 0, none⟩ = some (.int .i64 id) ∧ w'.cell? ⟨pb, 1, none⟩ = some (.slice A vn c)) (ds := [9]) #[false, false, false, false, false, false, false, false, false, false] (by kernel_rfl) rfl rfl ⟨m2, p0, p1⟩ (fun hHeld => ?_)
    refine with_tabW pu9.tab pu9.bits (fun HT_ HW_ => ?_)
    generalize wB.drew = wC at *
    refine pure_ (i := 0) (N := some 42) (v := ?_) (a' := ?_) #[true, false, false, false, false, false, false, false, false, false] rfl rfl (any_of HT_.out (by kernel_rfl)) (fun _ _ _ h => h) (Or.inl ⟨by rfl, ?_⟩) ?_ ?_
    rotate_left
    · intro w'
      go_simp
      with_reducible rfl
    rotate_left
    · simp only [Act.put, List.setIfInBounds_toArray, List.set_cons_zero, List.set_cons_succ, i64_w, i32_w]
      rfl
    refine pure_ (i := 1) (N := some 43) (v := ?_) (a' := ?_) #[true, true, false, false, false, false, false, false, false, false] rfl rfl (any_of HT_.out (by kernel_rfl)) (fun _ _ _ h => h) (Or.inl ⟨by rfl, ?_⟩) ?_ ?_
    rotate_left
    · intro w'
      go_simp
      with_reducible rfl
    rotate_left
    · simp only [Act.put, List.setIfInBounds_toArray, List.set_cons_zero, List.set_cons_succ, i64_w, i32_w]
      rfl
    refine pure_ (i := 2) (N := some 44) (v := ?_) (a' := ?_) #[true, true, true, false, false, false, false, false, false, false] rfl rfl (any_of HT_.out (by kernel_rfl)) (fun _ _ _ h => h) (Or.inl ⟨by rfl, ?_⟩) ?_ ?_
    rotate_left
    · intro w'
      go_simp
      with_reducible rfl
    rotate_left
    · simp only [Act.put, List.setIfInBounds_toArray, List.set_cons_zero, List.set_cons_succ, i64_w, i32_w]
      rfl
    refine pure_ (i := 4) (N := some 46) (v := ?_) (a' := ?_) #[true, true, true, false, true, false, false, false, false, false] rfl rfl (any_of HT_.out (by kernel_rfl)) (fun _ _ _ h => h) (Or.inl ⟨by rfl, ?_⟩) ?_ ?_
    rotate_left
    · intro w'
      go_simp
      with_reducible rfl
    rotate_left
    · simp only [Act.put, List.setIfInBounds_toArray, List.set_cons_zero, List.set_cons_succ, i64_w, i32_w]
      rfl
    refine pure_ (i := 6) (N := some 48) (v := ?_) (a' := ?_) #[true, true, true, false, true, false, true, false, false, false] rfl rfl (any_of HT_.out (by kernel_rfl)) (fun _ _ _ h => h) (Or.inl ⟨by rfl, ?_⟩) ?_ ?_
    rotate_left
    · intro w'
      go_simp
      with_reducible rfl
    rotate_left
    · simp only [Act.put, List.setIfInBounds_toArray, List.set_cons_zero, List.set_cons_succ, i64_w, i32_w]
      rfl
    refine take_ (i := 3) (N := some 45) (v := ?_) (a' := ?_) #[true, true, true, true, true, false, true, false, false, false] rfl rfl (take_ofW HT_.out HW_.out (by kernel_rfl)) (fun _ _ _ h => h) (Or.inl ⟨by rfl, ?_⟩) hHeld ?_ ?_
    rotate_left
    · rintro w' ⟨s0, s1, s2⟩
      go_simp
      with_reducible rfl
    rotate_left
    · simp only [Act.put, List.setIfInBounds_toArray, List.set_cons_zero, List.set_cons_succ, i64_w, i32_w]
      rfl
    refine take_ (i := 5) (N := some 47) (v := ?_) (a' := ?_) #[true, true, true, true, true, true, true, false, false, false] rfl rfl (take_ofW HT_.out HW_.out (by kernel_rfl)) (fun _ _ _ h => h) (Or.inl ⟨by rfl, ?_⟩) hHeld ?_ ?_
    rotate_left
    · rintro w' ⟨s0, s1, s2⟩
      go_simp
      with_reducible rfl
    rotate_left
    · simp only [Act.put, List.setIfInBounds_toArray, List.set_cons_zero, List.set_cons_succ, i64_w, i32_w]
      rfl
    refine take_ (i := 7) (N := some 49) (v := ?_) (a' := ?_) #[true, true, true, true, true, true, true, true, false, false] rfl rfl (take_ofW HT_.out HW_.out (by kernel_rfl)) (fun _ _ _ h => h) (Or.inl ⟨by rfl, ?_⟩) hHeld ?_ ?_
    rotate_left
    · rintro w' ⟨s0, s1, s2⟩
      go_simp
      with_reducible rfl
    rotate_left
    · simp only [Act.put, List.setIfInBounds_toArray, List.set_cons_zero, List.set_cons_succ, i64_w, i32_w]
      rfl
    refine one_ (i := 8) (N := some 50) #[true, true, true, true, true, true, true, true, true, false] rfl rfl (one_of HT_.out (by kernel_rfl)) (by decide) (fun K hK => ?_)
    refine goes_ Try.func30 (by kernel_rfl) rfl #[.slice A vn c] (by rfl) rfl rfl (by (try simp only [List.map_toArray, List.map_cons, List.map_nil]); first | done | rfl) ?_
    refine HCL.out.mono ?_
    rintro e w9 ⟨⟨val, rfl, hval⟩, hb9⟩
    refine ⟨_, rfl, ?_⟩
    have HVAL := Aside0.mk hval
    have HB9 := Aside0.mk hb9
    have HTB9 := Aside0.mk (HTC.out.below hb9)
    refine hK.out _ _ ⟨pw_cell_below hb9 hHeld.1, pw_cell_below hb9 hHeld.2.1, pw_cell_below hb9 hHeld.2.2⟩ (fun hH2 => ?_)
    clear hHeld hval hb9 hK K
    refine norm_ (a' := ?_) ?_ ?_
    rotate_left
    · simp only [Act.put, List.setIfInBounds_toArray, List.set_cons_zero, List.set_cons_succ, i64_w, i32_w]
      rfl
    refine last_ (i := 9) (N := none) #[true, true, true, true, true, true, true, true, true, true] rfl rfl (one_of HT_.out (by kernel_rfl)) (by decide) (fun K hK => ?_)
    obtain ⟨⟨root9, f9, ni9, q1, q2, q3, q4, q5, q6, q7⟩, _, _, _⟩ := HTB9.out
    refine step_store_imap0 rfl _ _ _ rfl law Try.underlying3 Try.underlying66 (by rfl) q2 (by have := HNN.out; unfold maxLen; omega) id (by rfl) HWF.out val (by rfl) rfl ?_
    intro wS hmS htS
    have HTR := Aside0.mk (tree_stored HTB9.out q1 q2 q3 q4 q5 q6 q7 HRS.out id v val (by have := HVN.out; exact HVAL.out) (turned_block htS) hmS)
    have HTS := Aside0.mk (turned_block htS)
    have HMS := Aside0.mk hmS
    clear q1 q2 q3 q4 q5 q6 q7 hmS htS
    refine hK.out _ _ ?_
    clear hK K hH2
    refine done_ (done_of HT_.out (by kernel_rfl)) ?_
    go_upto_region 10 with (fail)
    have HTD := Aside0.mk (HTR.out.drew)
    have HPB9 := Aside0.mk (blk_below HPBC.out HB9.out)
    have HPM : Aside0 (pb ≠ ma) := ⟨fun e => by obtain ⟨_, _, hx⟩ := imap_obj (HTB9.out.ex.choose_spec.choose_spec.choose_spec.2.1); rw [← e, HPB9.out] at hx; cases hx⟩
    have p0 : wS.drew.cell? ⟨pb, 0, none⟩ = some (.int .i64 id) := (blk_cell (HTS.out.keep HPB9.out HPM.out) 0).trans rfl
    have m3_ : wS.drew.cell? ⟨g, 3, none⟩ = some (.map (some mi)) := by obtain ⟨⟨_, _, _, q1, _⟩, _⟩ := HTR.out; exact (blk_cell q1 3).trans rfl
    have HW9 : Aside0 (Turns (fun j => j = g ∨ j = ma ∨ j = mi) W wS.drew) := ⟨((((Turns.of_below HBC.out).below HB9.out (fun j h1 h2 => absurd h1 (by have := HBC.out.size; omega))).trans_ (HTS.out.wide (fun j hj => .inr (.inl hj))))).drew⟩
    refine start_ (n := 7) (S := fun w' => w'.cell? ⟨g, 3, none⟩ = some (.map (some mi)) ∧ w'.cell? ⟨pb, 0, none⟩ = some (.int .i64 id)) (ds := [6]) #[false, false, false, false, false, false, false] (by kernel_rfl) rfl rfl ⟨m3_, p0⟩ (fun hHeld => ?_)
    refine with_tabW pu10.tab pu10.bits (fun HT_ HW_ => ?_)
    generalize wS.drew = wD at *
    refine pure_ (i := 0) (N := some 51) (v := ?_) (a' := ?_) #[true, false, false, false, false, false, false] rfl rfl (any_of HT_.out (by kernel_rfl)) (fun _ _ _ h => h) (Or.inl ⟨by rfl, ?_⟩) ?_ ?_
    rotate_left
    · intro w'
      go_simp
      with_reducible rfl
    rotate_left
    · simp only [Act.put, List.setIfInBounds_toArray, List.set_cons_zero, List.set_cons_succ, i64_w, i32_w]
      rfl
    refine pure_ (i := 1) (N := some 52) (v := ?_) (a' := ?_) #[true, true, false, false, false, false, false] rfl rfl (any_of HT_.out (by kernel_rfl)) (fun _ _ _ h => h) (Or.inl ⟨by rfl, ?_⟩) ?_ ?_
    rotate_left
    · intro w'
      go_simp
      with_reducible rfl
    rotate_left
    · simp only [Act.put, List.setIfInBounds_toArray, List.set_cons_zero, List.set_cons_succ, i64_w, i32_w]
      rfl
    refine pure_ (i := 2) (N := some 53) (v := ?_) (a' := ?_) #[true, true, true, false, false, false, false] rfl rfl (any_of HT_.out (by kernel_rfl)) (fun _ _ _ h => h) (Or.inl ⟨by rfl, ?_⟩) ?_ ?_
    rotate_left
    · intro w'
      go_simp
      with_reducible rfl
    rotate_left
    · simp only [Act.put, List.setIfInBounds_toArray, List.set_cons_zero, List.set_cons_succ, i64_w, i32_w]
      rfl
    refine pure_ (i := 4) (N := some 55) (v := ?_) (a' := ?_) #[true, true, true, false, true, false, false] rfl rfl (any_of HT_.out (by kernel_rfl)) (fun _ _ _ h => h) (Or.inl ⟨by rfl, ?_⟩) ?_ ?_
    rotate_left
    · intro w'
      go_simp
      with_reducible rfl
    rotate_left
    · simp only [Act.put, List.setIfInBounds_toArray, List.set_cons_zero, List.set_cons_succ, i64_w, i32_w]
      rfl
    refine take_ (i := 3) (N := some 54) (v := ?_) (a' := ?_) #[true, true, true, true, true, false, false] rfl rfl (take_ofW HT_.out HW_.out (by kernel_rfl)) (fun _ _ _ h => h) (Or.inl ⟨by rfl, ?_⟩) hHeld ?_ ?_
    rotate_left
    · rintro w' ⟨s0, s1⟩
      go_simp
      with_reducible rfl
    rotate_left
    · simp only [Act.put, List.setIfInBounds_toArray, List.set_cons_zero, List.set_cons_succ, i64_w, i32_w]
      rfl
    refine take_ (i := 5) (N := some 56) (v := ?_) (a' := ?_) #[true, true, true, true, true, true, false] rfl rfl (take_ofW HT_.out HW_.out (by kernel_rfl)) (fun _ _ _ h => h) (Or.inl ⟨by rfl, ?_⟩) hHeld ?_ ?_
    rotate_left
    · rintro w' ⟨s0, s1⟩
      go_simp
      with_reducible rfl
    rotate_left
    · simp only [Act.put, List.setIfInBounds_toArray, List.set_cons_zero, List.set_cons_succ, i64_w, i32_w]
      rfl
    refine last_ (i := 6) (N := none) #[true, true, true, true, true, true, true] rfl rfl (one_of HT_.out (by kernel_rfl)) (by decide) (fun K hK => ?_)
    obtain ⟨⟨root9, f9, ni9, q1, q2, q3, q4, q5, q6, q7⟩, _, _, _⟩ := HTD.out
    refine step_drop_imap rfl _ _ rfl law Try.underlying3 Try.underlying67 (by rfl) q3 id (by rfl) HWF.out rfl ?_
    intro wE hmE htE
    have HTE := Aside0.mk (tree_outed HTD.out q1 q2 q3 q4 q5 q6 q7 id (turned_block htE) hmE)
    have HTT := Aside0.mk (turned_block htE)
    clear q1 q2 q3 q4 q5 q6 q7 hmE htE
    refine hK.out _ _ ?_
    clear hK K
    refine done_ (done_of HT_.out (by kernel_rfl)) ?_
    have HTE2 := Aside0.mk (HTI.out _ (by have := HTE.out; rw [HDIM.out] at this; exact this))
    have HWE := Aside0.mk (HW9.out.trans_ (HTT.out.wide (fun j hj => .inr (.inr hj))))
    go_wp2_with (go_at_call 31; refine HTE2.out.mono ?_; rintro e w7 ⟨rfl, ⟨mi', s', hx1, hx2, hx3⟩, hx4⟩)
    go_ret2
    exact ⟨rfl, ⟨mi', s', hx1, hx2, hx3.imp (fun h => h) (fun h => Nat.le_trans HWE.out.size h)⟩, HWE.out.trans_ hx4⟩
end Go.Proofs.Ytealiaafdkhonaa.Vp

namespace Go.Proofs.Ytealiaafdkhonaa.Vp
open Go.RowKit Go.Sort Mb Base Go.Proofs.YtealiaafdkhonaaW.PrintWords Go.Proofs.YtealiaafdkhonaaW.PrintLast Go.Proofs.YtealiaafdkhonaaW.PrintMore
set_option linter.unusedVariables false
set_option linter.unusedSimpArgs false

theorem TreeAt.dimc {W : World} {g ma mi : Nat} {s : TS} (h : TreeAt W g ma mi s) : W.cell? ⟨g, 0, none⟩ = some (.int .i64 s.dim) := by
  obtain ⟨⟨_, _, _, q1, _⟩, _⟩ := h
  exact (blk_cell q1 0).trans rfl
theorem TreeAt.allc {W : World} {g ma mi : Nat} {s : TS} (h : TreeAt W g ma mi s) : W.cell? ⟨g, 2, none⟩ = some (.map (some ma)) := by
  obtain ⟨⟨_, _, _, q1, _⟩, _⟩ := h
  exact (blk_cell q1 2).trans rfl
theorem TreeAt.insc {W : World} {g ma mi : Nat} {s : TS} (h : TreeAt W g ma mi s) : W.cell? ⟨g, 3, none⟩ = some (.map (some mi)) := by
  obtain ⟨⟨_, _, _, q1, _⟩, _⟩ := h
  exact (blk_cell q1 3).trans rfl
theorem TreeAt.len {W : World} {g ma mi : Nat} {s : TS} (h : TreeAt W g ma mi s) (ty : TypeId) : (Builtin.len_ #[66] ty #[.map (some ma)]).run Try.prog W = .ok (.int .i64 s.L.length) W := by
  obtain ⟨⟨_, _, _, _, q2, _⟩, _⟩ := h
  exact q2.len Try.underlying66 ty
theorem TreeAt.drewN {W : World} {g ma mi : Nat} {s : TS} (h : TreeAt W g ma mi s) (m : Nat) : TreeAt (W.drewN m) g ma mi s := h.below (pw_below_drewN (Below.refl _ _) m)

theorem len_calls (W : World) (g ma mi : Nat) (s : TS) (h : TreeAt W g ma mi s) (hd : 0 < s.dim) : Calls Try.prog 20 #[.pointer (some ⟨g, 0, none⟩)] W fun e w' => e = .returned (.int .i64 s.L.length) ∧ W = w' := by
  have c0 := h.dimc
  have c2 := h.allc
  have hl := h.len
  clear h
  go_enter Try.func20, Try.ntmps20
  go_wp2_with (go_at_call 28; refine (given_calls g s.dim hd _ c0).mono ?_; rintro e w' ⟨rfl, rfl⟩)
  go_ret
  exact ⟨rfl, rfl⟩
theorem len_no (p : Value) (W : World) (h : Unmade W p) : Calls Try.prog 20 #[p] W fun e w' => e = .returned (.int .i64 0) ∧ W = w' := by
  go_enter Try.func20, Try.ntmps20
  go_wp2_with (go_at_call 28; refine (given_no p _ h).mono ?_; rintro e w' ⟨rfl, rfl⟩)
  go_ret
  exact ⟨rfl, rfl⟩

theorem tidies_few (B : TS → VT → Prop) (W : World) (g ma mi : Nat) (s : TS) (h : TreeAt W g ma mi s) (hn : s.L.length ≤ 16) : Calls Try.prog 31 #[.pointer (some ⟨g, 0, none⟩)] W (TidyDone B W g ma mi s) := by
  have HT := Aside0.mk h
  have c2 := h.allc
  have c3 := h.insc
  have hl := fun m => (h.drewN m).len
  obtain ⟨⟨_, _, ni, _, _, q3, q4, _⟩, _⟩ := h
  have hl3 := fun (m : Nat) ty => (q3.drewN m).len Try.underlying67 ty
  obtain ⟨n, hnn⟩ : ∃ n, s.L.length = n := ⟨_, rfl⟩
  rw [hnn] at hl hn
  have h1 : ¬ (16 : Int) + (ni : Int) < (n : Int) - (ni : Int) := by omega
  clear q3 hnn
  go_enter Try.func31, Try.ntmps31
  go_upto_region 0 with (fail)
  go_quiet (fail)
  go_wp2_with fail
  refine bodyPost_end (results_none rfl _ _ _) rfl ?_
  exact ⟨rfl, ⟨mi, s, HT.out.drewN _, .same, .inl rfl⟩, (Turns.rfl_ W).drewN _⟩

theorem unmade_alloc {W : World} {p : Value} (h : Unmade W p) (o : Obj) : Unmade (W.alloc o) p := by
  rcases h with h | ⟨g, rfl, hc⟩
  · exact .inl h
  · exact .inr ⟨g, rfl, pw_cell_below (below_alloc (Below.refl _ _) o) hc⟩
theorem put_no (p : Value) (W : World) (h : Unmade W p) (id : Int) (u : Value) : Calls Try.prog 15 #[p, .agg #[.int .i64 id, u]] W fun e w' => e = .returned (.tuple #[.bool false, .int .i64 1]) ∧ Below W.heap.size W w' := by
  have h1 := unmade_alloc h (.cells #[.int .i64 id, u] 37)
  go_enter Try.func15, Try.ntmps15
  go_wp2_with (go_at_call 28; refine (given_no p _ h1).mono ?_; rintro e w' ⟨rfl, rfl⟩)
  go_ret2
  exact ⟨rfl, below_alloc (Below.refl _ _) _⟩
set_option maxHeartbeats 400000 in
theorem put_bad (W : World) (g ma mi : Nat) (s : TS) (h : TreeAt W g ma mi s) (hd : 0 < s.dim) (id : Int) (A : Option Addr) (c : Nat) (v : List Int) (hC : Kd.C (Kd.int .i64) W A v.length v) (hck : ckV v s.dim = 50) :
    Calls Try.prog 15 #[.pointer (some ⟨g, 0, none⟩), .agg #[.int .i64 id, .slice A v.length c]] W fun e w' => e = .returned (.tuple #[.bool false, .int .i64 50]) ∧ Below W.heap.size W w' := by
  have hb1 := below_alloc (Below.refl W.heap.size W) (.cells #[.int .i64 id, .slice A v.length c] 37)
  have c0 := (h.below hb1).dimc
  have HCQ := Aside0.mk (fun m : Nat => (check_calls A c v s.dim ((W.alloc (.cells #[.int .i64 id, .slice A v.length c] 37)).drewN m) (Kd.C_below (Kd.C_below hC hb1) (pw_below_drewN (Below.refl _ _) m))).mono fun _ _ h => (⟨h.1, h.2.symm⟩ : _ ∧ _ = (W.alloc (.cells #[.int .i64 id, .slice A v.length c] 37)).drewN m))
  rw [hck] at HCQ
  clear h hC hck
  have HB1 := Aside0.mk hb1
  clear hb1
  go_enter Try.func15, Try.ntmps15
  go_upto_region 3 with (go_at_call 28; refine (given_calls g s.dim hd _ c0).mono ?_; rintro e w' ⟨rfl, rfl⟩)
  go_quiet ((go_at_call 29; exact Calls.quiet_of_same (HCQ.out _)))
  go_wp2_with fail
  go_ret2
  exact ⟨rfl, pw_below_drewN HB1.out _⟩
theorem get_no (p : Value) (W : World) (h : Unmade W p) (k : Int) : Calls Try.prog 25 #[p, .int .i64 k] W fun e w' => e = .returned (.tuple #[.slice none 0 0, .int .i64 1]) ∧ W = w' := by
  go_enter Try.func25, Try.ntmps25
  go_wp2_with (go_at_call 28; refine (given_no p _ h).mono ?_; rintro e w' ⟨rfl, rfl⟩)
  go_ret2
  exact ⟨rfl, rfl⟩
theorem drop_no (p : Value) (W : World) (h : Unmade W p) (k : Int) : Calls Try.prog 23 #[p, .int .i64 k] W fun e w' => e = .returned (.bool false) ∧ W = w' := by
  go_enter Try.func23, Try.ntmps23
  go_wp2_with (go_at_call 28; refine (given_no p _ h).mono ?_; rintro e w' ⟨rfl, rfl⟩)
  go_ret
  exact ⟨rfl, rfl⟩
theorem top_no (p : Value) (W : World) (h : Unmade W p) (u k l : Value) : Calls Try.prog 17 #[p, u, k, l] W fun e w' => e = .returned (.tuple #[.slice none 0 0, .int .i64 1]) ∧ W = w' := by
  go_enter Try.func17, Try.ntmps17
  go_wp2_with (go_at_call 28; refine (given_no p _ h).mono ?_; rintro e w' ⟨rfl, rfl⟩)
  go_ret2
  exact ⟨rfl, rfl⟩
theorem build_no (p : Value) (W : World) (h : Unmade W p) : Calls Try.prog 18 #[p] W fun e w' => e = .returned (.int .i64 1) ∧ W = w' := by
  go_enter Try.func18, Try.ntmps18
  go_wp2_with (go_at_call 28; refine (given_no p _ h).mono ?_; rintro e w' ⟨rfl, rfl⟩)
  go_ret
  exact ⟨rfl, rfl⟩
theorem points_no (p : Value) (W : World) (h : Unmade W p) : Calls Try.prog 22 #[p] W fun e w' => e = .returned (.slice none 0 0) ∧ W = w' := by
  go_enter Try.func22, Try.ntmps22
  go_wp2_with (go_at_call 28; refine (given_no p _ h).mono ?_; rintro e w' ⟨rfl, rfl⟩)
  go_ret
  exact ⟨rfl, rfl⟩
end Go.Proofs.Ytealiaafdkhonaa.Vp
