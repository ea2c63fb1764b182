/- VptreePlays, walked. -/
import Derived.Test.YtealiaafdkhonaaDz
import Derived.Test.YtealiaafdkhonaaNn
import Derived.Test.YtealiaafdkhonaaHo1
import Derived.Lib.SmallJoins
namespace Go.Proofs.Ytealiaafdkhonaa.Vp
open Go.RowKit Go.Sort Mb Base Go.Proofs.YtealiaafdkhonaaW.PrintWords Go.Proofs.YtealiaafdkhonaaW.PrintLast Go.Proofs.YtealiaafdkhonaaW.PrintMore
set_option linter.unusedVariables false
set_option linter.unusedSimpArgs false
noncomputable def pl10.T : Bool × List (List Nat × List Nat) := rtab .any (opsOf Try.f9 10)
def pl10.B : List Nat := [0, 0, 0, 0, 12, 28, 63, 127, 255, 255, 0, 1535, 4095]
theorem pl10.tab : rtab .any (opsOf Try.f9 10) = pl10.T := rfl
theorem pl10.bits : waitsOk pl10.T.2 pl10.B = true := by kernel_rfl
noncomputable def pl16.T : Bool × List (List Nat × List Nat) := rtab .any (opsOf Try.f9 16)
def pl16.B : List Nat := [0, 1, 0, 4, 15, 31, 63, 127, 255]
theorem pl16.tab : rtab .any (opsOf Try.f9 16) = pl16.T := rfl
theorem pl16.bits : waitsOk pl16.T.2 pl16.B = true := by kernel_rfl
theorem below_b {b b' : Nat} {W w1 w2 : World} (h : Below b W w1) (k : Below b' w1 w2) (hb : b ≤ b') : Below b W w2 := below_cat h (k.mono hb)
/-- A call, as its cells read. -/
structure Call where
  kind : Int
  id : Int
  v : List Int
  k : Int
  lim : Int
def RO (W : World) (x : Call) (cs : List Value) : Prop := ∃ A c, cs = [.int .i64 x.kind, .int .i64 x.id, .slice A x.v.length c, .int .i64 x.k, .int .i64 x.lim] ∧ x.v.length ≤ c ∧ Kd.C (Kd.int .i64) W A x.v.length x.v ∧ (Lit.int .i64 x.id).wf = true
theorem at_op {W : World} {A : Option Addr} {l : List Call} (h : ReadsRow (RO W) 5 W A l.length l) (k : Nat) (hk : k < l.length) : ∃ ad A1 c1, A = some ad ∧ (W.cell? (ad.add (k * 5)) = some (.int .i64 l[k].kind) ∧ W.cell? ⟨(ad.add (k * 5)).block, (ad.add (k * 5)).off + 1, none⟩ = some (.int .i64 l[k].id) ∧ W.cell? ⟨(ad.add (k * 5)).block, (ad.add (k * 5)).off + 2, none⟩ = some (.slice A1 l[k].v.length c1) ∧ W.cell? ⟨(ad.add (k * 5)).block, (ad.add (k * 5)).off + 3, none⟩ = some (.int .i64 l[k].k) ∧ W.cell? ⟨(ad.add (k * 5)).block, (ad.add (k * 5)).off + 4, none⟩ = some (.int .i64 l[k].lim)) ∧ l[k].v.length ≤ c1 ∧ Kd.C (Kd.int .i64) W A1 l[k].v.length l[k].v ∧ (Lit.int .i64 l[k].id).wf = true := by
  obtain ⟨ad, e, hc⟩ := h.2.2 (by omega)
  obtain ⟨c, _, ⟨A1, c1, rfl, h1, h2, h3⟩, hx⟩ := hc k _ (List.getElem?_eq_getElem hk)
  have g : ∀ (j : Nat) (u : Value), ([.int .i64 l[k].kind, .int .i64 l[k].id, .slice A1 l[k].v.length c1, .int .i64 l[k].k, .int .i64 l[k].lim] : List Value)[j]? = some u → W.cell? ((ad.add (k * 5)).add j) = some u := fun j u hu => by rw [Addr.add_add]; exact hx j u hu
  exact ⟨ad, A1, c1, e, ⟨hx 0 _ rfl, g 1 _ rfl, g 2 _ rfl, g 3 _ rfl, g 4 _ rfl⟩, h1, h2, h3⟩
section
open Go.WideShapes Go.ChangeShapes Go.Joins
variable {P : Program} {H : Type} {enc : TypeId × Value → H} {W : World} {base : Nat} {spare : Nat → Bool} {held : Bool} {e : TypeId}
theorem el_op {f0 f1 f2 f3 : Field} {i : TypeId} {g0 g1 : Field} (he : P.underlying e = some (.struct #[f0, f1, f2, f3])) (h0 : P.underlying f0.type = some (.int .i64)) (h1 : P.underlying f1.type = some (.struct #[g0, g1])) (h2 : P.underlying f2.type = some (.int .i64)) (h3 : P.underlying f3.type = some (.int .i64))
    (k0 : P.underlying g0.type = some (.int .i64)) (k1 : P.underlying g1.type = some (.slice i)) (hi : P.underlying i = some (.int .i64)) (o0 : f0.offset = 0) (o1 : f1.offset = 1) (o2 : f2.offset = 3) (o3 : f3.offset = 4) (p0 : g0.offset = 0) (p1 : g1.offset = 1)
    (c0 : P.cellsOf f0.type = 1) (c1 : P.cellsOf f1.type = 2) (c2 : P.cellsOf f2.type = 1) (c3 : P.cellsOf f3.type = 1) (d0 : P.cellsOf g0.type = 1) (d1 : P.cellsOf g1.type = 1) (ci : P.cellsOf i = 1)
    (f : Nat) (cs : List Value) (z : DataW H × List MemPlace) (hl : cs.length = 5) (h : DataW.trod enc P W base spare held f e cs = some z) : ∃ x, RO W x cs := by
  obtain ⟨y0, y1, y2, y3, m, _, _, r0, r1, r2, r3⟩ := trod_struct4 he h
  match cs, hl with
  | [u0, u1, u2, u3, u4], _ =>
    simp only [o0, o1, o2, o3, c0, c1, c2, c3] at r0 r1 r2 r3
    obtain ⟨a0, e0, _, _⟩ := DataW.trod_int h0 r0
    obtain ⟨a3, e3, _, _⟩ := DataW.trod_int h2 r2
    obtain ⟨a4, e4, _, _⟩ := DataW.trod_int h3 r3
    obtain ⟨z0, z1, m2, _, _, s0, s1⟩ := trod_struct2 h1 r1
    simp only [p0, p1, d0, d1] at s0 s1
    obtain ⟨a1, e1, _, w1⟩ := DataW.trod_int k0 s0
    obtain ⟨A, c, l, e2, hC, hc⟩ := open_ints_C k1 hi ci (show DataW.trod enc P W base spare held m2 g1.type [u2] = some z1 from s1)
    simp at e0 e1 e3 e4
    subst e0; subst e1; subst e2; subst e3; subst e4
    exact ⟨⟨a0, a1, l, a3, a4⟩, A, c, rfl, hc, hC, w1⟩
end
/-- The tree, the reference's list and its box, as they stand. -/
structure BothD (W0 wr : World) (b0 g ma b9 : Nat) (d : Int) (A : Option Addr) (m c : Nat) (L : List (Int × List Int)) : Prop where
  tree : HoldsD wr b0 g ma d L
  ref : RefAt W0 wr (.slice A m c) L
  box : wr.heap[b9]? = some (.cells #[.int .i64 d, .slice A m c] 31 (0, 0))
  below : Below b0 W0 wr
  old : b0 ≤ b9
theorem RefAt.len {W0 W : World} {A : Option Addr} {m c : Nat} {L : List (Int × List Int)} (h : RefAt W0 W (.slice A m c) L) : m = L.length := by
  obtain ⟨Q, h1, _, rfl⟩ := h
  obtain ⟨A', c', e⟩ := own_slice h1
  injection e with _ e _
  rw [e, List.length_map]
theorem RefAt.C {W0 W : World} {A : Option Addr} {m c : Nat} {L : List (Int × List Int)} (h : RefAt W0 W (.slice A m c) L) (hW : Below W0.heap.size W0 W) (hL : L.length ≤ 512) : Kd.C PVptreeNear.k37 W A L.length (L.map s37) ∧ L.length ≤ c := by
  have hm := h.len
  obtain ⟨Q, h1, h2, rfl⟩ := h
  subst hm
  rw [List.length_map] at hL h1 ⊢
  exact row_C h1 (h2.below hW) (by omega)
set_option maxRecDepth 100000 in
set_option maxHeartbeats 8000000 in
theorem plays_calls (W : World) (d : Int) (A : Option Addr) (c : Nat) (s : List Call) (hr : ReadsRow (RO W) 5 W A s.length s) (hc : s.length ≤ c) : Calls Try.prog 9 #[.int .i64 d, .slice A s.length c] W (Yes W) := by
  by_cases hd : d < 1 ∨ 16 < d
  · obtain ⟨N, hN⟩ : ∃ N, s.length = N := ⟨_, rfl⟩
    rw [hN]
    clear hr hc hN
    have e25 : ∀ w, (binOp .eql 25 (.pointer none) (.pointer none)).run Try.prog w = .ok (.bool true) w := (fun w => by kernel_rfl)
    have e25n : ∀ w, (binOp .neq 25 (.pointer none) (.pointer none)).run Try.prog w = .ok (.bool false) w := (fun w => by kernel_rfl)
    have HD := Aside0.mk hd
    clear hd
    go_enter Try.func9, Try.ntmps9
    go_wp2_with (first
      | (go_at_call 11; refine (new_no d HD.out _).mono ?_; rintro e w1 ⟨rfl, rfl⟩)
      | (go_at_call 13; refine (ref_new_no d HD.out _).mono ?_; rintro e w2 ⟨rfl, hb⟩; have HB3 := Aside0.mk hb; clear hb)
      | (go_at_call 12; refine (awake_calls _).mono ?_; rintro e w3 ⟨rfl, hb3⟩; have HB4 := Aside0.mk hb3; clear hb3))
    go_ret
    exact ⟨rfl, below_step (below_alloc HB3.out _) HB4.out⟩
  · have HR := Aside0.mk hr
    obtain ⟨N, hN⟩ : ∃ N, s.length = N := ⟨_, rfl⟩
    have HN := Aside0.mk hN
    rw [hN] at hc
    rw [hN]
    have hd1 : 1 ≤ d := by omega
    have hd2 : d ≤ 16 := by omega
    clear hr hN hd
    go_enter Try.func9, Try.ntmps9
    go_upto_region 7 with (first
      | (go_at_call 11; refine (hold_new d hd1 hd2 _).mono ?_; rintro e w1 ⟨⟨g, ma, rfl, hh⟩, hb⟩; have e25 : ∀ w, (binOp .eql 25 (.pointer (some ⟨g, 0, none⟩)) (.pointer none)).run Try.prog w = .ok (.bool false) w := (fun w => by kernel_rfl); have e25n : ∀ w, (binOp .neq 25 (.pointer (some ⟨g, 0, none⟩)) (.pointer none)).run Try.prog w = .ok (.bool true) w := (fun w => by kernel_rfl); have HB2 := Aside0.mk hb; have HH1 := Aside0.mk hh; clear hb hh)
      | (go_at_call 13; refine (ref_new d hd1 hd2 _).mono ?_; rintro e w2 ⟨rfl, hb⟩; have HB3 := Aside0.mk hb; clear hb))
    obtain ⟨b9, hb9⟩ : ∃ b9, w2.heap.size = b9 := ⟨_, rfl⟩
    obtain ⟨w3, hw3⟩ : ∃ w3, w2.alloc (.cells #[.int .i64 d, .slice none 0 0] 31) = w3 := ⟨_, rfl⟩
    obtain ⟨b0, hb0⟩ : ∃ b0, W.heap.size = b0 := ⟨_, rfl⟩
    have HB0 := Aside0.mk hb0
    rw [hb0] at HB2 HH1
    have HBO : Aside0 (BothD W w3 b0 g ma b9 d none 0 0 []) := ⟨by
      have hb3 : RowKit.Below w1.heap.size w1 w3 := by rw [← hw3]; exact below_alloc HB3.out _
      refine ⟨HH1.out.below hb3, ⟨⟨[], own_nil _ _ _ _, (fun q hq => by cases hq), rfl⟩⟩, by rw [← hw3, ← hb9]; exact blk_new _ _, below_b HB2.out hb3 HH1.out.lt, by rw [← hb9]; exact Nat.le_trans HH1.out.lt HB3.out.size⟩⟩
    rw [hb9, hw3]
    clear hb0 hb9 hw3
    go_wp2_with fail
    go_loopw [9] (fun z wr => ∃ (i : Nat) (A1 : Option Addr) (m1 c1 : Nat), z = .int .i64 i ∧ i ≤ N ∧ Aside0 (∃ L, BothD W wr b0 g ma b9 d A1 m1 c1 L)) (fun z _ => N - (intOf z).toNat)
    case atStart => exact ⟨0, none, 0, 0, rfl, Nat.zero_le _, ⟨[], HBO.out⟩⟩
    case round =>
      obtain ⟨i, A1, m1, c1, rfl, hi, ⟨⟨L, hO⟩⟩⟩ := hrel
      have HO := Aside0.mk hO
      clear hO
      by_cases hlt : i < N ∧ i < 150
      · obtain ⟨hlt, h150⟩ := hlt
        have hlt' : (i : Int) < (N : Int) := by omega
        have h150' : (i : Int) < 150 := by omega
        have hi0 : (0 : Int) ≤ (i : Int) := by omega
        have hil : i < s.length := by have := HN.out; omega
        obtain ⟨ad, A2, c2, e0, hcells, hc2, hC2, hw2⟩ := at_op HR.out i hil
        subst e0
        have hbw : RowKit.Below W.heap.size W wr := by rw [HB0.out]; exact HO.out.below
        obtain ⟨x, hx⟩ : ∃ x, s[i] = x := ⟨_, rfl⟩
        rw [hx] at hcells hc2 hC2 hw2
        obtain ⟨kd, id, v, kk, lim⟩ := x
        obtain ⟨t0, t1, t2, t3, t4⟩ := hcells
        obtain ⟨L', hL'⟩ : ∃ L', stepL d L kd id v = L' := ⟨_, rfl⟩
        have HBE : Aside0 (RowKit.Below wr.heap.size wr wr.drew) := ⟨below_drew1 (Below.refl _ _)⟩
        have HDO : Aside0 (∀ W', RowKit.Below wr.drew.heap.size wr.drew W' → Calls Try.prog 24 #[.pointer (some ⟨g, 0, none⟩), .agg #[.int .i64 d, .slice A1 m1 c1], .agg #[.int .i64 kd, .int .i64 id, .slice A2 v.length c2, .int .i64 kk, .int .i64 lim]] W' (Does W W' b0 g ma d L')) := ⟨fun W' hW' => by
          have hb := below_step HBE.out hW'
          rw [← hL']
          exact does_all W W' (below_step hbw hb) b0 g ma d L A1 m1 c1 (HO.out.tree.below hb) (by rw [HB0.out]; exact Nat.le_refl _) (HO.out.ref.below hb) kd id kk lim hw2 A2 c2 v hC2 hc2⟩
        obtain ⟨n2, hn2⟩ : ∃ n2, v.length = n2 := ⟨_, rfl⟩
        rw [show (Call.mk kd id v kk lim).v.length = n2 from hn2] at t2
        rw [hn2] at HDO
        have q0 : wr.drew.cell? ⟨b9, 0, none⟩ = some (.int .i64 d) := (blk_cell HO.out.box 0).trans rfl
        have q1 : wr.drew.cell? ⟨b9, 1, none⟩ = some (.slice A1 m1 c1) := (blk_cell HO.out.box 1).trans rfl
        have r0 : wr.drew.cell? (ad.add (i * 5)) = some (.int .i64 kd) := pw_cell_below hbw t0
        have r1 : wr.drew.cell? ⟨(ad.add (i * 5)).block, (ad.add (i * 5)).off + 1, none⟩ = some (.int .i64 id) := pw_cell_below hbw t1
        have r2 : wr.drew.cell? ⟨(ad.add (i * 5)).block, (ad.add (i * 5)).off + 2, none⟩ = some (.slice A2 n2 c2) := pw_cell_below hbw t2
        have r3 : wr.drew.cell? ⟨(ad.add (i * 5)).block, (ad.add (i * 5)).off + 3, none⟩ = some (.int .i64 kk) := pw_cell_below hbw t3
        have r4 : wr.drew.cell? ⟨(ad.add (i * 5)).block, (ad.add (i * 5)).off + 4, none⟩ = some (.int .i64 lim) := pw_cell_below hbw t4
        have HADB : Aside0 ((ad.add (i * 5)).block < b0) := ⟨by rw [← HB0.out]; exact World.block_lt_of_cell? W _ t0⟩
        have HTS := Aside0.mk (And.intro t0 (And.intro t1 (And.intro t2 (And.intro t3 t4))))
        have HXB : Aside0 (wr.drew.heap[b9]? = some (.cells #[.int .i64 d, .slice A1 m1 c1] 31 (0, 0))) := ⟨HO.out.box⟩
        have HLT9 : Aside0 (b0 ≤ wr.heap.size) := ⟨HO.out.tree.lt⟩
        have HLT0 : Aside0 (b0 ≤ wr.drew.heap.size) := ⟨HO.out.tree.lt⟩
        clear t0 t1 t2 t3 t4 hw2 hc2 hC2 hbw hx hn2 hL'
        go_upto_region 10 with (fail)
        go_cut [10, 11] (fun z10 z11 wc => ∃ (bx : Nat) (A9 : Option Addr) (m9 c9 : Nat), z10 = .pointer (some ⟨bx, 0, none⟩) ∧ z11 = .bool true ∧ Aside0 (wc.heap[bx]? = some (.cells #[.int .i64 d, .slice A9 m9 c9] 31 (0, 0))) ∧ Aside0 (RefAt W wc (.slice A9 m9 c9) L') ∧ Aside0 (HoldsD wc b0 g ma d L') ∧ Aside0 (wc.heap[b9]? = some (.cells #[.int .i64 d, .slice A1 m1 c1] 31 (0, 0))) ∧ Aside0 (RowKit.Below b0 wr wc))
        case first =>
          refine start_ (n := 13) (S := fun w' => w'.cell? ⟨b9, 0, none⟩ = some (.int .i64 d) ∧ w'.cell? ⟨b9, 1, none⟩ = some (.slice A1 m1 c1) ∧ w'.cell? (ad.add (i * 5)) = some (.int .i64 kd) ∧ w'.cell? ⟨(ad.add (i * 5)).block, (ad.add (i * 5)).off + 1, none⟩ = some (.int .i64 id) ∧ w'.cell? ⟨(ad.add (i * 5)).block, (ad.add (i * 5)).off + 2, none⟩ = some (.slice A2 n2 c2) ∧ w'.cell? ⟨(ad.add (i * 5)).block, (ad.add (i * 5)).off + 3, none⟩ = some (.int .i64 kk) ∧ w'.cell? ⟨(ad.add (i * 5)).block, (ad.add (i * 5)).off + 4, none⟩ = some (.int .i64 lim)) (ds := [11]) #[false, false, false, false, false, false, false, false, false, false, false, false, false] (by kernel_rfl) rfl rfl ⟨q0, q1, r0, r1, r2, r3, r4⟩ (fun hHeld => ?_)
          refine with_tabW pl10.tab pl10.bits (fun HT_ HW_ => ?_)
          generalize hwE : wr.drew = wE at *
          refine pure_ (i := 0) (N := some 46) (v := ?_) (a' := ?_) #[true, false, false, false, false, false, false, false, false, false, false, false, false] rfl rfl (any_of HT_.out (by kernel_rfl)) (fun _ _ _ h => h) (Or.inl ⟨by rfl, ?_⟩) ?_ ?_; rotate_left; focus (intro w'; go_simp; with_reducible rfl)
          rotate_left; focus (simp only [Act.put, List.setIfInBounds_toArray, List.set_cons_zero, List.set_cons_succ, i64_w, i32_w]; rfl)
          refine pure_ (i := 2) (N := some 48) (v := ?_) (a' := ?_) #[true, false, true, false, false, false, false, false, false, false, false, false, false] rfl rfl (any_of HT_.out (by kernel_rfl)) (fun _ _ _ h => h) (Or.inl ⟨by rfl, ?_⟩) ?_ ?_; rotate_left; focus (intro w'; go_simp; with_reducible rfl)
          rotate_left; focus (simp only [Act.put, List.setIfInBounds_toArray, List.set_cons_zero, List.set_cons_succ, i64_w, i32_w]; rfl)
          refine pure_ (i := 3) (N := some 49) (v := ?_) (a' := ?_) #[true, false, true, true, false, false, false, false, false, false, false, false, false] rfl rfl (any_of HT_.out (by kernel_rfl)) (fun _ _ _ h => h) (Or.inl ⟨by rfl, ?_⟩) ?_ ?_; rotate_left; focus (intro w'; go_simp; with_reducible rfl)
          rotate_left; focus (simp only [Act.put, List.setIfInBounds_toArray, List.set_cons_zero, List.set_cons_succ, i64_w, i32_w]; rfl)
          refine pure_ (i := 4) (N := some 50) (v := ?_) (a' := ?_) #[true, false, true, true, true, false, false, false, false, false, false, false, false] rfl rfl (any_of HT_.out (by kernel_rfl)) (fun _ _ _ h => h) (Or.inl ⟨by rfl, ?_⟩) ?_ ?_; rotate_left; focus (intro w'; go_simp; with_reducible rfl)
          rotate_left; focus (simp only [Act.put, List.setIfInBounds_toArray, List.set_cons_zero, List.set_cons_succ, i64_w, i32_w]; rfl)
          refine take_ (i := 1) (N := some 47) (v := ?_) (a' := ?_) #[true, true, true, true, true, false, false, false, false, false, false, false, false] rfl rfl (take_ofW HT_.out HW_.out (by kernel_rfl)) (fun _ _ _ h => h) (Or.inl ⟨by rfl, ?_⟩) hHeld ?_ ?_; rotate_left; focus (rintro w' ⟨s0, s1, s2, s3, s4, s5, s6⟩; go_simp; with_reducible rfl)
          rotate_left; focus (simp only [Act.put, List.setIfInBounds_toArray, List.set_cons_zero, List.set_cons_succ, i64_w, i32_w]; rfl)
          refine take_ (i := 5) (N := some 51) (v := ?_) (a' := ?_) #[true, true, true, true, true, true, false, false, false, false, false, false, false] rfl rfl (take_ofW HT_.out HW_.out (by kernel_rfl)) (fun _ _ _ h => h) (Or.inl ⟨by rfl, ?_⟩) hHeld ?_ ?_; rotate_left; focus (rintro w' ⟨s0, s1, s2, s3, s4, s5, s6⟩; go_simp; with_reducible rfl)
          rotate_left; focus (simp only [Act.put, List.setIfInBounds_toArray, List.set_cons_zero, List.set_cons_succ, i64_w, i32_w]; rfl)
          refine two_ (i := 6) (j := 10) (Ni := some 52) (Nj := some 10) #[true, true, true, true, true, true, true, false, false, false, false, false, false] #[true, true, true, true, true, true, false, false, false, false, true, false, false] rfl rfl rfl rfl (two_of HT_.out (by kernel_rfl)) (by decide) (by decide) (fun K hK => ?_) (fun K hK => ?_)
          · refine goes_ Try.func24 (by kernel_rfl) rfl #[.pointer (some ⟨g, 0, none⟩), .agg #[.int .i64 d, .slice A1 m1 c1], .agg #[.int .i64 kd, .int .i64 id, .slice A2 n2 c2, .int .i64 kk, .int .i64 lim]] (by rfl) rfl rfl (by (try simp only [List.map_toArray, List.map_cons, List.map_nil]); first | done | rfl) ?_
            refine (HDO.out wE (Below.refl _ _)).mono ?_
            rintro e wF ⟨⟨A9, m9, c9, rfl, hr9⟩, ht9, hb9, hk9⟩
            refine ⟨_, rfl, ?_⟩
            have HR9 := Aside0.mk hr9
            have HB9 := Aside0.mk hb9
            have HT9 := Aside0.mk ht9
            have HK9 := Aside0.mk hk9
            refine hK.out _ _ ⟨(blk_cell (hk9 _ _ _ HXB.out (by decide)) 0).trans rfl, (blk_cell (hk9 _ _ _ HXB.out (by decide)) 1).trans rfl, (hb9.cell HADB.out).trans hHeld.2.2.1, (hb9.cell (p := ⟨(ad.add (i * 5)).block, (ad.add (i * 5)).off + 1, none⟩) HADB.out).trans hHeld.2.2.2.1, (hb9.cell (p := ⟨(ad.add (i * 5)).block, (ad.add (i * 5)).off + 2, none⟩) HADB.out).trans hHeld.2.2.2.2.1, (hb9.cell (p := ⟨(ad.add (i * 5)).block, (ad.add (i * 5)).off + 3, none⟩) HADB.out).trans hHeld.2.2.2.2.2.1, (hb9.cell (p := ⟨(ad.add (i * 5)).block, (ad.add (i * 5)).off + 4, none⟩) HADB.out).trans hHeld.2.2.2.2.2.2⟩ (fun hH1 => ?_)
            clear hHeld hK K hr9 hb9 ht9 hk9
            refine norm_ (a' := ?_) ?_ ?_
            rotate_left
            · simp only [Act.put, List.setIfInBounds_toArray, List.set_cons_zero, List.set_cons_succ, i64_w, i32_w]
              rfl
            refine pure_ (i := 7) (N := some 45) (v := ?_) (a' := ?_) #[true, true, true, true, true, true, true, true, false, false, false, false, false] rfl rfl (any_of HT_.out (by kernel_rfl)) (fun _ _ _ h => h) (Or.inl ⟨by rfl, ?_⟩) ?_ ?_; rotate_left; focus (intro w'; go_simp; with_reducible rfl)
            rotate_left; focus (simp only [Act.put, List.setIfInBounds_toArray, List.set_cons_zero, List.set_cons_succ, i64_w, i32_w]; rfl)
            refine pure_ (i := 8) (N := some 53) (v := ?_) (a' := ?_) #[true, true, true, true, true, true, true, true, true, false, false, false, false] rfl rfl (any_of HT_.out (by kernel_rfl)) (fun _ _ _ h => h) (Or.inl ⟨by rfl, ?_⟩) ?_ ?_; rotate_left; focus (intro w'; go_simp; with_reducible rfl)
            rotate_left; focus (simp only [Act.put, List.setIfInBounds_toArray, List.set_cons_zero, List.set_cons_succ, i64_w, i32_w]; rfl)
            refine pure_ (i := 9) (N := some 54) (v := ?_) (a' := ?_) #[true, true, true, true, true, true, true, true, true, true, false, false, false] rfl rfl (any_of HT_.out (by kernel_rfl)) (fun _ _ _ h => h) (Or.inl ⟨by rfl, ?_⟩) ?_ ?_; rotate_left; focus (intro w'; go_simp; with_reducible rfl)
            rotate_left; focus (simp only [Act.put, List.setIfInBounds_toArray, List.set_cons_zero, List.set_cons_succ, i64_w, i32_w]; rfl)
            refine one_ (i := 10) (N := some 10) #[true, true, true, true, true, true, true, true, true, true, true, false, false] rfl rfl (one_of HT_.out (by kernel_rfl)) (by decide) (fun K hK => ?_)
            refine value_ (v := .pointer (some ⟨wF.heap.size, 0, none⟩)) (w1 := wF.alloc (.cells #[.int .i64 0, .slice none 0 0] 31)) (by rfl) rfl ?_ ?_
            · go_simp
            refine hK.out _ _ ⟨pw_cell_below (below_alloc (Below.refl _ _) _) hH1.1, pw_cell_below (below_alloc (Below.refl _ _) _) hH1.2.1, pw_cell_below (below_alloc (Below.refl _ _) _) hH1.2.2.1, pw_cell_below (below_alloc (Below.refl _ _) _) hH1.2.2.2.1, pw_cell_below (below_alloc (Below.refl _ _) _) hH1.2.2.2.2.1, pw_cell_below (below_alloc (Below.refl _ _) _) hH1.2.2.2.2.2.1, pw_cell_below (below_alloc (Below.refl _ _) _) hH1.2.2.2.2.2.2⟩ (fun hH2 => ?_)
            clear hH1 hK K
            refine norm_ (a' := ?_) ?_ ?_
            rotate_left
            · simp only [Act.put, List.setIfInBounds_toArray, List.set_cons_zero, List.set_cons_succ, i64_w, i32_w]
              rfl
            have HX0 := Aside0.mk (blk_new wF (.cells #[.int .i64 0, .slice none 0 0] 31))
            have HBX := Aside0.mk (below_alloc (Below.refl wF.heap.size wF) (.cells #[.int .i64 0, .slice none 0 0] 31))
            generalize hbx : wF.heap.size = bx at *
            generalize hw2 : wF.alloc (.cells #[.int .i64 0, .slice none 0 0] 31) = wG at *
            refine last_ (i := 11) (N := none) #[true, true, true, true, true, true, true, true, true, true, true, true, false] rfl rfl (one_of HT_.out (by kernel_rfl)) (by decide) (fun K hK => ?_)
            have HXG : Aside0 (wG.heap[bx]? = some (.cells #[.int .i64 0, .slice none 0 0] 31 (0, 0))) := HX0
            have z0 : wG.frozen? ⟨bx, 0, none⟩ = false := blk_frozen HXG.out 0
            have z1 : wG.frozen? ⟨bx, 1, none⟩ = false := blk_frozen HXG.out 1
            have p0 : wG.cell? ⟨bx, 0, none⟩ = some (.int .i64 0) := (blk_cell HXG.out 0).trans rfl
            have p1 : wG.cell? ⟨bx, 1, none⟩ = some (.slice none 0 0) := (blk_cell HXG.out 1).trans rfl
            refine skip_ (w1 := ?_) (by rfl) rfl ?_ ?_
            rotate_left
            · go_simp
              rfl
            refine hK.out _ _ ?_
            clear hK K z0 z1 p0 p1
            refine pure_ (i := 12) (N := some 11) (v := ?_) (a' := ?_) #[true, true, true, true, true, true, true, true, true, true, true, true, true] rfl rfl (any_of HT_.out (by kernel_rfl)) (fun _ _ _ h => h) (Or.inl ⟨by rfl, ?_⟩) ?_ ?_; rotate_left; focus (intro w'; go_simp; with_reducible rfl)
            rotate_left; focus (simp only [Act.put, List.setIfInBounds_toArray, List.set_cons_zero, List.set_cons_succ, i64_w, i32_w]; rfl)
            refine done_ (done_of HT_.out (by kernel_rfl)) ?_
            have hbg : RowKit.Below b0 wE wG := below_cat HB9.out (HBX.out.mono (by rw [← hbx]; exact HT9.out.lt))
            have hbs : b0 ≤ bx := by rw [← hbx]; exact HT9.out.lt
            have hrg : RefAt W wG (.slice A9 m9 c9) L' := HR9.out.below (hbx ▸ HBX.out)
            have htg : HoldsD wG b0 g ma d L' := HT9.out.below (hbx ▸ HBX.out)
            have h9g := blk_below (HK9.out _ _ _ HXB.out (by decide)) (hbx ▸ HBX.out)
            have hne : b9 ≠ bx := by have := blk_lt (HK9.out _ _ _ HXB.out (by decide)); omega
            have hb1 := RowKit.Below.setCell (p := ⟨bx, 1, none⟩) (RowKit.Below.setCell (p := ⟨bx, 0, none⟩) hbg hbs (.int .i64 d)) hbs (.slice A9 m9 c9)
            have hx2 := blk_set HXG.out 0 (.int .i64 d)
            go_wp2_with fail
            go_meet
            exact ⟨bx, A9, m9, c9, rfl, rfl, ⟨box2_set HXG.out⟩, ⟨(hrg.set HXG.out (by decide) 0 (.int .i64 d)).set hx2 (by decide) 1 (.slice A9 m9 c9)⟩, ⟨(htg.set HXG.out (by decide) (by decide) (by decide) 0 (.int .i64 d)).set hx2 (by decide) (by decide) (by decide) 1 (.slice A9 m9 c9)⟩, ⟨blk_far (blk_far h9g (p := ⟨bx, 0, none⟩) hne _) (p := ⟨bx, 1, none⟩) hne _⟩, ⟨below_cat (HBE.out.mono HLT9.out) hb1⟩⟩
          · refine value_ (v := .pointer (some ⟨wE.heap.size, 0, none⟩)) (w1 := wE.alloc (.cells #[.int .i64 0, .slice none 0 0] 31)) (by rfl) rfl ?_ ?_
            · go_simp
            refine hK.out _ _ ⟨pw_cell_below (below_alloc (Below.refl _ _) _) hHeld.1, pw_cell_below (below_alloc (Below.refl _ _) _) hHeld.2.1, pw_cell_below (below_alloc (Below.refl _ _) _) hHeld.2.2.1, pw_cell_below (below_alloc (Below.refl _ _) _) hHeld.2.2.2.1, pw_cell_below (below_alloc (Below.refl _ _) _) hHeld.2.2.2.2.1, pw_cell_below (below_alloc (Below.refl _ _) _) hHeld.2.2.2.2.2.1, pw_cell_below (below_alloc (Below.refl _ _) _) hHeld.2.2.2.2.2.2⟩ (fun hH1 => ?_)
            clear hHeld hK K
            refine norm_ (a' := ?_) ?_ ?_
            rotate_left
            · simp only [Act.put, List.setIfInBounds_toArray, List.set_cons_zero, List.set_cons_succ, i64_w, i32_w]
              rfl
            have HX0 := Aside0.mk (blk_new wE (.cells #[.int .i64 0, .slice none 0 0] 31))
            have HBX := Aside0.mk (below_alloc (Below.refl wE.heap.size wE) (.cells #[.int .i64 0, .slice none 0 0] 31))
            generalize hbx : wE.heap.size = bx at *
            generalize hw2 : wE.alloc (.cells #[.int .i64 0, .slice none 0 0] 31) = wF at *
            refine one_ (i := 6) (N := some 52) #[true, true, true, true, true, true, true, false, false, false, true, false, false] rfl rfl (one_of HT_.out (by kernel_rfl)) (by decide) (fun K hK => ?_)
            refine goes_ Try.func24 (by kernel_rfl) rfl #[.pointer (some ⟨g, 0, none⟩), .agg #[.int .i64 d, .slice A1 m1 c1], .agg #[.int .i64 kd, .int .i64 id, .slice A2 n2 c2, .int .i64 kk, .int .i64 lim]] (by rfl) rfl rfl (by (try simp only [List.map_toArray, List.map_cons, List.map_nil]); first | done | rfl) ?_
            refine (HDO.out wF (hbx ▸ HBX.out)).mono ?_
            rintro e wG ⟨⟨A9, m9, c9, rfl, hr9⟩, ht9, hb9, hk9⟩
            refine ⟨_, rfl, ?_⟩
            have HR9 := Aside0.mk hr9
            have HB9 := Aside0.mk hb9
            have HT9 := Aside0.mk ht9
            have HK9 := Aside0.mk hk9
            refine hK.out _ _ ⟨(blk_cell (hk9 _ _ _ (blk_below HXB.out (hbx ▸ HBX.out)) (by decide)) 0).trans rfl, (blk_cell (hk9 _ _ _ (blk_below HXB.out (hbx ▸ HBX.out)) (by decide)) 1).trans rfl, (hb9.cell HADB.out).trans hH1.2.2.1, (hb9.cell (p := ⟨(ad.add (i * 5)).block, (ad.add (i * 5)).off + 1, none⟩) HADB.out).trans hH1.2.2.2.1, (hb9.cell (p := ⟨(ad.add (i * 5)).block, (ad.add (i * 5)).off + 2, none⟩) HADB.out).trans hH1.2.2.2.2.1, (hb9.cell (p := ⟨(ad.add (i * 5)).block, (ad.add (i * 5)).off + 3, none⟩) HADB.out).trans hH1.2.2.2.2.2.1, (hb9.cell (p := ⟨(ad.add (i * 5)).block, (ad.add (i * 5)).off + 4, none⟩) HADB.out).trans hH1.2.2.2.2.2.2⟩ (fun hH2 => ?_)
            clear hH1 hK K hr9 hb9 ht9 hk9
            refine norm_ (a' := ?_) ?_ ?_
            rotate_left
            · simp only [Act.put, List.setIfInBounds_toArray, List.set_cons_zero, List.set_cons_succ, i64_w, i32_w]
              rfl
            refine pure_ (i := 7) (N := some 45) (v := ?_) (a' := ?_) #[true, true, true, true, true, true, true, true, false, false, true, false, false] rfl rfl (any_of HT_.out (by kernel_rfl)) (fun _ _ _ h => h) (Or.inl ⟨by rfl, ?_⟩) ?_ ?_; rotate_left; focus (intro w'; go_simp; with_reducible rfl)
            rotate_left; focus (simp only [Act.put, List.setIfInBounds_toArray, List.set_cons_zero, List.set_cons_succ, i64_w, i32_w]; rfl)
            refine pure_ (i := 8) (N := some 53) (v := ?_) (a' := ?_) #[true, true, true, true, true, true, true, true, true, false, true, false, false] rfl rfl (any_of HT_.out (by kernel_rfl)) (fun _ _ _ h => h) (Or.inl ⟨by rfl, ?_⟩) ?_ ?_; rotate_left; focus (intro w'; go_simp; with_reducible rfl)
            rotate_left; focus (simp only [Act.put, List.setIfInBounds_toArray, List.set_cons_zero, List.set_cons_succ, i64_w, i32_w]; rfl)
            refine pure_ (i := 9) (N := some 54) (v := ?_) (a' := ?_) #[true, true, true, true, true, true, true, true, true, true, true, false, false] rfl rfl (any_of HT_.out (by kernel_rfl)) (fun _ _ _ h => h) (Or.inl ⟨by rfl, ?_⟩) ?_ ?_; rotate_left; focus (intro w'; go_simp; with_reducible rfl)
            rotate_left; focus (simp only [Act.put, List.setIfInBounds_toArray, List.set_cons_zero, List.set_cons_succ, i64_w, i32_w]; rfl)
            refine last_ (i := 11) (N := none) #[true, true, true, true, true, true, true, true, true, true, true, true, false] rfl rfl (one_of HT_.out (by kernel_rfl)) (by decide) (fun K hK => ?_)
            have HXG : Aside0 (wG.heap[bx]? = some (.cells #[.int .i64 0, .slice none 0 0] 31 (0, 0))) := ⟨HK9.out _ _ _ HX0.out (by decide)⟩
            have z0 : wG.frozen? ⟨bx, 0, none⟩ = false := blk_frozen HXG.out 0
            have z1 : wG.frozen? ⟨bx, 1, none⟩ = false := blk_frozen HXG.out 1
            have p0 : wG.cell? ⟨bx, 0, none⟩ = some (.int .i64 0) := (blk_cell HXG.out 0).trans rfl
            have p1 : wG.cell? ⟨bx, 1, none⟩ = some (.slice none 0 0) := (blk_cell HXG.out 1).trans rfl
            refine skip_ (w1 := ?_) (by rfl) rfl ?_ ?_
            rotate_left
            · go_simp
              rfl
            refine hK.out _ _ ?_
            clear hK K z0 z1 p0 p1
            refine pure_ (i := 12) (N := some 11) (v := ?_) (a' := ?_) #[true, true, true, true, true, true, true, true, true, true, true, true, true] rfl rfl (any_of HT_.out (by kernel_rfl)) (fun _ _ _ h => h) (Or.inl ⟨by rfl, ?_⟩) ?_ ?_; rotate_left; focus (intro w'; go_simp; with_reducible rfl)
            rotate_left; focus (simp only [Act.put, List.setIfInBounds_toArray, List.set_cons_zero, List.set_cons_succ, i64_w, i32_w]; rfl)
            refine done_ (done_of HT_.out (by kernel_rfl)) ?_
            have hbs : b0 ≤ bx := HLT0.out
            have hbg : RowKit.Below b0 wE wG := below_cat (HBX.out.mono hbs) HB9.out
            have hrg : RefAt W wG (.slice A9 m9 c9) L' := HR9.out
            have htg : HoldsD wG b0 g ma d L' := HT9.out
            have h9g := HK9.out _ _ _ (blk_below HXB.out (hbx ▸ HBX.out)) (by decide)
            have hne : b9 ≠ bx := by have := blk_lt HXB.out; omega
            have hb1 := RowKit.Below.setCell (p := ⟨bx, 1, none⟩) (RowKit.Below.setCell (p := ⟨bx, 0, none⟩) hbg hbs (.int .i64 d)) hbs (.slice A9 m9 c9)
            have hx2 := blk_set HXG.out 0 (.int .i64 d)
            go_wp2_with fail
            go_meet
            exact ⟨bx, A9, m9, c9, rfl, rfl, ⟨box2_set HXG.out⟩, ⟨(hrg.set HXG.out (by decide) 0 (.int .i64 d)).set hx2 (by decide) 1 (.slice A9 m9 c9)⟩, ⟨(htg.set HXG.out (by decide) (by decide) (by decide) 0 (.int .i64 d)).set hx2 (by decide) (by decide) (by decide) 1 (.slice A9 m9 c9)⟩, ⟨blk_far (blk_far h9g (p := ⟨bx, 0, none⟩) hne _) (p := ⟨bx, 1, none⟩) hne _⟩, ⟨below_cat (HBE.out.mono HLT9.out) hb1⟩⟩
        case rest =>
          obtain ⟨bx, A9, m9, c9, rfl, rfl, HXP, HRC, HTC, HX9, HBC⟩ := hcut
          clear q0 q1 r0 r1 r2 r3 r4 HDO
          have hm9 := HRC.out.len
          subst hm9
          have HBW := Aside0.mk (below_cat HO.out.below HBC.out)
          have p0 : wc.cell? ⟨bx, 0, none⟩ = some (.int .i64 d) := (blk_cell HXP.out 0).trans rfl
          have p1 : wc.cell? ⟨bx, 1, none⟩ = some (.slice A9 L'.length c9) := (blk_cell HXP.out 1).trans rfl
          have p2 : wc.cell? ⟨b9, 0, none⟩ = some (.int .i64 d) := (blk_cell HX9.out 0).trans rfl
          have p3 : wc.cell? ⟨b9, 1, none⟩ = some (.slice A1 m1 c1) := (blk_cell HX9.out 1).trans rfl
          have z0 := blk_frozen HX9.out 0
          have z1 := blk_frozen HX9.out 1
          obtain ⟨wD, hwD⟩ : ∃ wD, (wc.setCell ⟨b9, 0, none⟩ (.int .i64 d)).setCell ⟨b9, 1, none⟩ (.slice A9 L'.length c9) = wD := ⟨_, rfl⟩
          have hx2 := blk_set HX9.out 0 (.int .i64 d)
          have HBD : Aside0 (BothD W wD b0 g ma b9 d A9 L'.length c9 L') := ⟨by
            rw [← hwD]
            exact ⟨(HTC.out.set HX9.out (by decide) (by decide) (by decide) 0 (.int .i64 d)).set hx2 (by decide) (by decide) (by decide) 1 (.slice A9 L'.length c9), (HRC.out.set HX9.out (by decide) 0 (.int .i64 d)).set hx2 (by decide) 1 (.slice A9 L'.length c9), box2_set HX9.out, (HBW.out.setCell (p := ⟨b9, 0, none⟩) HO.out.old _).setCell (p := ⟨b9, 1, none⟩) HO.out.old _, HO.out.old⟩⟩
          clear hx2
          go_upto_region 14 with (fail)
          clear p0 p1 p2 p3 z0 z1 hwD
          have HLN := Aside0.mk (fun m => (hold_len (HBD.out.tree.below (pw_below_drewN (Below.refl _ _) m))).mono fun _ _ h => (⟨h.1, h.2.symm⟩ : _ ∧ _ = wD.drewN m))
          have q1 : wD.cell? ⟨b9, 1, none⟩ = some (.slice A9 L'.length c9) := (blk_cell HBD.out.box 1).trans rfl
          obtain ⟨ll, hll⟩ : ∃ ll, L'.length = ll := ⟨_, rfl⟩
          rw [hll] at HLN q1 HBD
          rw [hll]
          clear hll
          go_quiet ((go_at_call 20; exact Calls.quiet_of_same (HLN.out _)))
          go_wp2_with fail
          go_roundw
          case rel =>
            refine ⟨i + 1, A9, ll, c9, by go_num, hlt, ⟨L', ?_⟩⟩
            have hb := pw_below_drewN (Below.refl wD.heap.size wD) nq
            exact ⟨HBD.out.tree.below hb, HBD.out.ref.below hb, HBD.out.box, pw_below_drewN HBD.out.below nq, HBD.out.old⟩
          case measure => simp [intOf]; omega
      · have hlt2 : ¬ ((i : Int) < (N : Int)) ∨ ¬ ((i : Int) < 150) := by omega
        have HE : Aside0 (Calls Try.prog 22 #[.pointer (some ⟨g, 0, none⟩)] wr.drew (PointsD wr.drew b0 g ma d L)) := ⟨hold_points (HO.out.tree.below (below_drew1 (Below.refl _ _)))⟩
        have hm1 := HO.out.ref.len
        subst hm1
        have q1 : wr.drew.cell? ⟨b9, 1, none⟩ = some (.slice A1 L.length c1) := (blk_cell HO.out.box 1).trans rfl
        have HLL : Aside0 (L.length ≤ 512) := ⟨HO.out.tree.few⟩
        have HRD : Aside0 (RefAt W wr.drew (.slice A1 L.length c1) L) := ⟨HO.out.ref.below (below_drew1 (Below.refl _ _))⟩
        have HBD : Aside0 (RowKit.Below W.heap.size W wr.drew) := ⟨by rw [HB0.out]; exact HO.out.below.drew⟩
        have HVS : Aside0 (∀ z ∈ L, z.2.length ≤ 1000000) := ⟨fun z hz => by have := isV_len (HO.out.tree.vecs z hz).1; omega⟩
        have HSM : Aside0 (∀ (w' : World) (A9 : Option Addr) (c9 : Nat), RowKit.Below wr.drew.heap.size wr.drew w' → Kd.C PVptreeNear.k37 w' A9 L.length (L.map s37) → L.length ≤ c9 → Calls Try.prog 21 #[.slice A9 L.length c9, .slice A1 L.length c1] w' fun e w2 => e = .returned (.bool true) ∧ ∃ q, w2 = w'.drewN q) := ⟨fun w' A9 c9 hb hC hc9 => by
          have hr := HRD.out.C HBD.out HLL.out
          exact same37_calls A9 A1 c9 c1 L w' hC (Kd.C_below hr.1 hb) hc9 hr.2 (by have := HLL.out; omega) HVS.out⟩
        obtain ⟨ll, hll⟩ : ∃ ll, L.length = ll := ⟨_, rfl⟩
        have HLN := Aside0.mk hll
        rw [hll] at q1 HSM
        clear hll
        by_cases h1 : i < N
        · have h1' : (i : Int) < (N : Int) := by omega
          have h2' : ¬ (i : Int) < 150 := by omega
          clear hlt2
          go_upto_region 16 with (fail)
          refine start_ (n := 9) (S := fun w' => w'.cell? ⟨b9, 1, none⟩ = some (.slice A1 ll c1)) (ds := []) #[false, false, false, false, false, false, false, false, false] (by kernel_rfl) rfl rfl q1 (fun hHeld => ?_)
          refine with_tabW pl16.tab pl16.bits (fun HT_ HW_ => ?_)
          generalize hwE : wr.drew = wE at *
          refine pure_ (i := 0) (N := some 64) (v := ?_) (a' := ?_) #[true, false, false, false, false, false, false, false, false] rfl rfl (any_of HT_.out (by kernel_rfl)) (fun _ _ _ h => h) (Or.inl ⟨by rfl, ?_⟩) ?_ ?_; rotate_left; focus (intro w'; go_simp; with_reducible rfl)
          rotate_left; focus (simp only [Act.put, List.setIfInBounds_toArray, List.set_cons_zero, List.set_cons_succ, i64_w, i32_w]; rfl)
          refine pure_ (i := 2) (N := some 66) (v := ?_) (a' := ?_) #[true, false, true, false, false, false, false, false, false] rfl rfl (any_of HT_.out (by kernel_rfl)) (fun _ _ _ h => h) (Or.inl ⟨by rfl, ?_⟩) ?_ ?_; rotate_left; focus (intro w'; go_simp; with_reducible rfl)
          rotate_left; focus (simp only [Act.put, List.setIfInBounds_toArray, List.set_cons_zero, List.set_cons_succ, i64_w, i32_w]; rfl)
          refine take_ (i := 3) (N := some 67) (v := ?_) (a' := ?_) #[true, false, true, true, false, false, false, false, false] rfl rfl (take_ofW HT_.out HW_.out (by kernel_rfl)) (fun _ _ _ h => h) (Or.inl ⟨by rfl, ?_⟩) hHeld ?_ ?_; rotate_left; focus (rintro w' s0; go_simp; with_reducible rfl)
          rotate_left; focus (simp only [Act.put, List.setIfInBounds_toArray, List.set_cons_zero, List.set_cons_succ, i64_w, i32_w]; rfl)
          refine one_ (i := 1) (N := some 65) #[true, true, true, true, false, false, false, false, false] rfl rfl (one_of HT_.out (by kernel_rfl)) (by decide) (fun K hK => ?_)
          refine goes_ Try.func22 (by kernel_rfl) rfl #[.pointer (some ⟨g, 0, none⟩)] (by rfl) rfl rfl (by (try simp only [List.map_toArray, List.map_cons, List.map_nil]); first | done | rfl) ?_
          refine HE.out.mono ?_
          rintro e w9 ⟨hd9, _⟩
          have HB9 := Aside0.mk hd9.below
          obtain ⟨A9, c9, e9, hC9, hc9⟩ := points_read hd9 HLL.out
          subst e9
          refine ⟨_, rfl, ?_⟩
          rw [HLN.out] at hC9 hc9
          have HC9 := Aside0.mk hC9
          have HC9c := Aside0.mk hc9
          rw [HLN.out]
          refine hK.out _ _ (pw_cell_below hd9.below hHeld) (fun hHeld2 => ?_)
          clear hHeld hK K hd9 hC9 hc9
          refine norm_ (a' := ?_) ?_ ?_
          rotate_left
          · simp only [Act.put, List.setIfInBounds_toArray, List.set_cons_zero, List.set_cons_succ, i64_w, i32_w]
            rfl
          refine one_ (i := 4) (N := some 68) #[true, true, true, true, true, false, false, false, false] rfl rfl (one_of HT_.out (by kernel_rfl)) (by decide) (fun K hK => ?_)
          have HS2 := HSM.out w9 A9 c9 HB9.out HC9.out HC9c.out
          refine goes_ Try.func21 (by kernel_rfl) rfl #[.slice A9 ll c9, .slice A1 ll c1] (by rfl) rfl rfl (by (try simp only [List.map_toArray, List.map_cons, List.map_nil]); first | done | rfl) ?_
          refine HS2.mono ?_
          rintro e w10 ⟨rfl, q10, rfl⟩
          refine ⟨_, rfl, ?_⟩
          refine hK.out _ _ hHeld2 (fun hHeld => ?_)
          clear hHeld2 hK K
          refine norm_ (a' := ?_) ?_ ?_
          rotate_left
          · simp only [Act.put, List.setIfInBounds_toArray, List.set_cons_zero, List.set_cons_succ, i64_w, i32_w]
            rfl
          refine pure_ (i := 5) (N := some 69) (v := ?_) (a' := ?_) #[true, true, true, true, true, true, false, false, false] rfl rfl (any_of HT_.out (by kernel_rfl)) (fun _ _ _ h => h) (Or.inl ⟨by rfl, ?_⟩) ?_ ?_; rotate_left; focus (intro w'; go_simp; with_reducible rfl)
          rotate_left; focus (simp only [Act.put, List.setIfInBounds_toArray, List.set_cons_zero, List.set_cons_succ, i64_w, i32_w]; rfl)
          refine one_ (i := 6) (N := some 70) #[true, true, true, true, true, true, true, false, false] rfl rfl (one_of HT_.out (by kernel_rfl)) (by decide) (fun K hK => ?_)
          refine goes_ Try.func12 (by kernel_rfl) rfl #[] (by rfl) rfl rfl (by (try simp only [List.map_toArray, List.map_cons, List.map_nil]); first | done | rfl) ?_
          refine (awake_calls (w9.drewN q10)).mono ?_
          rintro e w11 ⟨rfl, hb11⟩
          refine ⟨_, rfl, ?_⟩
          have HB11 := Aside0.mk hb11
          refine hK.out _ _ (pw_cell_below hb11 hHeld) (fun hHeld2 => ?_)
          clear hHeld hK K hb11
          refine norm_ (a' := ?_) ?_ ?_
          rotate_left
          · simp only [Act.put, List.setIfInBounds_toArray, List.set_cons_zero, List.set_cons_succ, i64_w, i32_w]
            rfl
          refine pure_ (i := 7) (N := some 71) (v := ?_) (a' := ?_) #[true, true, true, true, true, true, true, true, false] rfl rfl (any_of HT_.out (by kernel_rfl)) (fun _ _ _ h => h) (Or.inl ⟨by rfl, ?_⟩) ?_ ?_; rotate_left; focus (intro w'; go_simp; with_reducible rfl)
          rotate_left; focus (simp only [Act.put, List.setIfInBounds_toArray, List.set_cons_zero, List.set_cons_succ, i64_w, i32_w]; rfl)
          refine pure_ (i := 8) (N := some 4) (v := ?_) (a' := ?_) #[true, true, true, true, true, true, true, true, true] rfl rfl (any_of HT_.out (by kernel_rfl)) (fun _ _ _ h => h) (Or.inl ⟨by rfl, ?_⟩) ?_ ?_; rotate_left; focus (intro w'; go_simp; with_reducible rfl)
          rotate_left; focus (simp only [Act.put, List.setIfInBounds_toArray, List.set_cons_zero, List.set_cons_succ, i64_w, i32_w]; rfl)
          refine done_ (done_of HT_.out (by kernel_rfl)) ?_
          go_wp2_with fail
          go_ret
          exact ⟨rfl, below_step (pw_below_drewN (below_step HBD.out HB9.out) q10) HB11.out⟩
        · have h1' : ¬ (i : Int) < (N : Int) := by omega
          clear hlt2
          go_upto_region 16 with (fail)
          refine start_ (n := 9) (S := fun w' => w'.cell? ⟨b9, 1, none⟩ = some (.slice A1 ll c1)) (ds := []) #[false, false, false, false, false, false, false, false, false] (by kernel_rfl) rfl rfl q1 (fun hHeld => ?_)
          refine with_tabW pl16.tab pl16.bits (fun HT_ HW_ => ?_)
          generalize hwE : wr.drew = wE at *
          refine pure_ (i := 0) (N := some 64) (v := ?_) (a' := ?_) #[true, false, false, false, false, false, false, false, false] rfl rfl (any_of HT_.out (by kernel_rfl)) (fun _ _ _ h => h) (Or.inl ⟨by rfl, ?_⟩) ?_ ?_; rotate_left; focus (intro w'; go_simp; with_reducible rfl)
          rotate_left; focus (simp only [Act.put, List.setIfInBounds_toArray, List.set_cons_zero, List.set_cons_succ, i64_w, i32_w]; rfl)
          refine pure_ (i := 2) (N := some 66) (v := ?_) (a' := ?_) #[true, false, true, false, false, false, false, false, false] rfl rfl (any_of HT_.out (by kernel_rfl)) (fun _ _ _ h => h) (Or.inl ⟨by rfl, ?_⟩) ?_ ?_; rotate_left; focus (intro w'; go_simp; with_reducible rfl)
          rotate_left; focus (simp only [Act.put, List.setIfInBounds_toArray, List.set_cons_zero, List.set_cons_succ, i64_w, i32_w]; rfl)
          refine take_ (i := 3) (N := some 67) (v := ?_) (a' := ?_) #[true, false, true, true, false, false, false, false, false] rfl rfl (take_ofW HT_.out HW_.out (by kernel_rfl)) (fun _ _ _ h => h) (Or.inl ⟨by rfl, ?_⟩) hHeld ?_ ?_; rotate_left; focus (rintro w' s0; go_simp; with_reducible rfl)
          rotate_left; focus (simp only [Act.put, List.setIfInBounds_toArray, List.set_cons_zero, List.set_cons_succ, i64_w, i32_w]; rfl)
          refine one_ (i := 1) (N := some 65) #[true, true, true, true, false, false, false, false, false] rfl rfl (one_of HT_.out (by kernel_rfl)) (by decide) (fun K hK => ?_)
          refine goes_ Try.func22 (by kernel_rfl) rfl #[.pointer (some ⟨g, 0, none⟩)] (by rfl) rfl rfl (by (try simp only [List.map_toArray, List.map_cons, List.map_nil]); first | done | rfl) ?_
          refine HE.out.mono ?_
          rintro e w9 ⟨hd9, _⟩
          have HB9 := Aside0.mk hd9.below
          obtain ⟨A9, c9, e9, hC9, hc9⟩ := points_read hd9 HLL.out
          subst e9
          refine ⟨_, rfl, ?_⟩
          rw [HLN.out] at hC9 hc9
          have HC9 := Aside0.mk hC9
          have HC9c := Aside0.mk hc9
          rw [HLN.out]
          refine hK.out _ _ (pw_cell_below hd9.below hHeld) (fun hHeld2 => ?_)
          clear hHeld hK K hd9 hC9 hc9
          refine norm_ (a' := ?_) ?_ ?_
          rotate_left
          · simp only [Act.put, List.setIfInBounds_toArray, List.set_cons_zero, List.set_cons_succ, i64_w, i32_w]
            rfl
          refine one_ (i := 4) (N := some 68) #[true, true, true, true, true, false, false, false, false] rfl rfl (one_of HT_.out (by kernel_rfl)) (by decide) (fun K hK => ?_)
          have HS2 := HSM.out w9 A9 c9 HB9.out HC9.out HC9c.out
          refine goes_ Try.func21 (by kernel_rfl) rfl #[.slice A9 ll c9, .slice A1 ll c1] (by rfl) rfl rfl (by (try simp only [List.map_toArray, List.map_cons, List.map_nil]); first | done | rfl) ?_
          refine HS2.mono ?_
          rintro e w10 ⟨rfl, q10, rfl⟩
          refine ⟨_, rfl, ?_⟩
          refine hK.out _ _ hHeld2 (fun hHeld => ?_)
          clear hHeld2 hK K
          refine norm_ (a' := ?_) ?_ ?_
          rotate_left
          · simp only [Act.put, List.setIfInBounds_toArray, List.set_cons_zero, List.set_cons_succ, i64_w, i32_w]
            rfl
          refine pure_ (i := 5) (N := some 69) (v := ?_) (a' := ?_) #[true, true, true, true, true, true, false, false, false] rfl rfl (any_of HT_.out (by kernel_rfl)) (fun _ _ _ h => h) (Or.inl ⟨by rfl, ?_⟩) ?_ ?_; rotate_left; focus (intro w'; go_simp; with_reducible rfl)
          rotate_left; focus (simp only [Act.put, List.setIfInBounds_toArray, List.set_cons_zero, List.set_cons_succ, i64_w, i32_w]; rfl)
          refine one_ (i := 6) (N := some 70) #[true, true, true, true, true, true, true, false, false] rfl rfl (one_of HT_.out (by kernel_rfl)) (by decide) (fun K hK => ?_)
          refine goes_ Try.func12 (by kernel_rfl) rfl #[] (by rfl) rfl rfl (by (try simp only [List.map_toArray, List.map_cons, List.map_nil]); first | done | rfl) ?_
          refine (awake_calls (w9.drewN q10)).mono ?_
          rintro e w11 ⟨rfl, hb11⟩
          refine ⟨_, rfl, ?_⟩
          have HB11 := Aside0.mk hb11
          refine hK.out _ _ (pw_cell_below hb11 hHeld) (fun hHeld2 => ?_)
          clear hHeld hK K hb11
          refine norm_ (a' := ?_) ?_ ?_
          rotate_left
          · simp only [Act.put, List.setIfInBounds_toArray, List.set_cons_zero, List.set_cons_succ, i64_w, i32_w]
            rfl
          refine pure_ (i := 7) (N := some 71) (v := ?_) (a' := ?_) #[true, true, true, true, true, true, true, true, false] rfl rfl (any_of HT_.out (by kernel_rfl)) (fun _ _ _ h => h) (Or.inl ⟨by rfl, ?_⟩) ?_ ?_; rotate_left; focus (intro w'; go_simp; with_reducible rfl)
          rotate_left; focus (simp only [Act.put, List.setIfInBounds_toArray, List.set_cons_zero, List.set_cons_succ, i64_w, i32_w]; rfl)
          refine pure_ (i := 8) (N := some 4) (v := ?_) (a' := ?_) #[true, true, true, true, true, true, true, true, true] rfl rfl (any_of HT_.out (by kernel_rfl)) (fun _ _ _ h => h) (Or.inl ⟨by rfl, ?_⟩) ?_ ?_; rotate_left; focus (intro w'; go_simp; with_reducible rfl)
          rotate_left; focus (simp only [Act.put, List.setIfInBounds_toArray, List.set_cons_zero, List.set_cons_succ, i64_w, i32_w]; rfl)
          refine done_ (done_of HT_.out (by kernel_rfl)) ?_
          go_wp2_with fail
          go_ret
          exact ⟨rfl, below_step (pw_below_drewN (below_step HBD.out HB9.out) q10) HB11.out⟩
end Go.Proofs.Ytealiaafdkhonaa.Vp
