/- What the law does with a call, on both sides. -/
import Derived.Test.YtealiaafdkhonaaRd
namespace Go.Proofs.Ytealiaafdkhonaa.Vp
open Go.RowKit Go.Sort Mb Base Go.Proofs.YtealiaafdkhonaaW.PrintWords Go.Proofs.YtealiaafdkhonaaW.PrintLast Go.Proofs.YtealiaafdkhonaaW.PrintMore
set_option linter.unusedVariables false
set_option linter.unusedSimpArgs false
noncomputable def dz8.T : Bool × List (List Nat × List Nat) := rtab .any (opsOf Try.f24 8)
def dz8.B : List Nat := [0, 0, 0, 4, 12, 30, 0, 126, 63, 511]
theorem dz8.tab : rtab .any (opsOf Try.f24 8) = dz8.T := rfl
theorem dz8.bits : waitsOk dz8.T.2 dz8.B = true := by kernel_rfl
noncomputable def dz12.T : Bool × List (List Nat × List Nat) := rtab .any (opsOf Try.f24 12)
def dz12.B : List Nat := [0, 0, 0, 6, 14, 30, 30, 126, 254, 31, 1023]
theorem dz12.tab : rtab .any (opsOf Try.f24 12) = dz12.T := rfl
theorem dz12.bits : waitsOk dz12.T.2 dz12.B = true := by kernel_rfl
noncomputable def dz16.T : Bool × List (List Nat × List Nat) := rtab .any (opsOf Try.f24 16)
def dz16.B : List Nat := [0, 0, 0, 6, 14, 30, 30, 126, 254, 31, 1023]
theorem dz16.tab : rtab .any (opsOf Try.f24 16) = dz16.T := rfl
theorem dz16.bits : waitsOk dz16.T.2 dz16.B = true := by kernel_rfl
noncomputable def dz17.T : Bool × List (List Nat × List Nat) := rtab .any (opsOf Try.f24 17)
def dz17.B : List Nat := [0, 0, 2, 6, 7, 31]
theorem dz17.tab : rtab .any (opsOf Try.f24 17) = dz17.T := rfl
theorem dz17.bits : waitsOk dz17.T.2 dz17.B = true := by kernel_rfl
/-- What a call leaves. -/
def stepL (d : Int) (L : List (Int × List Int)) (kind id : Int) (v : List Int) : List (Int × List Int) :=
  if kind = 1 then (putR d L id v).2.2 else if kind = 2 then dropL id L else L
structure Does (W0 W : World) (b0 g ma : Nat) (d : Int) (L' : List (Int × List Int)) (e : Ending) (w' : World) : Prop where
  ex : ∃ A m c, e = .returned (.tuple #[.agg #[.int .i64 d, .slice A m c], .bool true]) ∧ RefAt W0 w' (.slice A m c) L'
  tree : HoldsD w' b0 g ma d L'
  below : Below b0 W w'
  keep : Keeps W w'
theorem RefAt.sl {W0 W : World} {val : Value} {L : List (Int × List Int)} (h : RefAt W0 W val L) : ∃ A m c, val = .slice A m c := by
  obtain ⟨Q, h1, _⟩ := h
  obtain ⟨A, c, e⟩ := own_slice h1
  exact ⟨A, _, c, e⟩
theorem box2_set {w : World} {b : Nat} {t : TypeId} {u0 u1 v0 v1 : Value} (h : w.heap[b]? = some (.cells #[u0, u1] t (0, 0))) : ((w.setCell ⟨b, 0, none⟩ v0).setCell ⟨b, 1, none⟩ v1).heap[b]? = some (.cells #[v0, v1] t (0, 0)) := (blk_set (blk_set h 0 v0) 1 v1).trans rfl
/-- A new block is written: what was there stays. -/
theorem keeps_set {W w : World} (h : Keeps W w) {b : Nat} (hb : W.heap.size ≤ b) (o : Nat) (u : Value) : Keeps W (w.setCell ⟨b, o, none⟩ u) := fun j cur t hj ht => blk_far (h j cur t hj ht) (p := ⟨b, o, none⟩) (by show j ≠ b; have := blk_lt hj; omega) u
structure Bx (W0 W W1 : World) (b0 b2 g ma : Nat) (d : Int) (L : List (Int × List Int)) (A : Option Addr) (m c : Nat) (kind id : Int) (A2 : Option Addr) (n2 c2 : Nat) (kk lim : Int) : Prop where
  size : W.heap.size = b2
  al : ((W.alloc (.cells #[.int .i64 d, .slice A m c] 31)).alloc (.cells #[.int .i64 kind, .int .i64 id, .slice A2 n2 c2, .int .i64 kk, .int .i64 lim] 63)).alloc (.cells #[.int .i64 0, .slice none 0 0] 31) = W1
  x4 : W1.heap[b2]? = some (.cells #[.int .i64 d, .slice A m c] 31 (0, 0))
  x5 : W1.heap[b2 + 1]? = some (.cells #[.int .i64 kind, .int .i64 id, .slice A2 n2 c2, .int .i64 kk, .int .i64 lim] 63 (0, 0))
  x6 : W1.heap[b2 + 1 + 1]? = some (.cells #[.int .i64 0, .slice none 0 0] 31 (0, 0))
  keep : Keeps W W1
  tree : HoldsD W1 b0 g ma d L
  ref : RefAt W0 W1 (.slice A m c) L
  bb : RowKit.Below b0 W W1
theorem bx_of {W0 W : World} {b0 g ma : Nat} {d : Int} {L : List (Int × List Int)} {A : Option Addr} {m c : Nat} {kind id : Int} {A2 : Option Addr} {n2 c2 : Nat} {kk lim : Int} (ht : HoldsD W b0 g ma d L) (hr : RefAt W0 W (.slice A m c) L) : ∃ b2 W1, Bx W0 W W1 b0 b2 g ma d L A m c kind id A2 n2 c2 kk lim := by
  obtain ⟨b2, hb2⟩ : ∃ b2, W.heap.size = b2 := ⟨_, rfl⟩
  obtain ⟨W1, hW1⟩ : ∃ W1, ((W.alloc (.cells #[.int .i64 d, .slice A m c] 31)).alloc (.cells #[.int .i64 kind, .int .i64 id, .slice A2 n2 c2, .int .i64 kk, .int .i64 lim] 63)).alloc (.cells #[.int .i64 0, .slice none 0 0] 31) = W1 := ⟨_, rfl⟩
  have HB1 : RowKit.Below W.heap.size W W1 := by rw [← hW1]; exact below_alloc (below_alloc (below_alloc (Below.refl _ _) _) _) _
  refine ⟨b2, W1, hb2, hW1, ?_, ?_, ?_, .of_below HB1, ht.below HB1, hr.below HB1, HB1.mono ht.lt⟩
  · rw [← hW1, ← hb2]; exact blk_below (blk_below (blk_new W _) (below_alloc (Below.refl _ _) _)) (below_alloc (Below.refl _ _) _)
  · have h1 := blk_new (W.alloc (.cells #[.int .i64 d, .slice A m c] 31)) (.cells #[.int .i64 kind, .int .i64 id, .slice A2 n2 c2, .int .i64 kk, .int .i64 lim] 63)
    rw [World.size_alloc] at h1
    rw [← hW1, ← hb2]
    exact blk_below h1 (below_alloc (Below.refl _ _) _)
  · have h1 := blk_new ((W.alloc (.cells #[.int .i64 d, .slice A m c] 31)).alloc (.cells #[.int .i64 kind, .int .i64 id, .slice A2 n2 c2, .int .i64 kk, .int .i64 lim] 63)) (.cells #[.int .i64 0, .slice none 0 0] 31)
    rw [World.size_alloc, World.size_alloc] at h1
    rw [← hW1, ← hb2]
    exact h1
set_option maxRecDepth 100000 in
set_option maxHeartbeats 8000000 in
theorem does_1 (W0 W : World) (hW : Below W0.heap.size W0 W) (b0 g ma : Nat) (d : Int) (L : List (Int × List Int)) (A : Option Addr) (m c : Nat) (ht : HoldsD W b0 g ma d L) (h0 : W0.heap.size ≤ b0) (hr : RefAt W0 W (.slice A m c) L) (id kk lim : Int) (hid : (Lit.int .i64 id).wf = true) (A2 : Option Addr) (c2 : Nat) (v : List Int) (hC : Kd.C (Kd.int .i64) W0 A2 v.length v) (hc2 : v.length ≤ c2) :
    Calls Try.prog 24 #[.pointer (some ⟨g, 0, none⟩), .agg #[.int .i64 d, .slice A m c], .agg #[.int .i64 1, .int .i64 id, .slice A2 v.length c2, .int .i64 kk, .int .i64 lim]] W (Does W0 W b0 g ma d (putR d L id v).2.2) := by
  obtain ⟨n2, hn2⟩ : ∃ n2, v.length = n2 := ⟨_, rfl⟩
  have HN2 := Aside0.mk hn2
  have HC2 := Aside0.mk hc2
  have HC := Aside0.mk hC
  have HW := Aside0.mk hW
  have HT := Aside0.mk ht
  have HR := Aside0.mk hr
  have H0 := Aside0.mk h0
  have HID := Aside0.mk hid
  rw [hn2]
  obtain ⟨b2, W1, hbx⟩ := bx_of (n2 := n2) (id := id) (A2 := A2) (c2 := c2) (kk := kk) (lim := lim) (kind := 1) ht hr
  have HB2 := Aside0.mk hbx.size
  have HW1 := Aside0.mk hbx.al
  have HX4 := Aside0.mk hbx.x4
  have HX5 := Aside0.mk hbx.x5
  have HX6 := Aside0.mk hbx.x6
  have HK1 := Aside0.mk hbx.keep
  have HT1 := Aside0.mk hbx.tree
  have HR1 := Aside0.mk hbx.ref
  have HBB1 := Aside0.mk hbx.bb
  have HWW : Aside0 (∀ w', RowKit.Below b0 W w' → RowKit.Below W0.heap.size W0 w') := ⟨fun w' h => below_cat hW (h.mono h0)⟩
  have HKB : Aside0 (W.heap.size = b2) := ⟨hbx.size⟩
  have q0 : W1.cell? ⟨b2, 0, none⟩ = some (.int .i64 d) := (blk_cell HX4.out 0).trans rfl
  have q1 : W1.cell? ⟨b2, 1, none⟩ = some (.slice A m c) := (blk_cell HX4.out 1).trans rfl
  have o0 : W1.cell? ⟨b2 + 1, 0, none⟩ = some (.int .i64 1) := (blk_cell HX5.out 0).trans rfl
  have o1 : W1.cell? ⟨b2 + 1, 1, none⟩ = some (.int .i64 id) := (blk_cell HX5.out 1).trans rfl
  have o2 : W1.cell? ⟨b2 + 1, 2, none⟩ = some (.slice A2 n2 c2) := (blk_cell HX5.out 2).trans rfl
  have o3 : W1.cell? ⟨b2 + 1, 3, none⟩ = some (.int .i64 kk) := (blk_cell HX5.out 3).trans rfl
  have o4 : W1.cell? ⟨b2 + 1, 4, none⟩ = some (.int .i64 lim) := (blk_cell HX5.out 4).trans rfl
  clear hn2 hc2 hC hW ht hr h0 hid hbx
  go_enter Try.func24, Try.ntmps24
  go_upto_region 1 with (fail)
  rw [HB2.out, HW1.out]
  have HTP : Aside0 (Calls Try.prog 15 #[.pointer (some ⟨g, 0, none⟩), .agg #[.int .i64 id, .slice A2 n2 c2]] W1 (DoneK W1 b0 g ma d (putR d L id v).2.2 (.tuple #[.bool (putR d L id v).1, .int .i64 (putR d L id v).2.1]))) := ⟨by
    have h1 := hold_put_k HT1.out id HID.out A2 c2 v (Kd.C_below HC.out (HWW.out W1 HBB1.out))
    rw [HN2.out] at h1
    exact h1⟩
  obtain ⟨r, hrr⟩ : ∃ r, putR d L id v = r := ⟨_, rfl⟩
  have HRR := Aside0.mk hrr
  rw [hrr] at HTP
  rw [hrr]
  clear hrr
  obtain ⟨rb, hrb⟩ : ∃ rb, r.1 = rb := ⟨_, rfl⟩
  obtain ⟨re, hre⟩ : ∃ re, r.2.1 = re := ⟨_, rfl⟩
  have HRB := Aside0.mk hrb
  have HRE := Aside0.mk hre
  rw [hrb, hre] at HTP
  clear hrb hre
  go_upto_region 4 with (go_at_call 15; refine HTP.out.mono ?_; rintro e w2 ⟨rfl, hh2, hb2, hk2⟩; have HT2 := Aside0.mk hh2; have HBB := Aside0.mk hb2; have HK2 := Aside0.mk hk2; clear hh2 hb2 hk2)
  clear q0 q1 o0 o1 o2 o3 o4
  have HBB2 : Aside0 (RowKit.Below b0 W w2) := ⟨below_cat HBB1.out HBB.out⟩
  have HR2 := Aside0.mk (HR1.out.keep HK2.out)
  have q0 : w2.cell? ⟨b2, 0, none⟩ = some (.int .i64 d) := (blk_cell (HK2.out _ _ _ HX4.out (by decide)) 0).trans rfl
  have q1 : w2.cell? ⟨b2, 1, none⟩ = some (.slice A m c) := (blk_cell (HK2.out _ _ _ HX4.out (by decide)) 1).trans rfl
  have o1 : w2.cell? ⟨b2 + 1, 1, none⟩ = some (.int .i64 id) := (blk_cell (HK2.out _ _ _ HX5.out (by decide)) 1).trans rfl
  have o2 : w2.cell? ⟨b2 + 1, 2, none⟩ = some (.slice A2 n2 c2) := (blk_cell (HK2.out _ _ _ HX5.out (by decide)) 2).trans rfl
  have o3 : w2.cell? ⟨b2 + 1, 3, none⟩ = some (.int .i64 kk) := (blk_cell (HK2.out _ _ _ HX5.out (by decide)) 3).trans rfl
  have o4 : w2.cell? ⟨b2 + 1, 4, none⟩ = some (.int .i64 lim) := (blk_cell (HK2.out _ _ _ HX5.out (by decide)) 4).trans rfl
  have HRP : Aside0 (Calls Try.prog 14 #[.agg #[.int .i64 d, .slice A m c], .agg #[.int .i64 id, .slice A2 n2 c2]] w2 (RefGot W0 w2 d r)) := ⟨by
    have h1 := ref_put W0 w2 (HWW.out w2 HBB2.out) d L (.slice A m c) HR2.out HT.out.rise HT.out.few id A2 c2 v HC.out HC2.out
    rw [HN2.out, HRR.out] at h1
    exact h1⟩
  go_upto_region 5 with (go_at_call 14; refine HRP.out.mono ?_; rintro e w3 ⟨⟨v9, rfl, hr3⟩, hb3⟩; obtain ⟨A9, m9, c9, ev9⟩ := RefAt.sl hr3; subst ev9; rw [HRB.out, HRE.out]; have HR3 := Aside0.mk hr3; have HB3 := Aside0.mk hb3; clear hr3 hb3)
  clear q0 q1 o1 o2 o3 o4
  obtain ⟨w4, hw4⟩ : ∃ w4, w3.alloc (.cells #[.int .i64 d, .slice A9 m9 c9] 31) = w4 := ⟨_, rfl⟩
  have HB4 : Aside0 (RowKit.Below w3.heap.size w3 w4) := ⟨by rw [← hw4]; exact below_alloc (Below.refl _ _) _⟩
  have HX10 : Aside0 (w4.heap[w3.heap.size]? = some (.cells #[.int .i64 d, .slice A9 m9 c9] 31 (0, 0))) := ⟨by rw [← hw4]; exact blk_new _ _⟩
  have HR4 := Aside0.mk (HR3.out.below HB4.out)
  have HT4 := Aside0.mk ((HT2.out.below HB3.out).below HB4.out)
  have HK4 : Aside0 (Keeps W1 w4) := ⟨HK2.out.trans_ ((Keeps.of_below HB3.out).trans_ (.of_below HB4.out))⟩
  have HBB4 : Aside0 (RowKit.Below b0 W w4) := ⟨below_cat HBB2.out (below_cat (HB3.out.mono HT2.out.lt) (HB4.out.mono (HT2.out.below HB3.out).lt))⟩
  obtain ⟨bx, hbx⟩ : ∃ bx, w3.heap.size = bx := ⟨_, rfl⟩
  rw [hbx] at HX10
  rw [hw4, hbx]
  clear hbx hw4
  have p0 : w4.cell? ⟨bx, 0, none⟩ = some (.int .i64 d) := (blk_cell HX10.out 0).trans rfl
  have p1 : w4.cell? ⟨bx, 1, none⟩ = some (.slice A9 m9 c9) := (blk_cell HX10.out 1).trans rfl
  have s0 : w4.cell? ⟨b2 + 1 + 1, 0, none⟩ = some (.int .i64 0) := (blk_cell (HK4.out _ _ _ HX6.out (by decide)) 0).trans rfl
  have s1 : w4.cell? ⟨b2 + 1 + 1, 1, none⟩ = some (.slice none 0 0) := (blk_cell (HK4.out _ _ _ HX6.out (by decide)) 1).trans rfl
  have z0 := blk_frozen (HK4.out _ _ _ HX6.out (by decide)) 0
  have z1 := blk_frozen (HK4.out _ _ _ HX6.out (by decide)) 1
  go_wp2_with fail
  clear p0 p1 s0 s1 z0 z1
  have hx := HK4.out _ _ _ HX6.out (by decide)
  have hx2 := blk_set hx 0 (.int .i64 d)
  have hlt := blk_lt HX6.out
  have hbx : b0 ≤ b2 + 1 + 1 := by have := HT.out.lt; have := HKB.out; omega
  have hkk : Keeps W w4 := HK1.out.trans_ HK4.out
  refine bodyPost_ret (v := .tuple #[.agg #[.int .i64 d, .slice A9 m9 c9], .bool true]) (by have r0 : ((w4.setCell ⟨b2 + 1 + 1, 0, none⟩ (.int .i64 d)).setCell ⟨b2 + 1 + 1, 1, none⟩ (.slice A9 m9 c9)).cell? ⟨b2 + 1 + 1, 0, none⟩ = some (.int .i64 d) := (blk_cell (box2_set hx) 0).trans rfl; have r1 : ((w4.setCell ⟨b2 + 1 + 1, 0, none⟩ (.int .i64 d)).setCell ⟨b2 + 1 + 1, 1, none⟩ (.slice A9 m9 c9)).cell? ⟨b2 + 1 + 1, 1, none⟩ = some (.slice A9 m9 c9) := (blk_cell (box2_set hx) 1).trans rfl; simp [results, Try.results24, go_sem, r0, r1]) rfl ⟨⟨A9, m9, c9, rfl, ?_⟩, ?_, ?_, ?_⟩
  · rw [HRR.out]; exact (HR4.out.set hx (by decide) 0 (.int .i64 d)).set hx2 (by decide) 1 (.slice A9 m9 c9)
  · rw [HRR.out]; exact (HT4.out.set hx (by decide) (by decide) (by decide) 0 (.int .i64 d)).set hx2 (by decide) (by decide) (by decide) 1 (.slice A9 m9 c9)
  · exact RowKit.Below.setCell (p := ⟨b2 + 1 + 1, 1, none⟩) (RowKit.Below.setCell (p := ⟨b2 + 1 + 1, 0, none⟩) HBB4.out hbx _) hbx _
  · exact keeps_set (keeps_set hkk (by have := HKB.out; omega) 0 (.int .i64 d)) (by have := HKB.out; omega) 1 (.slice A9 m9 c9)
set_option maxRecDepth 100000 in
set_option maxHeartbeats 8000000 in
theorem does_2 (W0 W : World) (hW : Below W0.heap.size W0 W) (b0 g ma : Nat) (d : Int) (L : List (Int × List Int)) (A : Option Addr) (m c : Nat) (ht : HoldsD W b0 g ma d L) (h0 : W0.heap.size ≤ b0) (hr : RefAt W0 W (.slice A m c) L) (id kk lim : Int) (hid : (Lit.int .i64 id).wf = true) (A2 : Option Addr) (c2 : Nat) (v : List Int) (hC : Kd.C (Kd.int .i64) W0 A2 v.length v) (hc2 : v.length ≤ c2) :
    Calls Try.prog 24 #[.pointer (some ⟨g, 0, none⟩), .agg #[.int .i64 d, .slice A m c], .agg #[.int .i64 2, .int .i64 id, .slice A2 v.length c2, .int .i64 kk, .int .i64 lim]] W (Does W0 W b0 g ma d (dropL id L)) := by
  obtain ⟨n2, hn2⟩ : ∃ n2, v.length = n2 := ⟨_, rfl⟩
  have HN2 := Aside0.mk hn2
  have HC2 := Aside0.mk hc2
  have HC := Aside0.mk hC
  have HW := Aside0.mk hW
  have HT := Aside0.mk ht
  have HR := Aside0.mk hr
  have H0 := Aside0.mk h0
  have HID := Aside0.mk hid
  rw [hn2]
  obtain ⟨b2, W1, hbx⟩ := bx_of (n2 := n2) (id := id) (A2 := A2) (c2 := c2) (kk := kk) (lim := lim) (kind := 2) ht hr
  have HB2 := Aside0.mk hbx.size
  have HW1 := Aside0.mk hbx.al
  have HX4 := Aside0.mk hbx.x4
  have HX5 := Aside0.mk hbx.x5
  have HX6 := Aside0.mk hbx.x6
  have HK1 := Aside0.mk hbx.keep
  have HT1 := Aside0.mk hbx.tree
  have HR1 := Aside0.mk hbx.ref
  have HBB1 := Aside0.mk hbx.bb
  have HWW : Aside0 (∀ w', RowKit.Below b0 W w' → RowKit.Below W0.heap.size W0 w') := ⟨fun w' h => below_cat hW (h.mono h0)⟩
  have HKB : Aside0 (W.heap.size = b2) := ⟨hbx.size⟩
  have q0 : W1.cell? ⟨b2, 0, none⟩ = some (.int .i64 d) := (blk_cell HX4.out 0).trans rfl
  have q1 : W1.cell? ⟨b2, 1, none⟩ = some (.slice A m c) := (blk_cell HX4.out 1).trans rfl
  have o0 : W1.cell? ⟨b2 + 1, 0, none⟩ = some (.int .i64 2) := (blk_cell HX5.out 0).trans rfl
  have o1 : W1.cell? ⟨b2 + 1, 1, none⟩ = some (.int .i64 id) := (blk_cell HX5.out 1).trans rfl
  have o2 : W1.cell? ⟨b2 + 1, 2, none⟩ = some (.slice A2 n2 c2) := (blk_cell HX5.out 2).trans rfl
  have o3 : W1.cell? ⟨b2 + 1, 3, none⟩ = some (.int .i64 kk) := (blk_cell HX5.out 3).trans rfl
  have o4 : W1.cell? ⟨b2 + 1, 4, none⟩ = some (.int .i64 lim) := (blk_cell HX5.out 4).trans rfl
  clear hn2 hc2 hC hW ht hr h0 hid hbx
  go_enter Try.func24, Try.ntmps24
  go_upto_region 1 with (fail)
  rw [HB2.out, HW1.out]
  have HRD := Aside0.mk (ref_drop W0 W1 (HWW.out W1 HBB1.out) d L (.slice A m c) HR1.out HT.out.rise HT.out.few id)
  obtain ⟨ws, hws⟩ : ∃ ws, (look L id).isSome = ws := ⟨_, rfl⟩
  have HWS := Aside0.mk hws
  rw [hws] at HRD
  clear hws
  go_upto_region 8 with (go_at_call 40; refine HRD.out.mono ?_; rintro e w3 ⟨⟨v9, rfl, hr3⟩, hb3⟩; obtain ⟨A9, m9, c9, ev9⟩ := RefAt.sl hr3; subst ev9; have HR3 := Aside0.mk hr3; have HB3 := Aside0.mk hb3; clear hr3 hb3)
  clear q0 q1 o0 o1 o2 o3 o4
  obtain ⟨w4, hw4⟩ : ∃ w4, w3.alloc (.cells #[.int .i64 d, .slice A9 m9 c9] 31) = w4 := ⟨_, rfl⟩
  have HB4 : Aside0 (RowKit.Below w3.heap.size w3 w4) := ⟨by rw [← hw4]; exact below_alloc (Below.refl _ _) _⟩
  have HX10 : Aside0 (w4.heap[w3.heap.size]? = some (.cells #[.int .i64 d, .slice A9 m9 c9] 31 (0, 0))) := ⟨by rw [← hw4]; exact blk_new _ _⟩
  have HR4 := Aside0.mk (HR3.out.below HB4.out)
  have HT4 := Aside0.mk ((HT1.out.below HB3.out).below HB4.out)
  have HK4 : Aside0 (Keeps W1 w4) := ⟨(Keeps.of_below HB3.out).trans_ (.of_below HB4.out)⟩
  have HBB4 : Aside0 (RowKit.Below b0 W w4) := ⟨below_cat HBB1.out (below_cat (HB3.out.mono HT1.out.lt) (HB4.out.mono (HT1.out.below HB3.out).lt))⟩
  obtain ⟨bx, hbx⟩ : ∃ bx, w3.heap.size = bx := ⟨_, rfl⟩
  rw [hbx] at HX10
  rw [hw4, hbx]
  clear hbx hw4
  have HDW : Aside0 (Calls Try.prog 23 #[.pointer (some ⟨g, 0, none⟩), .int .i64 id] w4.drew (DoneK w4.drew b0 g ma d (dropL id L) (.bool ws))) := ⟨by
    have h1 := hold_drop_k (HT4.out.below (below_drew1 (Below.refl _ _))) id HID.out
    rw [HWS.out] at h1
    exact h1⟩
  have HKE : Aside0 (Keeps w4 w4.drew) := ⟨.of_below (below_drew1 (Below.refl _ _))⟩
  have HBE : Aside0 (RowKit.Below b0 W w4.drew) := ⟨HBB4.out.drew⟩
  have HRE4 := Aside0.mk (HR4.out.below (below_drew1 (Below.refl _ _)))
  have p0 : w4.drew.cell? ⟨bx, 0, none⟩ = some (.int .i64 d) := (blk_cell HX10.out 0).trans rfl
  have p1 : w4.drew.cell? ⟨bx, 1, none⟩ = some (.slice A9 m9 c9) := (blk_cell HX10.out 1).trans rfl
  have o1 : w4.drew.cell? ⟨b2 + 1, 1, none⟩ = some (.int .i64 id) := (blk_cell (HK4.out _ _ _ HX5.out (by decide)) 1).trans rfl
  have HXE := Aside0.mk (HKE.out _ _ _ HX10.out (by decide))
  refine start_ (n := 10) (S := fun w' => w'.cell? ⟨bx, 0, none⟩ = some (.int .i64 d) ∧ w'.cell? ⟨bx, 1, none⟩ = some (.slice A9 m9 c9) ∧ w'.cell? ⟨b2 + 1, 1, none⟩ = some (.int .i64 id)) (ds := [8]) #[false, false, false, false, false, false, false, false, false, false] (by kernel_rfl) rfl rfl ⟨p0, p1, o1⟩ (fun hHeld => ?_)
  refine with_tabW dz8.tab dz8.bits (fun HT_ HW_ => ?_)
  generalize hwE : w4.drew = wE at *
  refine pure_ (i := 1) (N := some 62) (v := ?_) (a' := ?_) #[false, true, false, false, false, false, false, false, false, false] rfl rfl (any_of HT_.out (by kernel_rfl)) (fun _ _ _ h => h) (Or.inl ⟨by rfl, ?_⟩) ?_ ?_; rotate_left; focus (intro w'; go_simp; with_reducible rfl)
  rotate_left; focus (simp only [Act.put, List.setIfInBounds_toArray, List.set_cons_zero, List.set_cons_succ, i64_w, i32_w]; rfl)
  refine pure_ (i := 2) (N := some 63) (v := ?_) (a' := ?_) #[false, true, true, false, false, false, false, false, false, false] rfl rfl (any_of HT_.out (by kernel_rfl)) (fun _ _ _ h => h) (Or.inl ⟨by rfl, ?_⟩) ?_ ?_; rotate_left; focus (intro w'; go_simp; with_reducible rfl)
  rotate_left; focus (simp only [Act.put, List.setIfInBounds_toArray, List.set_cons_zero, List.set_cons_succ, i64_w, i32_w]; rfl)
  refine pure_ (i := 3) (N := some 64) (v := ?_) (a' := ?_) #[false, true, true, true, false, false, false, false, false, false] rfl rfl (any_of HT_.out (by kernel_rfl)) (fun _ _ _ h => h) (Or.inl ⟨by rfl, ?_⟩) ?_ ?_; rotate_left; focus (intro w'; go_simp; with_reducible rfl)
  rotate_left; focus (simp only [Act.put, List.setIfInBounds_toArray, List.set_cons_zero, List.set_cons_succ, i64_w, i32_w]; rfl)
  refine pure_ (i := 6) (N := some 67) (v := ?_) (a' := ?_) #[false, true, true, true, false, false, true, false, false, false] rfl rfl (any_of HT_.out (by kernel_rfl)) (fun _ _ _ h => h) (Or.inl ⟨by rfl, ?_⟩) ?_ ?_; rotate_left; focus (intro w'; go_simp; with_reducible rfl)
  rotate_left; focus (simp only [Act.put, List.setIfInBounds_toArray, List.set_cons_zero, List.set_cons_succ, i64_w, i32_w]; rfl)
  refine take_ (i := 0) (N := some 61) (v := ?_) (a' := ?_) #[true, true, true, true, false, false, true, false, false, false] rfl rfl (take_ofW HT_.out HW_.out (by kernel_rfl)) (fun _ _ _ h => h) (Or.inl ⟨by rfl, ?_⟩) hHeld ?_ ?_; rotate_left; focus (rintro w' ⟨s0, s1, s2⟩; go_simp; with_reducible rfl)
  rotate_left; focus (simp only [Act.put, List.setIfInBounds_toArray, List.set_cons_zero, List.set_cons_succ, i64_w, i32_w]; rfl)
  refine take_ (i := 4) (N := some 65) (v := ?_) (a' := ?_) #[true, true, true, true, true, false, true, false, false, false] rfl rfl (take_ofW HT_.out HW_.out (by kernel_rfl)) (fun _ _ _ h => h) (Or.inl ⟨by rfl, ?_⟩) hHeld ?_ ?_; rotate_left; focus (rintro w' ⟨s0, s1, s2⟩; go_simp; with_reducible rfl)
  rotate_left; focus (simp only [Act.put, List.setIfInBounds_toArray, List.set_cons_zero, List.set_cons_succ, i64_w, i32_w]; rfl)
  refine one_ (i := 5) (N := some 66) #[true, true, true, true, true, true, true, false, false, false] rfl rfl (one_of HT_.out (by kernel_rfl)) (by decide) (fun K hK => ?_)
  refine goes_ Try.func23 (by kernel_rfl) rfl #[.pointer (some ⟨g, 0, none⟩), .int .i64 id] (by rfl) rfl rfl (by (try simp only [List.map_toArray, List.map_cons, List.map_nil]); first | done | rfl) ?_
  refine HDW.out.mono ?_
  rintro e w5 ⟨rfl, hh5, hb5, hk5⟩
  refine ⟨_, rfl, ?_⟩
  have HT5 := Aside0.mk hh5
  have HB5 := Aside0.mk hb5
  have HK5 := Aside0.mk hk5
  refine hK.out _ _ ⟨(blk_cell (hk5 _ _ _ HXE.out (by decide)) 0).trans rfl, (blk_cell (hk5 _ _ _ HXE.out (by decide)) 1).trans rfl, (blk_cell (hk5 _ _ _ (HKE.out _ _ _ (HK4.out _ _ _ HX5.out (by decide)) (by decide)) (by decide)) 1).trans rfl⟩ (fun hH2 => ?_)
  clear hHeld hK K hh5 hb5 hk5
  refine norm_ (a' := ?_) ?_ ?_
  rotate_left
  · simp only [Act.put, List.setIfInBounds_toArray, List.set_cons_zero, List.set_cons_succ, i64_w, i32_w]
    rfl
  refine pure_ (i := 7) (N := some 68) (v := ?_) (a' := ?_) #[true, true, true, true, true, true, true, true, false, false] rfl rfl (any_of HT_.out (by kernel_rfl)) (fun _ _ _ h => h) (Or.inl ⟨by rfl, ?_⟩) ?_ ?_; rotate_left; focus (intro w'; go_simp; with_reducible rfl)
  rotate_left; focus (simp only [Act.put, List.setIfInBounds_toArray, List.set_cons_zero, List.set_cons_succ, i64_w, i32_w]; rfl)
  refine last_ (i := 8) (N := none) #[true, true, true, true, true, true, true, true, true, false] rfl rfl (one_of HT_.out (by kernel_rfl)) (by decide) (fun K hK => ?_)
  have HK6 : Aside0 (Keeps W1 w5) := ⟨HK4.out.trans_ (HKE.out.trans_ HK5.out)⟩
  have s0 : w5.cell? ⟨b2 + 1 + 1, 0, none⟩ = some (.int .i64 0) := (blk_cell (HK6.out _ _ _ HX6.out (by decide)) 0).trans rfl
  have s1 : w5.cell? ⟨b2 + 1 + 1, 1, none⟩ = some (.slice none 0 0) := (blk_cell (HK6.out _ _ _ HX6.out (by decide)) 1).trans rfl
  have z0 := blk_frozen (HK6.out _ _ _ HX6.out (by decide)) 0
  have z1 := blk_frozen (HK6.out _ _ _ HX6.out (by decide)) 1
  refine skip_ (w1 := ?_) (by rfl) rfl ?_ ?_
  rotate_left
  · go_simp
    rfl
  refine hK.out _ _ ?_
  clear hK K s0 s1 z0 z1
  refine pure_ (i := 9) (N := some 7) (v := ?_) (a' := ?_) #[true, true, true, true, true, true, true, true, true, true] rfl rfl (any_of HT_.out (by kernel_rfl)) (fun _ _ _ h => h) (Or.inl ⟨by rfl, ?_⟩) ?_ ?_; rotate_left; focus (intro w'; go_simp; with_reducible rfl)
  rotate_left; focus (simp only [Act.put, List.setIfInBounds_toArray, List.set_cons_zero, List.set_cons_succ, i64_w, i32_w]; rfl)
  refine done_ (done_of HT_.out (by kernel_rfl)) ?_
  go_wp2_with fail
  clear p0 p1 o1
  have HBB5 : Aside0 (RowKit.Below b0 W w5) := ⟨below_cat HBE.out HB5.out⟩
  have HR5 := Aside0.mk (HRE4.out.keep HK5.out)
  have hx := HK6.out _ _ _ HX6.out (by decide)
  have hx2 := blk_set hx 0 (.int .i64 d)
  have hlt := blk_lt HX6.out
  have hbx : b0 ≤ b2 + 1 + 1 := by have := HT.out.lt; have := HKB.out; omega
  have hkk : Keeps W w5 := HK1.out.trans_ HK6.out
  refine bodyPost_ret (v := .tuple #[.agg #[.int .i64 d, .slice A9 m9 c9], .bool true]) (by have r0 : ((w5.setCell ⟨b2 + 1 + 1, 0, none⟩ (.int .i64 d)).setCell ⟨b2 + 1 + 1, 1, none⟩ (.slice A9 m9 c9)).cell? ⟨b2 + 1 + 1, 0, none⟩ = some (.int .i64 d) := (blk_cell (box2_set hx) 0).trans rfl; have r1 : ((w5.setCell ⟨b2 + 1 + 1, 0, none⟩ (.int .i64 d)).setCell ⟨b2 + 1 + 1, 1, none⟩ (.slice A9 m9 c9)).cell? ⟨b2 + 1 + 1, 1, none⟩ = some (.slice A9 m9 c9) := (blk_cell (box2_set hx) 1).trans rfl; simp [results, Try.results24, go_sem, r0, r1]) rfl ⟨⟨A9, m9, c9, rfl, ?_⟩, ?_, ?_, ?_⟩
  · exact (HR5.out.set hx (by decide) 0 (.int .i64 d)).set hx2 (by decide) 1 (.slice A9 m9 c9)
  · exact (HT5.out.set hx (by decide) (by decide) (by decide) 0 (.int .i64 d)).set hx2 (by decide) (by decide) (by decide) 1 (.slice A9 m9 c9)
  · exact RowKit.Below.setCell (p := ⟨b2 + 1 + 1, 1, none⟩) (RowKit.Below.setCell (p := ⟨b2 + 1 + 1, 0, none⟩) HBB5.out hbx _) hbx _
  · exact keeps_set (keeps_set hkk (by have := HKB.out; omega) 0 (.int .i64 d)) (by have := HKB.out; omega) 1 (.slice A9 m9 c9)
set_option maxRecDepth 100000 in
set_option maxHeartbeats 8000000 in
theorem does_3 (W0 W : World) (hW : Below W0.heap.size W0 W) (b0 g ma : Nat) (d : Int) (L : List (Int × List Int)) (A : Option Addr) (m c : Nat) (ht : HoldsD W b0 g ma d L) (h0 : W0.heap.size ≤ b0) (hr : RefAt W0 W (.slice A m c) L) (id kk lim : Int) (hid : (Lit.int .i64 id).wf = true) (A2 : Option Addr) (c2 : Nat) (v : List Int) (hC : Kd.C (Kd.int .i64) W0 A2 v.length v) (hc2 : v.length ≤ c2) :
    Calls Try.prog 24 #[.pointer (some ⟨g, 0, none⟩), .agg #[.int .i64 d, .slice A m c], .agg #[.int .i64 3, .int .i64 id, .slice A2 v.length c2, .int .i64 kk, .int .i64 lim]] W (Does W0 W b0 g ma d L) := by
  obtain ⟨n2, hn2⟩ : ∃ n2, v.length = n2 := ⟨_, rfl⟩
  have HN2 := Aside0.mk hn2
  have HC2 := Aside0.mk hc2
  have HC := Aside0.mk hC
  have HW := Aside0.mk hW
  have HT := Aside0.mk ht
  have HR := Aside0.mk hr
  have H0 := Aside0.mk h0
  have HID := Aside0.mk hid
  rw [hn2]
  obtain ⟨b2, W1, hbx⟩ := bx_of (n2 := n2) (id := id) (A2 := A2) (c2 := c2) (kk := kk) (lim := lim) (kind := 3) ht hr
  have HB2 := Aside0.mk hbx.size
  have HW1 := Aside0.mk hbx.al
  have HX4 := Aside0.mk hbx.x4
  have HX5 := Aside0.mk hbx.x5
  have HX6 := Aside0.mk hbx.x6
  have HK1 := Aside0.mk hbx.keep
  have HT1 := Aside0.mk hbx.tree
  have HR1 := Aside0.mk hbx.ref
  have HBB1 := Aside0.mk hbx.bb
  have HWW : Aside0 (∀ w', RowKit.Below b0 W w' → RowKit.Below W0.heap.size W0 w') := ⟨fun w' h => below_cat hW (h.mono h0)⟩
  have HKB : Aside0 (W.heap.size = b2) := ⟨hbx.size⟩
  have q0 : W1.cell? ⟨b2, 0, none⟩ = some (.int .i64 d) := (blk_cell HX4.out 0).trans rfl
  have q1 : W1.cell? ⟨b2, 1, none⟩ = some (.slice A m c) := (blk_cell HX4.out 1).trans rfl
  have o0 : W1.cell? ⟨b2 + 1, 0, none⟩ = some (.int .i64 3) := (blk_cell HX5.out 0).trans rfl
  have o1 : W1.cell? ⟨b2 + 1, 1, none⟩ = some (.int .i64 id) := (blk_cell HX5.out 1).trans rfl
  have o2 : W1.cell? ⟨b2 + 1, 2, none⟩ = some (.slice A2 n2 c2) := (blk_cell HX5.out 2).trans rfl
  have o3 : W1.cell? ⟨b2 + 1, 3, none⟩ = some (.int .i64 kk) := (blk_cell HX5.out 3).trans rfl
  have o4 : W1.cell? ⟨b2 + 1, 4, none⟩ = some (.int .i64 lim) := (blk_cell HX5.out 4).trans rfl
  clear hn2 hc2 hC hW ht hr h0 hid hbx
  go_enter Try.func24, Try.ntmps24
  go_upto_region 1 with (fail)
  rw [HB2.out, HW1.out]
  have HGT := Aside0.mk (hold_get HT1.out id HID.out)
  have HLK : Aside0 ((look L id).getD [] = [] ∨ isV ((look L id).getD []) = true) := ⟨by
    cases e : look L id with
    | none => exact .inl rfl
    | some x => exact .inr (HT.out.vecs _ (look_mem e)).1⟩
  go_upto_region 11 with (go_at_call 25; refine HGT.out.mono ?_; rintro e w2 ⟨⟨Ag, cg, rfl, hg1, hg2⟩, hb2⟩; have HG1 := Aside0.mk hg1; have HG2 := Aside0.mk hg2; have HB2' := Aside0.mk hb2; clear hg1 hg2 hb2)
  clear q0 q1 o0 o1 o2 o3 o4
  have HK2 : Aside0 (Keeps W1 w2) := ⟨.of_below HB2'.out⟩
  have HBB2 : Aside0 (RowKit.Below b0 W w2) := ⟨below_cat HBB1.out (HB2'.out.mono HT1.out.lt)⟩
  have HT2 := Aside0.mk (HT1.out.below HB2'.out)
  have HR2 := Aside0.mk (HR1.out.below HB2'.out)
  have q0 : w2.cell? ⟨b2, 0, none⟩ = some (.int .i64 d) := (blk_cell (HK2.out _ _ _ HX4.out (by decide)) 0).trans rfl
  have q1 : w2.cell? ⟨b2, 1, none⟩ = some (.slice A m c) := (blk_cell (HK2.out _ _ _ HX4.out (by decide)) 1).trans rfl
  have o1 : w2.cell? ⟨b2 + 1, 1, none⟩ = some (.int .i64 id) := (blk_cell (HK2.out _ _ _ HX5.out (by decide)) 1).trans rfl
  have HRG := Aside0.mk (ref_get W0 w2 (HWW.out w2 HBB2.out) d L (.slice A m c) HR2.out HT.out.rise HT.out.few id)
  go_upto_region 12 with (go_at_call 41; refine HRG.out.mono ?_; rintro e w3 ⟨⟨Ah, ch, rfl, hh1, hh2⟩, hb3⟩; have HH1 := Aside0.mk hh1; have HH2 := Aside0.mk hh2; have HB3 := Aside0.mk hb3; clear hh1 hh2 hb3)
  clear q0 q1 o1
  have HK3 : Aside0 (Keeps W1 w3) := ⟨HK2.out.trans_ (.of_below HB3.out)⟩
  have HBB3 : Aside0 (RowKit.Below b0 W w3) := ⟨below_cat HBB2.out (HB3.out.mono HT2.out.lt)⟩
  have HT3 := Aside0.mk (HT2.out.below HB3.out)
  have HR3 := Aside0.mk (HR2.out.below HB3.out)
  have HSI : Aside0 (Calls Try.prog 42 #[.slice Ag ((look L id).getD []).length cg, .slice Ah ((look L id).getD []).length ch] w3.drew fun e w' => e = .returned (.bool true) ∧ ∃ q, w' = w3.drew.drewN q) := ⟨by
    have hl : ((look L id).getD []).length ≤ 16 := by
      rcases HLK.out with e | e
      · rw [e]; simp
      · exact (isV_len e).2
    exact ints_calls Ag Ah cg ch ((look L id).getD []) w3.drew (Kd.C_below (Kd.C_below HG1.out HB3.out) (below_drew1 (Below.refl _ _))) (Kd.C_below HH1.out (below_drew1 (Below.refl _ _))) HG2.out HH2.out (by omega)⟩
  obtain ⟨ln, hln⟩ : ∃ ln, ((look L id).getD []).length = ln := ⟨_, rfl⟩
  rw [hln] at HSI
  rw [hln]
  obtain ⟨er, her⟩ : ∃ er : Int, (if (look L id).isSome then 0 else 3) = er := ⟨_, rfl⟩
  rw [her]
  clear hln her
  have HKE : Aside0 (Keeps W1 w3.drew) := ⟨HK3.out.trans_ (.of_below (below_drew1 (Below.refl _ _)))⟩
  have HBE : Aside0 (RowKit.Below b0 W w3.drew) := ⟨HBB3.out.drew⟩
  have HRE := Aside0.mk (HR3.out.below (below_drew1 (Below.refl _ _)))
  have HTE := Aside0.mk (HT3.out.below (below_drew1 (Below.refl _ _)))
  have q0 : w3.drew.cell? ⟨b2, 0, none⟩ = some (.int .i64 d) := (blk_cell (HKE.out _ _ _ HX4.out (by decide)) 0).trans rfl
  have q1 : w3.drew.cell? ⟨b2, 1, none⟩ = some (.slice A m c) := (blk_cell (HKE.out _ _ _ HX4.out (by decide)) 1).trans rfl
  refine start_ (n := 11) (S := fun w' => w'.cell? ⟨b2, 0, none⟩ = some (.int .i64 d) ∧ w'.cell? ⟨b2, 1, none⟩ = some (.slice A m c)) (ds := [9]) #[false, false, false, false, false, false, false, false, false, false, false] (by kernel_rfl) rfl rfl ⟨q0, q1⟩ (fun hHeld => ?_)
  refine with_tabW dz12.tab dz12.bits (fun HT_ HW_ => ?_)
  generalize hwE : w3.drew = wE at *
  refine pure_ (i := 1) (N := some 88) (v := ?_) (a' := ?_) #[false, true, false, false, false, false, false, false, false, false, false] rfl rfl (any_of HT_.out (by kernel_rfl)) (fun _ _ _ h => h) (Or.inl ⟨by rfl, ?_⟩) ?_ ?_; rotate_left; focus (intro w'; go_simp; with_reducible rfl)
  rotate_left; focus (simp only [Act.put, List.setIfInBounds_toArray, List.set_cons_zero, List.set_cons_succ, i64_w, i32_w]; rfl)
  refine pure_ (i := 2) (N := some 89) (v := ?_) (a' := ?_) #[false, true, true, false, false, false, false, false, false, false, false] rfl rfl (any_of HT_.out (by kernel_rfl)) (fun _ _ _ h => h) (Or.inl ⟨by rfl, ?_⟩) ?_ ?_; rotate_left; focus (intro w'; go_simp; with_reducible rfl)
  rotate_left; focus (simp only [Act.put, List.setIfInBounds_toArray, List.set_cons_zero, List.set_cons_succ, i64_w, i32_w]; rfl)
  refine take_ (i := 0) (N := some 87) (v := ?_) (a' := ?_) #[true, true, true, false, false, false, false, false, false, false, false] rfl rfl (take_ofW HT_.out HW_.out (by kernel_rfl)) (fun _ _ _ h => h) (Or.inl ⟨by rfl, ?_⟩) hHeld ?_ ?_; rotate_left; focus (rintro w' ⟨s0, s1⟩; go_simp; with_reducible rfl)
  rotate_left; focus (simp only [Act.put, List.setIfInBounds_toArray, List.set_cons_zero, List.set_cons_succ, i64_w, i32_w]; rfl)
  refine one_ (i := 3) (N := some 90) #[true, true, true, true, false, false, false, false, false, false, false] rfl rfl (one_of HT_.out (by kernel_rfl)) (by decide) (fun K hK => ?_)
  refine goes_ Try.func42 (by kernel_rfl) rfl #[.slice Ag ln cg, .slice Ah ln ch] (by rfl) rfl rfl (by (try simp only [List.map_toArray, List.map_cons, List.map_nil]); first | done | rfl) ?_
  refine HSI.out.mono ?_
  rintro e w5 ⟨rfl, q5, rfl⟩
  refine ⟨_, rfl, ?_⟩
  refine hK.out _ _ ⟨pw_cell_below (pw_below_drewN (Below.refl _ _) q5) hHeld.1, pw_cell_below (pw_below_drewN (Below.refl _ _) q5) hHeld.2⟩ (fun hH2 => ?_)
  clear hHeld hK K
  refine norm_ (a' := ?_) ?_ ?_
  rotate_left
  · simp only [Act.put, List.setIfInBounds_toArray, List.set_cons_zero, List.set_cons_succ, i64_w, i32_w]
    rfl
  refine pure_ (i := 4) (N := some 91) (v := ?_) (a' := ?_) #[true, true, true, true, true, false, false, false, false, false, false] rfl rfl (any_of HT_.out (by kernel_rfl)) (fun _ _ _ h => h) (Or.inl ⟨by rfl, ?_⟩) ?_ ?_; rotate_left; focus (intro w'; go_simp; with_reducible rfl)
  rotate_left; focus (simp only [Act.put, List.setIfInBounds_toArray, List.set_cons_zero, List.set_cons_succ, i64_w, i32_w]; rfl)
  refine pure_ (i := 5) (N := some 92) (v := ?_) (a' := ?_) #[true, true, true, true, true, true, false, false, false, false, false] rfl rfl (any_of HT_.out (by kernel_rfl)) (fun _ _ _ h => h) (Or.inl ⟨by rfl, ?_⟩) ?_ ?_; rotate_left; focus (intro w'; go_simp; with_reducible rfl)
  rotate_left; focus (simp only [Act.put, List.setIfInBounds_toArray, List.set_cons_zero, List.set_cons_succ, i64_w, i32_w]; rfl)
  refine pure_ (i := 6) (N := some 93) (v := ?_) (a' := ?_) #[true, true, true, true, true, true, true, false, false, false, false] rfl rfl (any_of HT_.out (by kernel_rfl)) (fun _ _ _ h => h) (Or.inl ⟨by rfl, ?_⟩) ?_ ?_; rotate_left; focus (intro w'; go_simp; with_reducible rfl)
  rotate_left; focus (simp only [Act.put, List.setIfInBounds_toArray, List.set_cons_zero, List.set_cons_succ, i64_w, i32_w]; rfl)
  refine pure_ (i := 7) (N := some 94) (v := ?_) (a' := ?_) #[true, true, true, true, true, true, true, true, false, false, false] rfl rfl (any_of HT_.out (by kernel_rfl)) (fun _ _ _ h => h) (Or.inl ⟨by rfl, ?_⟩) ?_ ?_; rotate_left; focus (intro w'; go_simp; with_reducible rfl)
  rotate_left; focus (simp only [Act.put, List.setIfInBounds_toArray, List.set_cons_zero, List.set_cons_succ, i64_w, i32_w]; rfl)
  refine pure_ (i := 8) (N := some 95) (v := ?_) (a' := ?_) #[true, true, true, true, true, true, true, true, true, false, false] rfl rfl (any_of HT_.out (by kernel_rfl)) (fun _ _ _ h => h) (Or.inl ⟨by rfl, ?_⟩) ?_ ?_; rotate_left; focus (intro w'; go_simp; with_reducible rfl)
  rotate_left; focus (simp only [Act.put, List.setIfInBounds_toArray, List.set_cons_zero, List.set_cons_succ, i64_w, i32_w]; rfl)
  refine last_ (i := 9) (N := none) #[true, true, true, true, true, true, true, true, true, true, false] rfl rfl (one_of HT_.out (by kernel_rfl)) (by decide) (fun K hK => ?_)
  have HK6 : Aside0 (Keeps W1 (wE.drewN q5)) := ⟨HKE.out.trans_ (.of_below (pw_below_drewN (Below.refl _ _) q5))⟩
  have HBB5 : Aside0 (RowKit.Below b0 W (wE.drewN q5)) := ⟨pw_below_drewN HBE.out q5⟩
  have HR5 := Aside0.mk (HRE.out.below (pw_below_drewN (Below.refl _ _) q5))
  have HT5 := Aside0.mk (HTE.out.below (pw_below_drewN (Below.refl _ _) q5))
  generalize wE.drewN q5 = w5 at *
  have s0 : w5.cell? ⟨b2 + 1 + 1, 0, none⟩ = some (.int .i64 0) := (blk_cell (HK6.out _ _ _ HX6.out (by decide)) 0).trans rfl
  have s1 : w5.cell? ⟨b2 + 1 + 1, 1, none⟩ = some (.slice none 0 0) := (blk_cell (HK6.out _ _ _ HX6.out (by decide)) 1).trans rfl
  have z0 := blk_frozen (HK6.out _ _ _ HX6.out (by decide)) 0
  have z1 := blk_frozen (HK6.out _ _ _ HX6.out (by decide)) 1
  refine skip_ (w1 := ?_) (by rfl) rfl ?_ ?_
  rotate_left
  · go_simp
    rfl
  refine hK.out _ _ ?_
  clear hK K s0 s1 z0 z1
  refine pure_ (i := 10) (N := some 7) (v := ?_) (a' := ?_) #[true, true, true, true, true, true, true, true, true, true, true] rfl rfl (any_of HT_.out (by kernel_rfl)) (fun _ _ _ h => h) (Or.inl ⟨by rfl, ?_⟩) ?_ ?_; rotate_left; focus (intro w'; go_simp; with_reducible rfl)
  rotate_left; focus (simp only [Act.put, List.setIfInBounds_toArray, List.set_cons_zero, List.set_cons_succ, i64_w, i32_w]; rfl)
  refine done_ (done_of HT_.out (by kernel_rfl)) ?_
  go_wp2_with fail
  clear q0 q1
  have hx := HK6.out _ _ _ HX6.out (by decide)
  have hx2 := blk_set hx 0 (.int .i64 d)
  have hlt := blk_lt HX6.out
  have hbx : b0 ≤ b2 + 1 + 1 := by have := HT.out.lt; have := HKB.out; omega
  have hkk : Keeps W w5 := HK1.out.trans_ HK6.out
  refine bodyPost_ret (v := .tuple #[.agg #[.int .i64 d, .slice A m c], .bool true]) (by have r0 : ((w5.setCell ⟨b2 + 1 + 1, 0, none⟩ (.int .i64 d)).setCell ⟨b2 + 1 + 1, 1, none⟩ (.slice A m c)).cell? ⟨b2 + 1 + 1, 0, none⟩ = some (.int .i64 d) := (blk_cell (box2_set hx) 0).trans rfl; have r1 : ((w5.setCell ⟨b2 + 1 + 1, 0, none⟩ (.int .i64 d)).setCell ⟨b2 + 1 + 1, 1, none⟩ (.slice A m c)).cell? ⟨b2 + 1 + 1, 1, none⟩ = some (.slice A m c) := (blk_cell (box2_set hx) 1).trans rfl; simp [results, Try.results24, go_sem, r0, r1]) rfl ⟨⟨A, m, c, rfl, ?_⟩, ?_, ?_, ?_⟩
  · exact (HR5.out.set hx (by decide) 0 (.int .i64 d)).set hx2 (by decide) 1 (.slice A m c)
  · exact (HT5.out.set hx (by decide) (by decide) (by decide) 0 (.int .i64 d)).set hx2 (by decide) (by decide) (by decide) 1 (.slice A m c)
  · exact RowKit.Below.setCell (p := ⟨b2 + 1 + 1, 1, none⟩) (RowKit.Below.setCell (p := ⟨b2 + 1 + 1, 0, none⟩) HBB5.out hbx _) hbx _
  · exact keeps_set (keeps_set hkk (by have := HKB.out; omega) 0 (.int .i64 d)) (by have := HKB.out; omega) 1 (.slice A m c)
set_option maxRecDepth 100000 in
set_option maxHeartbeats 8000000 in
theorem does_4 (W0 W : World) (hW : Below W0.heap.size W0 W) (b0 g ma : Nat) (d : Int) (L : List (Int × List Int)) (A : Option Addr) (m c : Nat) (ht : HoldsD W b0 g ma d L) (h0 : W0.heap.size ≤ b0) (hr : RefAt W0 W (.slice A m c) L) (id kk lim : Int) (hid : (Lit.int .i64 id).wf = true) (A2 : Option Addr) (c2 : Nat) (v : List Int) (hC : Kd.C (Kd.int .i64) W0 A2 v.length v) (hc2 : v.length ≤ c2) :
    Calls Try.prog 24 #[.pointer (some ⟨g, 0, none⟩), .agg #[.int .i64 d, .slice A m c], .agg #[.int .i64 4, .int .i64 id, .slice A2 v.length c2, .int .i64 kk, .int .i64 lim]] W (Does W0 W b0 g ma d L) := by
  obtain ⟨n2, hn2⟩ : ∃ n2, v.length = n2 := ⟨_, rfl⟩
  have HN2 := Aside0.mk hn2
  have HC2 := Aside0.mk hc2
  have HC := Aside0.mk hC
  have HW := Aside0.mk hW
  have HT := Aside0.mk ht
  have HR := Aside0.mk hr
  have H0 := Aside0.mk h0
  have HID := Aside0.mk hid
  rw [hn2]
  obtain ⟨b2, W1, hbx⟩ := bx_of (n2 := n2) (id := id) (A2 := A2) (c2 := c2) (kk := kk) (lim := lim) (kind := 4) ht hr
  have HB2 := Aside0.mk hbx.size
  have HW1 := Aside0.mk hbx.al
  have HX4 := Aside0.mk hbx.x4
  have HX5 := Aside0.mk hbx.x5
  have HX6 := Aside0.mk hbx.x6
  have HK1 := Aside0.mk hbx.keep
  have HT1 := Aside0.mk hbx.tree
  have HR1 := Aside0.mk hbx.ref
  have HBB1 := Aside0.mk hbx.bb
  have HWW : Aside0 (∀ w', RowKit.Below b0 W w' → RowKit.Below W0.heap.size W0 w') := ⟨fun w' h => below_cat hW (h.mono h0)⟩
  have HKB : Aside0 (W.heap.size = b2) := ⟨hbx.size⟩
  have q0 : W1.cell? ⟨b2, 0, none⟩ = some (.int .i64 d) := (blk_cell HX4.out 0).trans rfl
  have q1 : W1.cell? ⟨b2, 1, none⟩ = some (.slice A m c) := (blk_cell HX4.out 1).trans rfl
  have o0 : W1.cell? ⟨b2 + 1, 0, none⟩ = some (.int .i64 4) := (blk_cell HX5.out 0).trans rfl
  have o1 : W1.cell? ⟨b2 + 1, 1, none⟩ = some (.int .i64 id) := (blk_cell HX5.out 1).trans rfl
  have o2 : W1.cell? ⟨b2 + 1, 2, none⟩ = some (.slice A2 n2 c2) := (blk_cell HX5.out 2).trans rfl
  have o3 : W1.cell? ⟨b2 + 1, 3, none⟩ = some (.int .i64 kk) := (blk_cell HX5.out 3).trans rfl
  have o4 : W1.cell? ⟨b2 + 1, 4, none⟩ = some (.int .i64 lim) := (blk_cell HX5.out 4).trans rfl
  clear hn2 hc2 hC hW ht hr h0 hid hbx
  go_enter Try.func24, Try.ntmps24
  go_upto_region 1 with (fail)
  rw [HB2.out, HW1.out]
  obtain ⟨X, hX⟩ : ∃ X, (topR d L v kk lim).1 = X := ⟨_, rfl⟩
  obtain ⟨er, her⟩ : ∃ er, (topR d L v kk lim).2 = er := ⟨_, rfl⟩
  have HXL : Aside0 (X.length ≤ 64) := ⟨by rw [← hX]; exact topR_len _ _ _ _ _⟩
  have HTT : Aside0 (Calls Try.prog 17 #[.pointer (some ⟨g, 0, none⟩), .slice A2 n2 c2, .int .i64 kk, .int .i64 lim] W1 (RefNear W1 X er)) := ⟨by
    have h1 := hold_top_any HT1.out A2 c2 v (Kd.C_below HC.out (HWW.out W1 HBB1.out)) kk lim
    rw [HN2.out, hX, her] at h1
    exact h1⟩
  have HRX : Aside0 (∀ w', RefAt W0 w' (.slice A m c) L → RowKit.Below b0 W w' → Calls Try.prog 16 #[.agg #[.int .i64 d, .slice A m c], .slice A2 n2 c2, .int .i64 kk, .int .i64 lim] w' (RefNear w' X er)) := ⟨fun w' hr hb => by
    have h1 := ref_top_any W0 w' (HWW.out w' hb) d L (.slice A m c) hr HT.out.rise HT.out.few HT.out.vecs A2 c2 v (Kd.C_below HC.out (HWW.out w' hb)) HC2.out kk lim
    rw [HN2.out, hX, her] at h1
    exact h1⟩
  clear hX her
  go_upto_region 15 with (go_at_call 17; refine HTT.out.mono ?_; rintro e w2 ⟨⟨v2, Ag, ng, cg, rfl, rfl, hg1, hg2, hg3, hg4⟩, hb2⟩; have HS2 : Aside0 (HitsAt w2 Ag ng cg X) := ⟨⟨hg3, hg1, hg2, hg4⟩⟩; have HB2' := Aside0.mk hb2; clear hg1 hg2 hg3 hg4 hb2)
  clear q0 q1 o0 o1 o2 o3 o4
  have HK2 : Aside0 (Keeps W1 w2) := ⟨.of_below HB2'.out⟩
  have HBB2 : Aside0 (RowKit.Below b0 W w2) := ⟨below_cat HBB1.out (HB2'.out.mono HT1.out.lt)⟩
  have HT2 := Aside0.mk (HT1.out.below HB2'.out)
  have HR2 := Aside0.mk (HR1.out.below HB2'.out)
  have q0 : w2.cell? ⟨b2, 0, none⟩ = some (.int .i64 d) := (blk_cell (HK2.out _ _ _ HX4.out (by decide)) 0).trans rfl
  have q1 : w2.cell? ⟨b2, 1, none⟩ = some (.slice A m c) := (blk_cell (HK2.out _ _ _ HX4.out (by decide)) 1).trans rfl
  have o2 : w2.cell? ⟨b2 + 1, 2, none⟩ = some (.slice A2 n2 c2) := (blk_cell (HK2.out _ _ _ HX5.out (by decide)) 2).trans rfl
  have o3 : w2.cell? ⟨b2 + 1, 3, none⟩ = some (.int .i64 kk) := (blk_cell (HK2.out _ _ _ HX5.out (by decide)) 3).trans rfl
  have o4 : w2.cell? ⟨b2 + 1, 4, none⟩ = some (.int .i64 lim) := (blk_cell (HK2.out _ _ _ HX5.out (by decide)) 4).trans rfl
  have HRT := Aside0.mk (HRX.out w2 HR2.out HBB2.out)
  go_upto_region 16 with (go_at_call 16; refine HRT.out.mono ?_; rintro e w3 ⟨⟨v3, Ah, nh, ch, rfl, rfl, hg1, hg2, hg3, hg4⟩, hb3⟩; have HS3 : Aside0 (HitsAt w3 Ah nh ch X) := ⟨⟨hg3, hg1, hg2, hg4⟩⟩; have HB3 := Aside0.mk hb3; clear hg1 hg2 hg3 hg4 hb3)
  clear q0 q1 o2 o3 o4
  have HK3 : Aside0 (Keeps W1 w3) := ⟨HK2.out.trans_ (.of_below HB3.out)⟩
  have HBB3 : Aside0 (RowKit.Below b0 W w3) := ⟨below_cat HBB2.out (HB3.out.mono HT2.out.lt)⟩
  have HT3 := Aside0.mk (HT2.out.below HB3.out)
  have HR3 := Aside0.mk (HR2.out.below HB3.out)
  have HSI : Aside0 (Calls Try.prog 19 #[.slice Ag ng cg, .slice Ah nh ch] w3.drew fun e w' => e = .returned (.bool true) ∧ ∃ q, w' = w3.drew.drewN q) := ⟨by
    have e1 := HS2.out.len
    have e2 := HS3.out.len
    have h1 := HS3.out
    rw [e2, ← e1] at h1
    have h2 := same49_calls ((HS2.out.keep (.of_below HB3.out)).keep (.of_below (below_drew1 (Below.refl _ _)))) (h1.keep (.of_below (below_drew1 (Below.refl _ _)))) (by have := HXL.out; omega)
    rw [e1, ← e2] at h2
    rw [e1, ← e2]
    exact h2⟩
  have HKE : Aside0 (Keeps W1 w3.drew) := ⟨HK3.out.trans_ (.of_below (below_drew1 (Below.refl _ _)))⟩
  have HBE : Aside0 (RowKit.Below b0 W w3.drew) := ⟨HBB3.out.drew⟩
  have HRE := Aside0.mk (HR3.out.below (below_drew1 (Below.refl _ _)))
  have HTE := Aside0.mk (HT3.out.below (below_drew1 (Below.refl _ _)))
  have q0 : w3.drew.cell? ⟨b2, 0, none⟩ = some (.int .i64 d) := (blk_cell (HKE.out _ _ _ HX4.out (by decide)) 0).trans rfl
  have q1 : w3.drew.cell? ⟨b2, 1, none⟩ = some (.slice A m c) := (blk_cell (HKE.out _ _ _ HX4.out (by decide)) 1).trans rfl
  refine start_ (n := 11) (S := fun w' => w'.cell? ⟨b2, 0, none⟩ = some (.int .i64 d) ∧ w'.cell? ⟨b2, 1, none⟩ = some (.slice A m c)) (ds := [9]) #[false, false, false, false, false, false, false, false, false, false, false] (by kernel_rfl) rfl rfl ⟨q0, q1⟩ (fun hHeld => ?_)
  refine with_tabW dz16.tab dz16.bits (fun HT_ HW_ => ?_)
  generalize hwE : w3.drew = wE at *
  refine pure_ (i := 1) (N := some 123) (v := ?_) (a' := ?_) #[false, true, false, false, false, false, false, false, false, false, false] rfl rfl (any_of HT_.out (by kernel_rfl)) (fun _ _ _ h => h) (Or.inl ⟨by rfl, ?_⟩) ?_ ?_; rotate_left; focus (intro w'; go_simp; with_reducible rfl)
  rotate_left; focus (simp only [Act.put, List.setIfInBounds_toArray, List.set_cons_zero, List.set_cons_succ, i64_w, i32_w]; rfl)
  refine pure_ (i := 2) (N := some 124) (v := ?_) (a' := ?_) #[false, true, true, false, false, false, false, false, false, false, false] rfl rfl (any_of HT_.out (by kernel_rfl)) (fun _ _ _ h => h) (Or.inl ⟨by rfl, ?_⟩) ?_ ?_; rotate_left; focus (intro w'; go_simp; with_reducible rfl)
  rotate_left; focus (simp only [Act.put, List.setIfInBounds_toArray, List.set_cons_zero, List.set_cons_succ, i64_w, i32_w]; rfl)
  refine take_ (i := 0) (N := some 122) (v := ?_) (a' := ?_) #[true, true, true, false, false, false, false, false, false, false, false] rfl rfl (take_ofW HT_.out HW_.out (by kernel_rfl)) (fun _ _ _ h => h) (Or.inl ⟨by rfl, ?_⟩) hHeld ?_ ?_; rotate_left; focus (rintro w' ⟨s0, s1⟩; go_simp; with_reducible rfl)
  rotate_left; focus (simp only [Act.put, List.setIfInBounds_toArray, List.set_cons_zero, List.set_cons_succ, i64_w, i32_w]; rfl)
  refine one_ (i := 3) (N := some 125) #[true, true, true, true, false, false, false, false, false, false, false] rfl rfl (one_of HT_.out (by kernel_rfl)) (by decide) (fun K hK => ?_)
  refine goes_ Try.func19 (by kernel_rfl) rfl #[.slice Ag ng cg, .slice Ah nh ch] (by rfl) rfl rfl (by (try simp only [List.map_toArray, List.map_cons, List.map_nil]); first | done | rfl) ?_
  refine HSI.out.mono ?_
  rintro e w5 ⟨rfl, q5, rfl⟩
  refine ⟨_, rfl, ?_⟩
  refine hK.out _ _ ⟨pw_cell_below (pw_below_drewN (Below.refl _ _) q5) hHeld.1, pw_cell_below (pw_below_drewN (Below.refl _ _) q5) hHeld.2⟩ (fun hH2 => ?_)
  clear hHeld hK K
  refine norm_ (a' := ?_) ?_ ?_
  rotate_left
  · simp only [Act.put, List.setIfInBounds_toArray, List.set_cons_zero, List.set_cons_succ, i64_w, i32_w]
    rfl
  refine pure_ (i := 4) (N := some 126) (v := ?_) (a' := ?_) #[true, true, true, true, true, false, false, false, false, false, false] rfl rfl (any_of HT_.out (by kernel_rfl)) (fun _ _ _ h => h) (Or.inl ⟨by rfl, ?_⟩) ?_ ?_; rotate_left; focus (intro w'; go_simp; with_reducible rfl)
  rotate_left; focus (simp only [Act.put, List.setIfInBounds_toArray, List.set_cons_zero, List.set_cons_succ, i64_w, i32_w]; rfl)
  refine pure_ (i := 5) (N := some 127) (v := ?_) (a' := ?_) #[true, true, true, true, true, true, false, false, false, false, false] rfl rfl (any_of HT_.out (by kernel_rfl)) (fun _ _ _ h => h) (Or.inl ⟨by rfl, ?_⟩) ?_ ?_; rotate_left; focus (intro w'; go_simp; with_reducible rfl)
  rotate_left; focus (simp only [Act.put, List.setIfInBounds_toArray, List.set_cons_zero, List.set_cons_succ, i64_w, i32_w]; rfl)
  refine pure_ (i := 6) (N := some 128) (v := ?_) (a' := ?_) #[true, true, true, true, true, true, true, false, false, false, false] rfl rfl (any_of HT_.out (by kernel_rfl)) (fun _ _ _ h => h) (Or.inl ⟨by rfl, ?_⟩) ?_ ?_; rotate_left; focus (intro w'; go_simp; with_reducible rfl)
  rotate_left; focus (simp only [Act.put, List.setIfInBounds_toArray, List.set_cons_zero, List.set_cons_succ, i64_w, i32_w]; rfl)
  refine pure_ (i := 7) (N := some 129) (v := ?_) (a' := ?_) #[true, true, true, true, true, true, true, true, false, false, false] rfl rfl (any_of HT_.out (by kernel_rfl)) (fun _ _ _ h => h) (Or.inl ⟨by rfl, ?_⟩) ?_ ?_; rotate_left; focus (intro w'; go_simp; with_reducible rfl)
  rotate_left; focus (simp only [Act.put, List.setIfInBounds_toArray, List.set_cons_zero, List.set_cons_succ, i64_w, i32_w]; rfl)
  refine pure_ (i := 8) (N := some 130) (v := ?_) (a' := ?_) #[true, true, true, true, true, true, true, true, true, false, false] rfl rfl (any_of HT_.out (by kernel_rfl)) (fun _ _ _ h => h) (Or.inl ⟨by rfl, ?_⟩) ?_ ?_; rotate_left; focus (intro w'; go_simp; with_reducible rfl)
  rotate_left; focus (simp only [Act.put, List.setIfInBounds_toArray, List.set_cons_zero, List.set_cons_succ, i64_w, i32_w]; rfl)
  refine last_ (i := 9) (N := none) #[true, true, true, true, true, true, true, true, true, true, false] rfl rfl (one_of HT_.out (by kernel_rfl)) (by decide) (fun K hK => ?_)
  have HK6 : Aside0 (Keeps W1 (wE.drewN q5)) := ⟨HKE.out.trans_ (.of_below (pw_below_drewN (Below.refl _ _) q5))⟩
  have HBB5 : Aside0 (RowKit.Below b0 W (wE.drewN q5)) := ⟨pw_below_drewN HBE.out q5⟩
  have HR5 := Aside0.mk (HRE.out.below (pw_below_drewN (Below.refl _ _) q5))
  have HT5 := Aside0.mk (HTE.out.below (pw_below_drewN (Below.refl _ _) q5))
  generalize wE.drewN q5 = w5 at *
  have s0 : w5.cell? ⟨b2 + 1 + 1, 0, none⟩ = some (.int .i64 0) := (blk_cell (HK6.out _ _ _ HX6.out (by decide)) 0).trans rfl
  have s1 : w5.cell? ⟨b2 + 1 + 1, 1, none⟩ = some (.slice none 0 0) := (blk_cell (HK6.out _ _ _ HX6.out (by decide)) 1).trans rfl
  have z0 := blk_frozen (HK6.out _ _ _ HX6.out (by decide)) 0
  have z1 := blk_frozen (HK6.out _ _ _ HX6.out (by decide)) 1
  refine skip_ (w1 := ?_) (by rfl) rfl ?_ ?_
  rotate_left
  · go_simp
    rfl
  refine hK.out _ _ ?_
  clear hK K s0 s1 z0 z1
  refine pure_ (i := 10) (N := some 7) (v := ?_) (a' := ?_) #[true, true, true, true, true, true, true, true, true, true, true] rfl rfl (any_of HT_.out (by kernel_rfl)) (fun _ _ _ h => h) (Or.inl ⟨by rfl, ?_⟩) ?_ ?_; rotate_left; focus (intro w'; go_simp; with_reducible rfl)
  rotate_left; focus (simp only [Act.put, List.setIfInBounds_toArray, List.set_cons_zero, List.set_cons_succ, i64_w, i32_w]; rfl)
  refine done_ (done_of HT_.out (by kernel_rfl)) ?_
  go_wp2_with fail
  clear q0 q1
  have hx := HK6.out _ _ _ HX6.out (by decide)
  have hx2 := blk_set hx 0 (.int .i64 d)
  have hlt := blk_lt HX6.out
  have hbx : b0 ≤ b2 + 1 + 1 := by have := HT.out.lt; have := HKB.out; omega
  have hkk : Keeps W w5 := HK1.out.trans_ HK6.out
  refine bodyPost_ret (v := .tuple #[.agg #[.int .i64 d, .slice A m c], .bool true]) (by have r0 : ((w5.setCell ⟨b2 + 1 + 1, 0, none⟩ (.int .i64 d)).setCell ⟨b2 + 1 + 1, 1, none⟩ (.slice A m c)).cell? ⟨b2 + 1 + 1, 0, none⟩ = some (.int .i64 d) := (blk_cell (box2_set hx) 0).trans rfl; have r1 : ((w5.setCell ⟨b2 + 1 + 1, 0, none⟩ (.int .i64 d)).setCell ⟨b2 + 1 + 1, 1, none⟩ (.slice A m c)).cell? ⟨b2 + 1 + 1, 1, none⟩ = some (.slice A m c) := (blk_cell (box2_set hx) 1).trans rfl; simp [results, Try.results24, go_sem, r0, r1]) rfl ⟨⟨A, m, c, rfl, ?_⟩, ?_, ?_, ?_⟩
  · exact (HR5.out.set hx (by decide) 0 (.int .i64 d)).set hx2 (by decide) 1 (.slice A m c)
  · exact (HT5.out.set hx (by decide) (by decide) (by decide) 0 (.int .i64 d)).set hx2 (by decide) (by decide) (by decide) 1 (.slice A m c)
  · exact RowKit.Below.setCell (p := ⟨b2 + 1 + 1, 1, none⟩) (RowKit.Below.setCell (p := ⟨b2 + 1 + 1, 0, none⟩) HBB5.out hbx _) hbx _
  · exact keeps_set (keeps_set hkk (by have := HKB.out; omega) 0 (.int .i64 d)) (by have := HKB.out; omega) 1 (.slice A m c)
set_option maxRecDepth 100000 in
set_option maxHeartbeats 8000000 in
theorem does_5 (W0 W : World) (hW : Below W0.heap.size W0 W) (b0 g ma : Nat) (d : Int) (L : List (Int × List Int)) (A : Option Addr) (m c : Nat) (ht : HoldsD W b0 g ma d L) (h0 : W0.heap.size ≤ b0) (hr : RefAt W0 W (.slice A m c) L) (kind id kk lim : Int) (hid : (Lit.int .i64 id).wf = true) (A2 : Option Addr) (c2 : Nat) (v : List Int) (hC : Kd.C (Kd.int .i64) W0 A2 v.length v) (hc2 : v.length ≤ c2) (h1 : kind ≠ 1) (h2 : kind ≠ 2) (h3 : kind ≠ 3) (h4 : kind ≠ 4) :
    Calls Try.prog 24 #[.pointer (some ⟨g, 0, none⟩), .agg #[.int .i64 d, .slice A m c], .agg #[.int .i64 kind, .int .i64 id, .slice A2 v.length c2, .int .i64 kk, .int .i64 lim]] W (Does W0 W b0 g ma d L) := by
  obtain ⟨n2, hn2⟩ : ∃ n2, v.length = n2 := ⟨_, rfl⟩
  have HN2 := Aside0.mk hn2
  have HC2 := Aside0.mk hc2
  have HC := Aside0.mk hC
  have HW := Aside0.mk hW
  have HT := Aside0.mk ht
  have HR := Aside0.mk hr
  have H0 := Aside0.mk h0
  have HID := Aside0.mk hid
  rw [hn2]
  obtain ⟨b2, W1, hbx⟩ := bx_of (n2 := n2) (id := id) (A2 := A2) (c2 := c2) (kk := kk) (lim := lim) (kind := kind) ht hr
  have HB2 := Aside0.mk hbx.size
  have HW1 := Aside0.mk hbx.al
  have HX4 := Aside0.mk hbx.x4
  have HX5 := Aside0.mk hbx.x5
  have HX6 := Aside0.mk hbx.x6
  have HK1 := Aside0.mk hbx.keep
  have HT1 := Aside0.mk hbx.tree
  have HR1 := Aside0.mk hbx.ref
  have HBB1 := Aside0.mk hbx.bb
  have HWW : Aside0 (∀ w', RowKit.Below b0 W w' → RowKit.Below W0.heap.size W0 w') := ⟨fun w' h => below_cat hW (h.mono h0)⟩
  have HKB : Aside0 (W.heap.size = b2) := ⟨hbx.size⟩
  have q0 : W1.cell? ⟨b2, 0, none⟩ = some (.int .i64 d) := (blk_cell HX4.out 0).trans rfl
  have q1 : W1.cell? ⟨b2, 1, none⟩ = some (.slice A m c) := (blk_cell HX4.out 1).trans rfl
  have o0 : W1.cell? ⟨b2 + 1, 0, none⟩ = some (.int .i64 kind) := (blk_cell HX5.out 0).trans rfl
  have o1 : W1.cell? ⟨b2 + 1, 1, none⟩ = some (.int .i64 id) := (blk_cell HX5.out 1).trans rfl
  have o2 : W1.cell? ⟨b2 + 1, 2, none⟩ = some (.slice A2 n2 c2) := (blk_cell HX5.out 2).trans rfl
  have o3 : W1.cell? ⟨b2 + 1, 3, none⟩ = some (.int .i64 kk) := (blk_cell HX5.out 3).trans rfl
  have o4 : W1.cell? ⟨b2 + 1, 4, none⟩ = some (.int .i64 lim) := (blk_cell HX5.out 4).trans rfl
  clear hn2 hc2 hC hW ht hr h0 hid hbx
  go_enter Try.func24, Try.ntmps24
  go_upto_region 1 with (fail)
  rw [HB2.out, HW1.out]
  have h1b : ((kind : Int) == 1) = false := by simpa using h1
  have h2b : ((kind : Int) == 2) = false := by simpa using h2
  have h3b : ((kind : Int) == 3) = false := by simpa using h3
  have h4b : ((kind : Int) == 4) = false := by simpa using h4
  clear h1 h2 h3 h4
  go_upto_region 17 with (fail)
  clear q0 q1 o0 o1 o2 o3 o4
  have HMK := Aside0.mk (hold_make_k (HT1.out.below (below_drew1 (Below.refl _ _))))
  have HKE : Aside0 (Keeps W1 W1.drew) := ⟨.of_below (below_drew1 (Below.refl _ _))⟩
  have HBE : Aside0 (RowKit.Below b0 W W1.drew) := ⟨HBB1.out.drew⟩
  have HRE := Aside0.mk (HR1.out.below (below_drew1 (Below.refl _ _)))
  have q0 : W1.drew.cell? ⟨b2, 0, none⟩ = some (.int .i64 d) := (blk_cell (HKE.out _ _ _ HX4.out (by decide)) 0).trans rfl
  have q1 : W1.drew.cell? ⟨b2, 1, none⟩ = some (.slice A m c) := (blk_cell (HKE.out _ _ _ HX4.out (by decide)) 1).trans rfl
  refine start_ (n := 6) (S := fun w' => w'.cell? ⟨b2, 0, none⟩ = some (.int .i64 d) ∧ w'.cell? ⟨b2, 1, none⟩ = some (.slice A m c)) (ds := [4]) #[false, false, false, false, false, false] (by kernel_rfl) rfl rfl ⟨q0, q1⟩ (fun hHeld => ?_)
  refine with_tabW dz17.tab dz17.bits (fun HT_ HW_ => ?_)
  generalize hwE : W1.drew = wE at *
  refine pure_ (i := 1) (N := some 132) (v := ?_) (a' := ?_) #[false, true, false, false, false, false] rfl rfl (any_of HT_.out (by kernel_rfl)) (fun _ _ _ h => h) (Or.inl ⟨by rfl, ?_⟩) ?_ ?_; rotate_left; focus (intro w'; go_simp; with_reducible rfl)
  rotate_left; focus (simp only [Act.put, List.setIfInBounds_toArray, List.set_cons_zero, List.set_cons_succ, i64_w, i32_w]; rfl)
  refine take_ (i := 0) (N := some 131) (v := ?_) (a' := ?_) #[true, true, false, false, false, false] rfl rfl (take_ofW HT_.out HW_.out (by kernel_rfl)) (fun _ _ _ h => h) (Or.inl ⟨by rfl, ?_⟩) hHeld ?_ ?_; rotate_left; focus (rintro w' ⟨s0, s1⟩; go_simp; with_reducible rfl)
  rotate_left; focus (simp only [Act.put, List.setIfInBounds_toArray, List.set_cons_zero, List.set_cons_succ, i64_w, i32_w]; rfl)
  refine one_ (i := 2) (N := some 133) #[true, true, true, false, false, false] rfl rfl (one_of HT_.out (by kernel_rfl)) (by decide) (fun K hK => ?_)
  refine goes_ Try.func18 (by kernel_rfl) rfl #[.pointer (some ⟨g, 0, none⟩)] (by rfl) rfl rfl (by (try simp only [List.map_toArray, List.map_cons, List.map_nil]); first | done | rfl) ?_
  refine HMK.out.mono ?_
  rintro e w5 ⟨rfl, hh5, hb5, hk5⟩
  refine ⟨_, rfl, ?_⟩
  have HT5 := Aside0.mk hh5
  have HB5 := Aside0.mk hb5
  have HK5 := Aside0.mk hk5
  refine hK.out _ _ ⟨(blk_cell (hk5 _ _ _ (HKE.out _ _ _ HX4.out (by decide)) (by decide)) 0).trans rfl, (blk_cell (hk5 _ _ _ (HKE.out _ _ _ HX4.out (by decide)) (by decide)) 1).trans rfl⟩ (fun hH2 => ?_)
  clear hHeld hK K hh5 hb5 hk5
  refine norm_ (a' := ?_) ?_ ?_
  rotate_left
  · simp only [Act.put, List.setIfInBounds_toArray, List.set_cons_zero, List.set_cons_succ, i64_w, i32_w]
    rfl
  refine pure_ (i := 3) (N := some 134) (v := ?_) (a' := ?_) #[true, true, true, true, false, false] rfl rfl (any_of HT_.out (by kernel_rfl)) (fun _ _ _ h => h) (Or.inl ⟨by rfl, ?_⟩) ?_ ?_; rotate_left; focus (intro w'; go_simp; with_reducible rfl)
  rotate_left; focus (simp only [Act.put, List.setIfInBounds_toArray, List.set_cons_zero, List.set_cons_succ, i64_w, i32_w]; rfl)
  refine last_ (i := 4) (N := none) #[true, true, true, true, true, false] rfl rfl (one_of HT_.out (by kernel_rfl)) (by decide) (fun K hK => ?_)
  have HK6 : Aside0 (Keeps W1 w5) := ⟨HKE.out.trans_ HK5.out⟩
  have s0 : w5.cell? ⟨b2 + 1 + 1, 0, none⟩ = some (.int .i64 0) := (blk_cell (HK6.out _ _ _ HX6.out (by decide)) 0).trans rfl
  have s1 : w5.cell? ⟨b2 + 1 + 1, 1, none⟩ = some (.slice none 0 0) := (blk_cell (HK6.out _ _ _ HX6.out (by decide)) 1).trans rfl
  have z0 := blk_frozen (HK6.out _ _ _ HX6.out (by decide)) 0
  have z1 := blk_frozen (HK6.out _ _ _ HX6.out (by decide)) 1
  refine skip_ (w1 := ?_) (by rfl) rfl ?_ ?_
  rotate_left
  · go_simp
    rfl
  refine hK.out _ _ ?_
  clear hK K s0 s1 z0 z1
  refine pure_ (i := 5) (N := some 7) (v := ?_) (a' := ?_) #[true, true, true, true, true, true] rfl rfl (any_of HT_.out (by kernel_rfl)) (fun _ _ _ h => h) (Or.inl ⟨by rfl, ?_⟩) ?_ ?_; rotate_left; focus (intro w'; go_simp; with_reducible rfl)
  rotate_left; focus (simp only [Act.put, List.setIfInBounds_toArray, List.set_cons_zero, List.set_cons_succ, i64_w, i32_w]; rfl)
  refine done_ (done_of HT_.out (by kernel_rfl)) ?_
  go_wp2_with fail
  clear q0 q1
  have HBB5 : Aside0 (RowKit.Below b0 W w5) := ⟨below_cat HBE.out HB5.out⟩
  have HR5 := Aside0.mk (HRE.out.keep HK5.out)
  have hx := HK6.out _ _ _ HX6.out (by decide)
  have hx2 := blk_set hx 0 (.int .i64 d)
  have hlt := blk_lt HX6.out
  have hbx : b0 ≤ b2 + 1 + 1 := by have := HT.out.lt; have := HKB.out; omega
  have hkk : Keeps W w5 := HK1.out.trans_ HK6.out
  refine bodyPost_ret (v := .tuple #[.agg #[.int .i64 d, .slice A m c], .bool true]) (by have r0 : ((w5.setCell ⟨b2 + 1 + 1, 0, none⟩ (.int .i64 d)).setCell ⟨b2 + 1 + 1, 1, none⟩ (.slice A m c)).cell? ⟨b2 + 1 + 1, 0, none⟩ = some (.int .i64 d) := (blk_cell (box2_set hx) 0).trans rfl; have r1 : ((w5.setCell ⟨b2 + 1 + 1, 0, none⟩ (.int .i64 d)).setCell ⟨b2 + 1 + 1, 1, none⟩ (.slice A m c)).cell? ⟨b2 + 1 + 1, 1, none⟩ = some (.slice A m c) := (blk_cell (box2_set hx) 1).trans rfl; simp [results, Try.results24, go_sem, r0, r1]) rfl ⟨⟨A, m, c, rfl, ?_⟩, ?_, ?_, ?_⟩
  · exact (HR5.out.set hx (by decide) 0 (.int .i64 d)).set hx2 (by decide) 1 (.slice A m c)
  · exact (HT5.out.set hx (by decide) (by decide) (by decide) 0 (.int .i64 d)).set hx2 (by decide) (by decide) (by decide) 1 (.slice A m c)
  · exact RowKit.Below.setCell (p := ⟨b2 + 1 + 1, 1, none⟩) (RowKit.Below.setCell (p := ⟨b2 + 1 + 1, 0, none⟩) HBB5.out hbx _) hbx _
  · exact keeps_set (keeps_set hkk (by have := HKB.out; omega) 0 (.int .i64 d)) (by have := HKB.out; omega) 1 (.slice A m c)
theorem does_all (W0 W : World) (hW : Below W0.heap.size W0 W) (b0 g ma : Nat) (d : Int) (L : List (Int × List Int)) (A : Option Addr) (m c : Nat) (ht : HoldsD W b0 g ma d L) (h0 : W0.heap.size ≤ b0) (hr : RefAt W0 W (.slice A m c) L) (kind id kk lim : Int) (hid : (Lit.int .i64 id).wf = true) (A2 : Option Addr) (c2 : Nat) (v : List Int) (hC : Kd.C (Kd.int .i64) W0 A2 v.length v) (hc2 : v.length ≤ c2) :
    Calls Try.prog 24 #[.pointer (some ⟨g, 0, none⟩), .agg #[.int .i64 d, .slice A m c], .agg #[.int .i64 kind, .int .i64 id, .slice A2 v.length c2, .int .i64 kk, .int .i64 lim]] W (Does W0 W b0 g ma d (stepL d L kind id v)) := by
  unfold stepL
  by_cases h1 : kind = 1
  · subst h1; exact does_1 W0 W hW b0 g ma d L A m c ht h0 hr id kk lim hid A2 c2 v hC hc2
  · rw [if_neg h1]
    by_cases h2 : kind = 2
    · subst h2; exact does_2 W0 W hW b0 g ma d L A m c ht h0 hr id kk lim hid A2 c2 v hC hc2
    · rw [if_neg h2]
      by_cases h3 : kind = 3
      · subst h3; exact does_3 W0 W hW b0 g ma d L A m c ht h0 hr id kk lim hid A2 c2 v hC hc2
      · by_cases h4 : kind = 4
        · subst h4; exact does_4 W0 W hW b0 g ma d L A m c ht h0 hr id kk lim hid A2 c2 v hC hc2
        · exact does_5 W0 W hW b0 g ma d L A m c ht h0 hr kind id kk lim hid A2 c2 v hC hc2 h1 h2 h3 h4
end Go.Proofs.Ytealiaafdkhonaa.Vp
