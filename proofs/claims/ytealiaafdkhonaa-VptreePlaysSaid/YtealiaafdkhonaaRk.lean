/- The reference's Put where it refuses, and where nothing is there; all in one contract; a reference's list beside a tree. -/
import Derived.Test.YtealiaafdkhonaaRq
import Derived.Test.YtealiaafdkhonaaTw
namespace Go.Proofs.Ytealiaafdkhonaa.Vp
open Go.RowKit Go.Sort Mb Base Go.Proofs.YtealiaafdkhonaaW.PrintWords Go.Proofs.YtealiaafdkhonaaW.PrintLast Go.Proofs.YtealiaafdkhonaaW.PrintMore
set_option linter.unusedVariables false
set_option linter.unusedSimpArgs false
structure RefNo (W : World) (d : Int) (val : Value) (err : Int) (e : Ending) (w' : World) : Prop where
  ret : e = .returned (.tuple #[.agg #[.int .i64 d, val], .bool false, .int .i64 err])
  below : Below W.heap.size W w'
set_option maxRecDepth 100000 in
set_option maxHeartbeats 4000000 in
theorem ref_put_bad (W : World) (d : Int) (A : Option Addr) (n c : Nat) (id : Int) (A1 : Option Addr) (c1 : Nat) (v : List Int)
    (hC : Kd.C (Kd.int .i64) W A1 v.length v) (hc1 : v.length ≤ c1) (hck : ckV v d = 50) :
    Calls Try.prog 14 #[.agg #[.int .i64 d, .slice A n c], .agg #[.int .i64 id, .slice A1 v.length c1]] W (RefNo W d (.slice A n c) 50) := by
  have hb1 := below_alloc (below_alloc (below_alloc (Below.refl W.heap.size W) (.cells #[.int .i64 d, .slice A n c] 31)) (.cells #[.int .i64 id, .slice A1 v.length c1] 37)) (.cells #[.int .i64 0, .slice none 0 0] 31)
  obtain ⟨W1, hW1⟩ : ∃ W1, ((W.alloc (.cells #[.int .i64 d, .slice A n c] 31)).alloc (.cells #[.int .i64 id, .slice A1 v.length c1] 37)).alloc (.cells #[.int .i64 0, .slice none 0 0] 31) = W1 := ⟨_, rfl⟩
  obtain ⟨b2, hb2⟩ : ∃ b2, W.heap.size = b2 := ⟨_, rfl⟩
  have hx2 : W1.heap[b2]? = some (.cells #[.int .i64 d, .slice A n c] 31 (0, 0)) := by
    rw [← hW1, ← hb2]
    have h1 := blk_new W (.cells #[.int .i64 d, .slice A n c] 31)
    exact blk_below (blk_below h1 (below_alloc (Below.refl _ _) _)) (below_alloc (Below.refl _ _) _)
  have hx3 : W1.heap[b2 + 1]? = some (.cells #[.int .i64 id, .slice A1 v.length c1] 37 (0, 0)) := by
    rw [← hW1, ← hb2]
    have h1 := blk_new (W.alloc (.cells #[.int .i64 d, .slice A n c] 31)) (.cells #[.int .i64 id, .slice A1 v.length c1] 37)
    rw [World.size_alloc] at h1
    exact blk_below h1 (below_alloc (Below.refl _ _) _)
  have hx4 : W1.heap[b2 + 1 + 1]? = some (.cells #[.int .i64 0, .slice none 0 0] 31 (0, 0)) := by
    rw [← hW1, ← hb2]
    have h1 := blk_new ((W.alloc (.cells #[.int .i64 d, .slice A n c] 31)).alloc (.cells #[.int .i64 id, .slice A1 v.length c1] 37)) (.cells #[.int .i64 0, .slice none 0 0] 31)
    rw [World.size_alloc, World.size_alloc] at h1
    exact h1
  rw [hW1] at hb1
  have HB1 := Aside0.mk hb1
  have HX2 := Aside0.mk hx2
  have HX3 := Aside0.mk hx3
  have HX4 := Aside0.mk hx4
  have HW1 := Aside0.mk hW1
  have HB2 := Aside0.mk hb2
  have HC := Aside0.mk (Kd.C_below hC hb1)
  have HCL : Aside0 (v.length ≤ 9223372036854775807) := ⟨hC.2.1⟩
  obtain ⟨vn, hvn⟩ : ∃ vn, v.length = vn := ⟨_, rfl⟩
  have HVN := Aside0.mk hvn
  have HC1 : Aside0 (v.length ≤ c1) := ⟨hc1⟩
  have HCC : Aside0 (Calls Try.prog 26 #[.slice A1 vn c1, .int .i64 d] W1 fun e w' => e = .returned (.int .i64 (ckV v d)) ∧ Drawn0 W1 w') := ⟨by
    have h1 := PVptreeNear.ploverref05_Check.calls (v.length + 1) A1 c1 v d (ckV v d) W1 HC.out HC1.out (check_f v d HCL.out _ (by omega))
    rw [hvn] at h1
    exact h1⟩
  rw [hvn] at HX3 HW1
  rw [hvn]
  rw [hck] at HCC
  clear hb1 hx2 hx3 hx4 hW1 hb2 hC hvn hck hc1
  have p0 : W1.cell? ⟨b2, 0, none⟩ = some (.int .i64 d) := (blk_cell HX2.out 0).trans rfl
  have p1 : W1.cell? ⟨b2, 1, none⟩ = some (.slice A n c) := (blk_cell HX2.out 1).trans rfl
  have p2 : W1.cell? ⟨b2 + 1, 0, none⟩ = some (.int .i64 id) := (blk_cell HX3.out 0).trans rfl
  have p3 : W1.cell? ⟨b2 + 1, 1, none⟩ = some (.slice A1 vn c1) := (blk_cell HX3.out 1).trans rfl
  have p4 : W1.cell? ⟨b2 + 1 + 1, 0, none⟩ = some (.int .i64 0) := (blk_cell HX4.out 0).trans rfl
  have p5 : W1.cell? ⟨b2 + 1 + 1, 1, none⟩ = some (.slice none 0 0) := (blk_cell HX4.out 1).trans rfl
  have z4 := blk_frozen HX4.out 0
  have z5 := blk_frozen HX4.out 1
  go_enter Try.func14, Try.ntmps14
  go_upto_region 1 with (fail)
  rw [HB2.out, HW1.out]
  go_wp2_with (go_at_call 26; refine HCC.out.mono ?_; rintro e w' ⟨rfl, hd⟩; obtain ⟨m1, rfl⟩ := hd.out; clear hd)
  refine bodyPost_ret (v := .tuple #[.agg #[.int .i64 d, .slice A n c], .bool false, .int .i64 50]) (by simp [results, Try.results14, go_sem, p4, p5]) rfl ⟨rfl, ?_⟩
  rw [HB2.out]
  exact Below.setCell (p := ⟨b2 + 1 + 1, 1, none⟩) (Below.setCell (p := ⟨b2 + 1 + 1, 0, none⟩) (by have h := pw_below_drewN HB1.out m1; rw [HB2.out] at h; exact h) (by show b2 ≤ b2 + 1 + 1; omega) _) (by show b2 ≤ b2 + 1 + 1; omega) _
set_option maxRecDepth 100000 in
set_option maxHeartbeats 4000000 in
theorem ref_put_full (W : World) (d : Int) (b g c : Nat) (Q : List E) (hown : W.ownsRow b 37 2 (.slice (some ⟨g, 0, none⟩) Q.length c) Q.length (rowE Q)) (hv : VecsAt W Q) (hQ : Q.length = 512) (id : Int) (A1 : Option Addr) (c1 : Nat) (v : List Int)
    (hC : Kd.C (Kd.int .i64) W A1 v.length v) (hc1 : v.length ≤ c1) (hck : ckV v d = 0) (hwas : fnd id (Q.map pt) = false) :
    Calls Try.prog 14 #[.agg #[.int .i64 d, .slice (some ⟨g, 0, none⟩) Q.length c], .agg #[.int .i64 id, .slice A1 v.length c1]] W (RefNo W d (.slice (some ⟨g, 0, none⟩) Q.length c) 2) := by
  have hb1 := below_alloc (below_alloc (below_alloc (Below.refl W.heap.size W) (.cells #[.int .i64 d, .slice (some ⟨g, 0, none⟩) Q.length c] 31)) (.cells #[.int .i64 id, .slice A1 v.length c1] 37)) (.cells #[.int .i64 0, .slice none 0 0] 31)
  obtain ⟨W1, hW1⟩ : ∃ W1, ((W.alloc (.cells #[.int .i64 d, .slice (some ⟨g, 0, none⟩) Q.length c] 31)).alloc (.cells #[.int .i64 id, .slice A1 v.length c1] 37)).alloc (.cells #[.int .i64 0, .slice none 0 0] 31) = W1 := ⟨_, rfl⟩
  obtain ⟨b2, hb2⟩ : ∃ b2, W.heap.size = b2 := ⟨_, rfl⟩
  have hx2 : W1.heap[b2]? = some (.cells #[.int .i64 d, .slice (some ⟨g, 0, none⟩) Q.length c] 31 (0, 0)) := by
    rw [← hW1, ← hb2]
    have h1 := blk_new W (.cells #[.int .i64 d, .slice (some ⟨g, 0, none⟩) Q.length c] 31)
    exact blk_below (blk_below h1 (below_alloc (Below.refl _ _) _)) (below_alloc (Below.refl _ _) _)
  have hx3 : W1.heap[b2 + 1]? = some (.cells #[.int .i64 id, .slice A1 v.length c1] 37 (0, 0)) := by
    rw [← hW1, ← hb2]
    have h1 := blk_new (W.alloc (.cells #[.int .i64 d, .slice (some ⟨g, 0, none⟩) Q.length c] 31)) (.cells #[.int .i64 id, .slice A1 v.length c1] 37)
    rw [World.size_alloc] at h1
    exact blk_below h1 (below_alloc (Below.refl _ _) _)
  have hx4 : W1.heap[b2 + 1 + 1]? = some (.cells #[.int .i64 0, .slice none 0 0] 31 (0, 0)) := by
    rw [← hW1, ← hb2]
    have h1 := blk_new ((W.alloc (.cells #[.int .i64 d, .slice (some ⟨g, 0, none⟩) Q.length c] 31)).alloc (.cells #[.int .i64 id, .slice A1 v.length c1] 37)) (.cells #[.int .i64 0, .slice none 0 0] 31)
    rw [World.size_alloc, World.size_alloc] at h1
    exact h1
  rw [hW1] at hb1
  have HB1 := Aside0.mk hb1
  have HX2 := Aside0.mk hx2
  have HX3 := Aside0.mk hx3
  have HX4 := Aside0.mk hx4
  have HW1 := Aside0.mk hW1
  have HB2 := Aside0.mk hb2
  have HC := Aside0.mk (Kd.C_below hC hb1)
  have HCL : Aside0 (v.length ≤ 9223372036854775807) := ⟨hC.2.1⟩
  obtain ⟨vn, hvn⟩ : ∃ vn, v.length = vn := ⟨_, rfl⟩
  have HVN := Aside0.mk hvn
  have HC1 : Aside0 (v.length ≤ c1) := ⟨hc1⟩
  have HCC : Aside0 (Calls Try.prog 26 #[.slice A1 vn c1, .int .i64 d] W1 fun e w' => e = .returned (.int .i64 (ckV v d)) ∧ Drawn0 W1 w') := ⟨by
    have h1 := PVptreeNear.ploverref05_Check.calls (v.length + 1) A1 c1 v d (ckV v d) W1 HC.out HC1.out (check_f v d HCL.out _ (by omega))
    rw [hvn] at h1
    exact h1⟩
  rw [hvn] at HX3 HW1
  rw [hvn]
  rw [hck] at HCC
  have HROW := Aside0.mk (row_C (own_keep hown hb1) (hv.below hb1) (by omega))
  have HPL : Aside0 (PVptreeNear.ploverref08_place.f 600 ((Q.map pt).map s37) id = some ((plc id (Q.map pt) : Int), false)) := ⟨by rw [place_f (Q.map pt) id (by simp; omega) 600 (by simp; omega), hwas]⟩
  obtain ⟨k, hk⟩ : ∃ k, plc id (Q.map pt) = k := ⟨_, rfl⟩
  rw [hk] at HPL
  have HPC : Aside0 (∀ m, Calls Try.prog 27 #[.slice (some ⟨g, 0, none⟩) 512 c, .int .i64 id] (W1.drewN m) fun e w' => e = .returned (.tuple #[.int .i64 k, .bool false]) ∧ Drawn0 (W1.drewN m) w') := ⟨fun m => by
    have h1 := PVptreeNear.ploverref08_place.calls 600 (some ⟨g, 0, none⟩) c ((Q.map pt).map s37) id (k : Int) false (W1.drewN m) (by rw [List.length_map, List.length_map]; exact Kd.C_below HROW.out.1 (pw_below_drewN (Below.refl _ _) m)) (by rw [List.length_map, List.length_map]; exact HROW.out.2) HPL.out
    rw [List.length_map, List.length_map, hQ] at h1
    exact h1⟩
  rw [hQ] at HX2 HW1
  rw [hQ]
  clear hb1 hx2 hx3 hx4 hW1 hb2 hC hvn hck hc1 hown hv hwas hk hQ
  have p0 : W1.cell? ⟨b2, 0, none⟩ = some (.int .i64 d) := (blk_cell HX2.out 0).trans rfl
  have p1 : W1.cell? ⟨b2, 1, none⟩ = some (.slice (some ⟨g, 0, none⟩) 512 c) := (blk_cell HX2.out 1).trans rfl
  have p2 : W1.cell? ⟨b2 + 1, 0, none⟩ = some (.int .i64 id) := (blk_cell HX3.out 0).trans rfl
  have p3 : W1.cell? ⟨b2 + 1, 1, none⟩ = some (.slice A1 vn c1) := (blk_cell HX3.out 1).trans rfl
  have p4 : W1.cell? ⟨b2 + 1 + 1, 0, none⟩ = some (.int .i64 0) := (blk_cell HX4.out 0).trans rfl
  have p5 : W1.cell? ⟨b2 + 1 + 1, 1, none⟩ = some (.slice none 0 0) := (blk_cell HX4.out 1).trans rfl
  have z4 := blk_frozen HX4.out 0
  have z5 := blk_frozen HX4.out 1
  go_enter Try.func14, Try.ntmps14
  go_upto_region 1 with (fail)
  rw [HB2.out, HW1.out]
  go_wp2_with (first | (go_at_call 26; refine HCC.out.mono ?_; rintro e w' ⟨rfl, hd⟩; obtain ⟨m1, rfl⟩ := hd.out; clear hd) | (go_at_call 27; refine (HPC.out _).mono ?_; rintro e w' ⟨rfl, hd⟩; obtain ⟨m2, rfl⟩ := hd.out; clear hd))
  refine bodyPost_ret (v := .tuple #[.agg #[.int .i64 d, .slice (some ⟨g, 0, none⟩) 512 c], .bool false, .int .i64 2]) (by simp [results, Try.results14, go_sem, p4, p5]) rfl ⟨rfl, ?_⟩
  rw [HB2.out]
  exact Below.setCell (p := ⟨b2 + 1 + 1, 1, none⟩) (Below.setCell (p := ⟨b2 + 1 + 1, 0, none⟩) (by have h := pw_below_drewN HB1.out (m1 + m2); rw [HB2.out] at h; exact h) (by show b2 ≤ b2 + 1 + 1; omega) _) (by show b2 ≤ b2 + 1 + 1; omega) _
theorem nil_C (W : World) : Kd.C PVptreeNear.k37 W none 0 ([] : List PVptreeNear.S37) := ⟨rfl, by simp, fun h => by simp at h⟩
set_option maxRecDepth 100000 in
set_option maxHeartbeats 4000000 in
theorem ref_put_nil (W : World) (d : Int) (id : Int) (A1 : Option Addr) (c1 : Nat) (v : List Int)
    (hC : Kd.C (Kd.int .i64) W A1 v.length v) (hc1 : v.length ≤ c1) (hck : ckV v d = 0) :
    Calls Try.prog 14 #[.agg #[.int .i64 d, .slice none 0 0], .agg #[.int .i64 id, .slice A1 v.length c1]] W (RefPut W d [(id, v, .slice A1 v.length c1)] false 0) := by
  have hb1 := below_alloc (below_alloc (below_alloc (Below.refl W.heap.size W) (.cells #[.int .i64 d, .slice none 0 0] 31)) (.cells #[.int .i64 id, .slice A1 v.length c1] 37)) (.cells #[.int .i64 0, .slice none 0 0] 31)
  obtain ⟨W1, hW1⟩ : ∃ W1, ((W.alloc (.cells #[.int .i64 d, .slice none 0 0] 31)).alloc (.cells #[.int .i64 id, .slice A1 v.length c1] 37)).alloc (.cells #[.int .i64 0, .slice none 0 0] 31) = W1 := ⟨_, rfl⟩
  obtain ⟨b2, hb2⟩ : ∃ b2, W.heap.size = b2 := ⟨_, rfl⟩
  have hx2 : W1.heap[b2]? = some (.cells #[.int .i64 d, .slice none 0 0] 31 (0, 0)) := by
    rw [← hW1, ← hb2]
    have h1 := blk_new W (.cells #[.int .i64 d, .slice none 0 0] 31)
    exact blk_below (blk_below h1 (below_alloc (Below.refl _ _) _)) (below_alloc (Below.refl _ _) _)
  have hx3 : W1.heap[b2 + 1]? = some (.cells #[.int .i64 id, .slice A1 v.length c1] 37 (0, 0)) := by
    rw [← hW1, ← hb2]
    have h1 := blk_new (W.alloc (.cells #[.int .i64 d, .slice none 0 0] 31)) (.cells #[.int .i64 id, .slice A1 v.length c1] 37)
    rw [World.size_alloc] at h1
    exact blk_below h1 (below_alloc (Below.refl _ _) _)
  have hx4 : W1.heap[b2 + 1 + 1]? = some (.cells #[.int .i64 0, .slice none 0 0] 31 (0, 0)) := by
    rw [← hW1, ← hb2]
    have h1 := blk_new ((W.alloc (.cells #[.int .i64 d, .slice none 0 0] 31)).alloc (.cells #[.int .i64 id, .slice A1 v.length c1] 37)) (.cells #[.int .i64 0, .slice none 0 0] 31)
    rw [World.size_alloc, World.size_alloc] at h1
    exact h1
  rw [hW1] at hb1
  have HB1 := Aside0.mk hb1
  have HX2 := Aside0.mk hx2
  have HX3 := Aside0.mk hx3
  have HX4 := Aside0.mk hx4
  have HW1 := Aside0.mk hW1
  have HB2 := Aside0.mk hb2
  have HC := Aside0.mk (Kd.C_below hC hb1)
  have HCL : Aside0 (v.length ≤ 9223372036854775807) := ⟨hC.2.1⟩
  obtain ⟨vn, hvn⟩ : ∃ vn, v.length = vn := ⟨_, rfl⟩
  have HVN := Aside0.mk hvn
  have HC1 : Aside0 (v.length ≤ c1) := ⟨hc1⟩
  have HCC : Aside0 (Calls Try.prog 26 #[.slice A1 vn c1, .int .i64 d] W1 fun e w' => e = .returned (.int .i64 (ckV v d)) ∧ Drawn0 W1 w') := ⟨by
    have h1 := PVptreeNear.ploverref05_Check.calls (v.length + 1) A1 c1 v d (ckV v d) W1 HC.out HC1.out (check_f v d HCL.out _ (by omega))
    rw [hvn] at h1
    exact h1⟩
  rw [hvn] at HX3 HW1
  rw [hvn]
  rw [hck] at HCC
  have HPL : Aside0 (PVptreeNear.ploverref08_place.f 600 [] id = some (0, false)) := ⟨place_f [] id (by simp) 600 (by simp)⟩
  have HPC : Aside0 (∀ m, Calls Try.prog 27 #[.slice none 0 0, .int .i64 id] (W1.drewN m) fun e w' => e = .returned (.tuple #[.int .i64 0, .bool false]) ∧ Drawn0 (W1.drewN m) w') := ⟨fun m => PVptreeNear.ploverref08_place.calls 600 none 0 [] id 0 false (W1.drewN m) (nil_C _) (Nat.le_refl _) HPL.out⟩
  clear hb1 hx2 hx3 hx4 hW1 hb2 hC hvn hck hc1
  have p0 : W1.cell? ⟨b2, 0, none⟩ = some (.int .i64 d) := (blk_cell HX2.out 0).trans rfl
  have p1 : W1.cell? ⟨b2, 1, none⟩ = some (.slice none 0 0) := (blk_cell HX2.out 1).trans rfl
  have p2 : W1.cell? ⟨b2 + 1, 0, none⟩ = some (.int .i64 id) := (blk_cell HX3.out 0).trans rfl
  have p3 : W1.cell? ⟨b2 + 1, 1, none⟩ = some (.slice A1 vn c1) := (blk_cell HX3.out 1).trans rfl
  have p4 : W1.cell? ⟨b2 + 1 + 1, 0, none⟩ = some (.int .i64 0) := (blk_cell HX4.out 0).trans rfl
  have p5 : W1.cell? ⟨b2 + 1 + 1, 1, none⟩ = some (.slice none 0 0) := (blk_cell HX4.out 1).trans rfl
  have z4 := blk_frozen HX4.out 0
  have z5 := blk_frozen HX4.out 1
  go_enter Try.func14, Try.ntmps14
  go_upto_region 1 with (fail)
  rw [HB2.out, HW1.out]
  clear p4 p5 z4 z5
  go_upto_region 10 with (first | (go_at_call 26; refine HCC.out.mono ?_; rintro e w' ⟨rfl, hd⟩; obtain ⟨m1, rfl⟩ := hd.out; clear hd) | (go_at_call 27; refine (HPC.out _).mono ?_; rintro e w' ⟨rfl, hd⟩; obtain ⟨m2, rfl⟩ := hd.out; clear hd))
  obtain ⟨W3, hW3⟩ : ∃ W3, W1.drewN (m1 + m2) = W3 := ⟨_, rfl⟩
  have hb3 : RowKit.Below W1.heap.size W1 W3 := by rw [← hW3]; exact pw_below_drewN (Below.refl _ _) _
  have HB3 : Aside0 (RowKit.Below b2 W W3) := ⟨by rw [← HB2.out]; exact below_step HB1.out hb3⟩
  have HX2' := Aside0.mk (blk_below HX2.out hb3)
  have HX3' := Aside0.mk (blk_below HX3.out hb3)
  have HX4' := Aside0.mk (blk_below HX4.out hb3)
  rw [hW3]
  clear p0 p1 p2 p3 HPC HCC hb3 hW3
  have p1 : W3.cell? ⟨b2, 1, none⟩ = some (.slice none 0 0) := (blk_cell HX2'.out 1).trans rfl
  obtain ⟨z, hz⟩ : ∃ z, W3.heap.size = z := ⟨_, rfl⟩
  have HZ := Aside0.mk hz
  have HB0 : Aside0 (RowKit.Below z W3 W3) := ⟨Below.refl _ _⟩
  clear hz
  go_upto_region 12 with (at_builtin; refine wpList_append_src rfl _ _ rfl z (.slice none 0 0) 0 [] rfl (own_nil _ _ _ _) none 0 0 [] (by rfl) (.inl ⟨rfl, rfl, rfl, rfl⟩) (fun u hu => by cases hu) 0 rfl (by omega) (by rw [HZ.out]; exact Nat.le_refl _) ?_; intro A4 c4 w4 hown4 hg4; have HO4 := Aside0.mk hown4; have HB4 : Aside0 (RowKit.Below z W3 w4) := ⟨HB0.out.grown hg4 (by rw [HZ.out]; exact Nat.le_refl _) (fun j hj => by cases hj)⟩; clear hown4 hg4)
  have hb4 : RowKit.Below W3.heap.size W3 w4 := by rw [HZ.out]; exact HB4.out
  have p2 : w4.cell? ⟨b2 + 1, 0, none⟩ = some (.int .i64 id) := (blk_cell (blk_below HX3'.out hb4) 0).trans rfl
  have p3 : w4.cell? ⟨b2 + 1, 1, none⟩ = some (.slice A1 vn c1) := (blk_cell (blk_below HX3'.out hb4) 1).trans rfl
  have HO4b : Aside0 ((w4.alloc (.cells #[.int .i64 id, .slice A1 vn c1] 37)).ownsRow z 37 2 (.slice A4 0 c4) 0 ([] ++ [])) := ⟨HO4.out.alloc _⟩
  have HSN : Aside0 (SrcAt (w4.alloc (.cells #[.int .i64 id, .slice A1 vn c1] 37)) (some ⟨w4.heap.size, 0, none⟩) 1 1 [.int .i64 id, .slice A1 vn c1]) := ⟨.inr ⟨_, rfl, rfl, news_cells w4 id (.slice A1 vn c1)⟩⟩
  have HB4a : Aside0 (RowKit.Below z W3 (w4.alloc (.cells #[.int .i64 id, .slice A1 vn c1] 37))) := ⟨HB4.out.alloc (by rw [← HZ.out]; exact HB4.out.size) _⟩
  have HZ4 : Aside0 (z ≤ (w4.alloc (.cells #[.int .i64 id, .slice A1 vn c1] 37)).heap.size) := ⟨by rw [← HZ.out]; exact HB4a.out.size⟩
  clear hb4
  go_upto_region 13 with (at_builtin; refine wpList_append_src rfl _ _ rfl z (.slice A4 0 c4) 0 ([] ++ []) (by rfl) HO4b.out (some ⟨w4.heap.size, 0, none⟩) 1 1 [.int .i64 id, .slice A1 vn c1] (by rfl) HSN.out (fun u hu => by simp at hu; rcases hu with rfl | rfl <;> rfl) 1 rfl (by omega) HZ4.out ?_; intro A5 c5 w5 hown5 hg5; have HO5 := Aside0.mk hown5; have HB5 : Aside0 (RowKit.Below z W3 w5) := ⟨HB4a.out.grown hg5 HZ4.out (fun j hj => own_base HO4b.out j hj)⟩; clear hown5 hg5)
  have hb5 : RowKit.Below W3.heap.size W3 w5 := by rw [HZ.out]; exact HB5.out
  have HZ5 : Aside0 (z ≤ w5.heap.size) := ⟨by rw [← HZ.out]; exact hb5.size⟩
  clear hb5 p2 p3 p1
  go_upto_region 14 with (at_builtin; refine wpList_append_src rfl _ _ rfl z (.slice A5 1 c5) 1 ([] ++ [] ++ [.int .i64 id, .slice A1 vn c1]) (by rfl) HO5.out none 0 0 [] (by rfl) (.inl ⟨rfl, rfl, rfl, rfl⟩) (fun u hu => by cases hu) 1 rfl (by omega) HZ5.out ?_; intro A6 c6 w6 hown6 hg6; have HO6 := Aside0.mk hown6; have HB6 : Aside0 (RowKit.Below z W3 w6) := ⟨HB5.out.grown hg6 HZ5.out (fun j hj => own_base HO5.out j hj)⟩; clear hown6 hg6; have y0 : w6.cell? ⟨b2, 1, none⟩ = some (.slice none 0 0) := (blk_cell (blk_below HX2'.out (by rw [HZ.out]; exact HB6.out)) 1).trans rfl; have y1 : w6.frozen? ⟨b2, 1, none⟩ = false := blk_frozen (blk_below HX2'.out (by rw [HZ.out]; exact HB6.out)) 1)
  clear y0 y1
  have hb6 : RowKit.Below W3.heap.size W3 w6 := by rw [HZ.out]; exact HB6.out
  obtain ⟨w7, hw7⟩ : ∃ w7, w6.setCell ⟨b2, 1, none⟩ (.slice A6 1 c6) = w7 := ⟨_, rfl⟩
  have HY2 : Aside0 (w7.heap[b2]? = some (.cells #[.int .i64 d, .slice A6 1 c6] 31 (0, 0))) := ⟨by rw [← hw7]; exact (blk_set (blk_below HX2'.out hb6) 1 _).trans rfl⟩
  have HY4 : Aside0 (w7.heap[b2 + 1 + 1]? = some (.cells #[.int .i64 0, .slice none 0 0] 31 (0, 0))) := ⟨by rw [← hw7]; exact blk_far (blk_below HX4'.out hb6) (p := ⟨b2, 1, none⟩) (by show b2 + 1 + 1 ≠ b2; omega) _⟩
  have HZB : Aside0 (b2 + 1 + 1 < z) := ⟨by rw [← HZ.out]; exact blk_lt HX4'.out⟩
  have HO7 : Aside0 (w7.ownsRow z 37 2 (.slice A6 1 c6) 1 ([] ++ [] ++ [.int .i64 id, .slice A1 vn c1] ++ [])) := ⟨by rw [← hw7]; exact own_setCell HO6.out (p := ⟨b2, 1, none⟩) (fun e => by have h9 := own_base HO6.out _ e.symm; dsimp only at h9; have := HZB.out; omega) _⟩
  have HB7 : Aside0 (RowKit.Below b2 W w7) := ⟨by rw [← hw7]; exact Below.setCell (p := ⟨b2, 1, none⟩) (below_cat HB3.out (HB6.out.mono (by have := HZB.out; omega))) (Nat.le_refl _) _⟩
  rw [hw7]
  clear hb6 hw7
  have u0 : w7.cell? ⟨b2, 0, none⟩ = some (.int .i64 d) := (blk_cell HY2.out 0).trans rfl
  have u1 : w7.cell? ⟨b2, 1, none⟩ = some (.slice A6 1 c6) := (blk_cell HY2.out 1).trans rfl
  have u2 : w7.cell? ⟨b2 + 1 + 1, 0, none⟩ = some (.int .i64 0) := (blk_cell HY4.out 0).trans rfl
  have u3 : w7.cell? ⟨b2 + 1 + 1, 1, none⟩ = some (.slice none 0 0) := (blk_cell HY4.out 1).trans rfl
  have u4 := blk_frozen HY4.out 0
  have u5 := blk_frozen HY4.out 1
  go_wp2_with fail
  refine bodyPost_ret (v := .tuple #[.agg #[.int .i64 d, .slice A6 1 c6], .bool false, .int .i64 0]) (by simp [results, Try.results14, go_sem, u2, u3]) rfl ⟨⟨_, rfl, ?_⟩, ?_⟩
  · rw [HB2.out]
    have h1 := own_less HO7.out (base := b2) (by have := HZB.out; omega)
    have hne : ∀ o : Nat, some (⟨b2 + 1 + 1, o, none⟩ : Addr).block ≠ (Value.slice A6 1 c6).ownBlock := fun o e => by have := own_base HO7.out _ e.symm; have := HZB.out; dsimp only at *; omega
    exact own_setCell (own_setCell h1 (hne 0) _) (hne 1) _
  · rw [HB2.out]
    exact Below.setCell (p := ⟨b2 + 1 + 1, 1, none⟩) (Below.setCell (p := ⟨b2 + 1 + 1, 0, none⟩) HB7.out (by show b2 ≤ b2 + 1 + 1; omega) _) (by show b2 ≤ b2 + 1 + 1; omega) _
/-- A reference's list of points, whose vectors lie as they came in (at W0). -/
structure RefAt (W0 W : World) (val : Value) (L : List (Int × List Int)) : Prop where
  ex : ∃ Q : List E, W.ownsRow 0 37 2 val Q.length (rowE Q) ∧ VecsAt W0 Q ∧ Q.map pt = L
theorem RefAt.below {W0 W W' : World} {val : Value} {L : List (Int × List Int)} (h : RefAt W0 W val L) (hb : Below W.heap.size W W') : RefAt W0 W' val L := by
  obtain ⟨Q, h1, h2, h3⟩ := h
  exact ⟨Q, own_keep h1 hb, h2, h3⟩
theorem RefAt.keep {W0 W W' : World} {val : Value} {L : List (Int × List Int)} (h : RefAt W0 W val L) (hk : ∀ (j : Nat) (cur : Array Value) (t : TypeId), W.heap[j]? = some (.cells cur t (0, 0)) → t ≠ 69 → W'.heap[j]? = some (.cells cur t (0, 0))) : RefAt W0 W' val L := by
  obtain ⟨Q, h1, h2, h3⟩ := h
  refine ⟨Q, ⟨h1.1, ?_⟩, h2, h3⟩
  rcases h1.2 with h4 | ⟨g, cap, cur, e1, hB, hg, h5⟩
  · exact .inl h4
  · exact .inr ⟨g, cap, cur, e1, hB, hk g cur 37 hg (by decide), h5⟩
structure RefGot (W0 W : World) (d : Int) (r : Bool × Int × List (Int × List Int)) (e : Ending) (w' : World) : Prop where
  ex : ∃ val, e = .returned (.tuple #[.agg #[.int .i64 d, val], .bool r.1, .int .i64 r.2.1]) ∧ RefAt W0 w' val r.2.2
  below : Below W.heap.size W w'
theorem ref_put (W0 W : World) (hW : Below W0.heap.size W0 W) (d : Int) (L : List (Int × List Int)) (val : Value) (h : RefAt W0 W val L) (hr : Rising L) (hf : L.length ≤ 512) (id : Int) (A1 : Option Addr) (c1 : Nat) (v : List Int)
    (hC : Kd.C (Kd.int .i64) W0 A1 v.length v) (hc1 : v.length ≤ c1) :
    Calls Try.prog 14 #[.agg #[.int .i64 d, val], .agg #[.int .i64 id, .slice A1 v.length c1]] W (RefGot W0 W d (putR d L id v)) := by
  obtain ⟨Q, hown, hv, rfl⟩ := h
  have hvW := hv.below hW
  have hCW := Kd.C_below hC hW
  rw [List.length_map] at hf
  obtain ⟨A, c, rfl⟩ := own_slice hown
  rcases ck_cases v d with ⟨h1, h2, h3⟩ | h3
  · unfold putR
    rw [if_pos h3]
    by_cases hfl : (look (Q.map pt) id).isSome = true ∨ (Q.map pt).length < 512
    · rw [if_pos hfl]
      rcases hown.2 with ⟨e1, e2⟩ | ⟨g, cap, cur, e1, hg⟩
      · injection e1 with e1 e3 e4
        subst e1; subst e4
        have eQ : Q = [] := List.length_eq_zero_iff.1 (by omega)
        subst eQ
        refine (ref_put_nil W d id A1 c1 v hCW hc1 h3).mono fun e w' hh => ?_
        obtain ⟨⟨val', g1, g2⟩, g3⟩ := hh
        exact ⟨⟨val', g1, ⟨_, own_less g2 (Nat.zero_le _), fun q hq => by simp at hq; subst hq; exact ⟨A1, c1, rfl, hc1, hC⟩, rfl⟩⟩, g3⟩
      · injection e1 with e1 _ e4
        subst e1; subst e4
        have hwas := fnd_look id hr
        · refine (ref_put_more W d 0 g c Q hown hvW hf id A1 c1 v hCW hc1 h3 (isV_len h1).2 _ rfl (by rw [hwas] at hfl; rcases hfl with e | e; exact .inl e; exact .inr (by simpa using e))).mono fun e w' hh => ?_
          obtain ⟨⟨val', g1, g2⟩, g3⟩ := hh
          refine ⟨⟨val', by rw [hwas]; exact g1, ⟨_, own_less g2 (Nat.zero_le _), fun q hq => ?_, ?_⟩⟩, g3⟩
          · rcases List.mem_append.1 hq with hq | hq
            · exact hv q (List.mem_of_mem_take hq)
            · rcases List.mem_cons.1 hq with rfl | hq
              · exact ⟨A1, c1, rfl, hc1, hC⟩
              · exact hv q (List.mem_of_mem_drop hq)
          · rw [List.map_append, List.map_cons, List.map_take, List.map_drop, put_plc]
            rfl
    · rw [if_neg hfl]
      have hn : look (Q.map pt) id = none := by
        cases e : look (Q.map pt) id with
        | none => rfl
        | some x => exact absurd (.inl (by rw [e]; rfl)) hfl
      have h512 : Q.length = 512 := by
        have : ¬ (Q.map pt).length < 512 := fun e => hfl (.inr e)
        rw [List.length_map] at this
        omega
      rcases hown.2 with ⟨e1, e2⟩ | ⟨g, cap, cur, e1, hg⟩
      · injection e1 with e1 e3 e4
        omega
      · injection e1 with e1 _ e4
        subst e1; subst e4
        refine (ref_put_full W d 0 g c Q hown hvW h512 id A1 c1 v hCW hc1 h3 (by rw [← fnd_look id hr, hn]; rfl)).mono fun e w' hh => ?_
        exact ⟨⟨_, hh.ret, ⟨Q, own_keep hown hh.below, hv, rfl⟩⟩, hh.below⟩
  · unfold putR
    rw [if_neg (by rw [h3]; decide)]
    refine (ref_put_bad W d A Q.length c id A1 c1 v hCW hc1 h3).mono fun e w' hh => ?_
    exact ⟨⟨_, hh.ret, ⟨Q, own_keep hown hh.below, hv, rfl⟩⟩, hh.below⟩
end Go.Proofs.Ytealiaafdkhonaa.Vp
