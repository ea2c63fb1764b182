/- The reference's Put, walked: it answers as putR says, and its list is that of putL. -/
import Derived.Test.YtealiaafdkhonaaRp
namespace Go.Proofs.Ytealiaafdkhonaa.Vp
open Go.RowKit Go.Sort Mb Base Go.Proofs.YtealiaafdkhonaaW.PrintWords Go.Proofs.YtealiaafdkhonaaW.PrintLast Go.Proofs.YtealiaafdkhonaaW.PrintMore
set_option linter.unusedVariables false
set_option linter.unusedSimpArgs false
theorem run_append_none {P : Program} (W : World) (t ty e : TypeId) (i : TypeInfo) (z : Value) (ht : P.underlying t = some (.slice e)) (hi : P.info? e = some i) (hz : i.zero = some z) (A : Option Addr) (n c : Nat) (hn : n ≤ 9223372036854775807) (hc : n ≤ c) :
    (Builtin.append_ #[t, t] ty #[.slice A n c, .slice none 0 0]).run P W = .ok (.slice A n c) W := by
  have hn' : ¬ 9223372036854775807 < (n : Int) := by omega
  have hc' : ¬ c < n := by omega
  simp [Builtin.append_, run_underlying ht, sizeOf, typeInfo, zeroValue, hi, hz, Builtin.lenOf, hn', hc']
  rw [if_pos hc]
  cases A <;> simp [run_firstCells_none, storeCells, Builtin.firstCells]
/-- A source of points: nothing, or cells. -/
def SrcAt (W : World) (X : Option Addr) (m c : Nat) (news : List Value) : Prop := (X = none ∧ m = 0 ∧ c = 0 ∧ news = []) ∨ ∃ ad, X = some ad ∧ news.length = m * 2 ∧ ∀ j u, news[j]? = some u → W.cell? (ad.add j) = some u
theorem SrcAt.below {W W' : World} {X : Option Addr} {m c : Nat} {news : List Value} (h : SrcAt W X m c news) (hb : Below W.heap.size W W') : SrcAt W' X m c news := by
  rcases h with h | ⟨ad, e, hl, hc⟩
  · exact .inl h
  · exact .inr ⟨ad, e, hl, fun j u hj => pw_cell_below hb (hc j u hj)⟩
theorem grown_self (W : World) (row : Option Nat) : W.grownBy W row := ⟨rfl, rfl, rfl, Nat.le_refl _, fun _ _ _ => rfl⟩
theorem wpList_append_src {ops : Array Oper} {rest : List Oper} {o : Oper} {a : Act} {w : World} {Q : Exit → Act → World → Prop}
    (hgd : o.guard = none) (s x : Operand) (ho : o.op = Op.call { callee := Callee.builtin Builtin.append, args := #[s, x], argTypes := #[22, 22] })
    (base : Nat) (v : Value) (n : Nat) (xs : List Value) (hs : a.eval s = v) (hown : w.ownsRow base 37 2 v n xs)
    (X : Option Addr) (m c : Nat) (news : List Value) (hx : a.eval x = .slice X m c) (hsrc : SrcAt w X m c news) (h1 : ∀ u ∈ news, u.oneCell' = true)
    (N : Nat) (hN : n + m = N) (h63 : N ≤ 1000000) (hbase : base ≤ w.heap.size)
    (hK : ∀ A' c' w', w'.ownsRow base 37 2 (.slice A' N c') N (xs ++ news) → w.grownBy w' v.ownBlock → wpList Try.prog ops Q rest (a.put o.dst (.slice A' N c')) w') : wpList Try.prog ops Q (o :: rest) a w := by
  obtain ⟨i0, hi, hz0, hz1, hz2⟩ := info_parts info37
  rcases hsrc with ⟨rfl, rfl, rfl, rfl⟩ | ⟨ad, rfl, hl, hc⟩
  · subst hN
    obtain ⟨A', c', rfl⟩ := own_slice hown
    refine wpList_plain hgd fun K hK' => ?_
    have hrun := run_append_none (P := Try.prog) w 22 o.type 37 i0 _ Try.underlying22 hi hz0 A' n c' (by omega) (own_le hown)
    unfold Oper.wp
    simp [execOp, ho, resolve, invoke, builtin, hs, hx, hrun, Result.andThen]
    exact hK' _ _ (hK A' c' w (by rw [List.append_nil]; exact hown) (grown_self _ _))
  · exact wpList_append_mine hgd s x 22 ho base 37 i0 _ 2 32 Try.underlying22 hi hz0 hz1 hz2 rfl (by decide) v n xs hs hown ad m c news hx hl hc h1 N hN (by unfold maxLen; omega) (by omega) hbase (fun A' c' w' h1 h2 _ => hK A' c' w' h1 h2)
theorem rowE_app (P Q : List E) : rowE (P ++ Q) = rowE P ++ rowE Q := by unfold rowE; rw [List.flatMap_append]
theorem rowE_length : ∀ Q : List E, (rowE Q).length = Q.length * 2
  | [] => rfl
  | q :: Q => by
    have := rowE_length Q
    show (encE q ++ rowE Q).length = _
    rw [List.length_append, this, List.length_cons]
    show 2 + _ = _
    omega
theorem rowE_cells {Q : List E} (h : ∀ q ∈ Q, ∃ A c m, q.2.2 = .slice A m c) : ∀ u ∈ rowE Q, u.oneCell' = true := by
  intro u hu
  obtain ⟨q, hq, hu⟩ := List.mem_flatMap.1 hu
  obtain ⟨A, c, m, e⟩ := h q hq
  unfold encE at hu
  rcases List.mem_cons.1 hu with rfl | hu
  · rfl
  · rcases List.mem_cons.1 hu with rfl | hu
    · rw [e]; rfl
    · cases hu
theorem own_cell {W : World} {b n g c : Nat} {xs : List Value} (h : W.ownsRow b 37 2 (.slice (some ⟨g, 0, none⟩) n c) n xs) : ∀ j u, xs[j]? = some u → W.cell? ⟨g, j, none⟩ = some u := by
  intro j u hj
  rcases h.2 with ⟨e1, _⟩ | ⟨g', cap, cur, e1, hB, hg, hcap, h63, hsz, htk⟩
  · cases e1
  · injection e1 with e1 _ e3
    injection e1 with e1
    injection e1 with e1 _
    subst e1
    have hl := h.1
    have hjl : j < xs.length := (List.getElem?_eq_some_iff.1 hj).1
    have h2 : cur.toList.take (n * 2) = xs := by simpa using htk
    rw [← h2, List.getElem?_take, if_pos (by omega), Array.getElem?_toList] at hj
    exact (blk_cell hg j).trans hj
theorem add_at (g o j : Nat) : (⟨g, o, none⟩ : Addr).add j = ⟨g, o + j, none⟩ := by unfold Addr.add; split <;> simp_all
theorem src_take {W : World} {b g c : Nat} {Q : List E} (h : W.ownsRow b 37 2 (.slice (some ⟨g, 0, none⟩) Q.length c) Q.length (rowE Q)) (k : Nat) (hk : k ≤ Q.length) (c' : Nat) : SrcAt W (some ⟨g, 0, none⟩) k c' (rowE (Q.take k)) := by
  refine .inr ⟨_, rfl, by rw [rowE_length, List.length_take]; omega, fun j u hj => ?_⟩
  rw [add_at, Nat.zero_add]
  refine own_cell h j u ?_
  rw [← List.take_append_drop k Q, rowE_app, List.getElem?_append_left ((List.getElem?_eq_some_iff.1 hj).1)]
  exact hj
theorem src_drop {W : World} {b g c : Nat} {Q : List E} (h : W.ownsRow b 37 2 (.slice (some ⟨g, 0, none⟩) Q.length c) Q.length (rowE Q)) (r : Nat) (hr : r ≤ Q.length) (c' : Nat) : SrcAt W (some ((⟨g, 0, none⟩ : Addr).add (r * 2))) (Q.length - r) c' (rowE (Q.drop r)) := by
  refine .inr ⟨_, rfl, by rw [rowE_length, List.length_drop], fun j u hj => ?_⟩
  rw [Addr.add_add, add_at, Nat.zero_add]
  refine own_cell h (r * 2 + j) u ?_
  have hl : (rowE (Q.take r)).length = r * 2 := by rw [rowE_length, List.length_take]; omega
  conv => lhs; rw [← List.take_append_drop r Q, rowE_app]
  rw [List.getElem?_append_right (by omega), hl, Nat.add_sub_cancel_left]
  exact hj
theorem src_end {W : World} {Q : List E} {ad : Addr} {r : Nat} (hr : Q.length = r) (c' : Nat) : SrcAt W (some ad) (Q.length - r) c' (rowE (Q.drop r)) := by
  refine .inr ⟨_, rfl, by rw [rowE_length, List.length_drop], fun j u hj => ?_⟩
  rw [List.drop_of_length_le (by omega)] at hj
  simp [rowE] at hj
/-- The points of a reference's list: each reads as it did. -/
def VecsAt (W : World) (Q : List E) : Prop := ∀ q ∈ Q, ∃ A c, q.2.2 = .slice A q.2.1.length c ∧ q.2.1.length ≤ c ∧ Kd.C (Kd.int .i64) W A q.2.1.length q.2.1
theorem VecsAt.below {W W' : World} {Q : List E} (h : VecsAt W Q) (hb : Below W.heap.size W W') : VecsAt W' Q := fun q hq => by
  obtain ⟨A, c, e, h1, h2⟩ := h q hq
  exact ⟨A, c, e, h1, Kd.C_below h2 hb⟩
theorem VecsAt.one {W : World} {Q : List E} (h : VecsAt W Q) : ∀ u ∈ rowE Q, u.oneCell' = true := rowE_cells (fun q hq => by obtain ⟨A, c, e, _⟩ := h q hq; exact ⟨A, c, _, e⟩)
theorem row_C {W : World} {b : Nat} {A : Option Addr} {c : Nat} {Q : List E} (h : W.ownsRow b 37 2 (.slice A Q.length c) Q.length (rowE Q)) (hv : VecsAt W Q) (hQ : Q.length ≤ 1000000) : Kd.C PVptreeNear.k37 W A Q.length ((Q.map pt).map s37) ∧ Q.length ≤ c := by
  refine ⟨⟨by simp, by omega, fun hn => ?_⟩, own_le h⟩
  have hform : ∃ g, A = some ⟨g, 0, none⟩ := by
    rcases h.2 with ⟨e1, e2⟩ | ⟨g, cap, cur, e1, _⟩
    · injection e1 with _ e3 _; omega
    · injection e1 with e1 _ _; exact ⟨g, e1⟩
  obtain ⟨g, rfl⟩ := hform
  refine ⟨_, rfl, fun j p hj => ?_⟩
  rw [List.getElem?_map, List.getElem?_map] at hj
  obtain ⟨x, hx, rfl⟩ := Option.map_eq_some_iff.1 hj
  obtain ⟨q, hq, rfl⟩ := Option.map_eq_some_iff.1 hx
  have hjl := (List.getElem?_eq_some_iff.1 hq).1
  obtain ⟨A1, c1, e6, hroom, hC⟩ := hv q (List.mem_of_getElem? hq)
  refine ⟨_, rfl, PVptreeNear.k37_mk W (s37 (pt q)) (A1 := A1) (c1 := c1) hroom hC, fun i u hu => ?_⟩
  rw [add_at, Nat.zero_add]
  refine own_cell h _ u ?_
  have hd : rowE Q = rowE (Q.take j) ++ (encE q ++ rowE (Q.drop (j + 1))) := by
    conv => lhs; rw [← List.take_append_drop j Q, rowE_app, List.drop_eq_getElem_cons hjl]
    have e7 : Q[j] = q := by rw [List.getElem?_eq_getElem hjl] at hq; exact Option.some.inj hq
    rw [e7]
    rfl
  have hl : (rowE (Q.take j)).length = j * 2 := by rw [rowE_length, List.length_take]; omega
  have hi : i < 2 := by have := (List.getElem?_eq_some_iff.1 hu).1; simpa using this
  show (rowE Q)[j * 2 + i]? = some u
  rw [hd, List.getElem?_append_right (by omega), hl, Nat.add_sub_cancel_left, List.getElem?_append_left (by show i < 2; omega)]
  unfold encE
  rw [e6]
  exact hu
theorem own_keep {W w1 : World} {base n : Nat} {e : TypeId} {size : Nat} {v : Value} {xs : List Value} (h : W.ownsRow base e size v n xs) (hb : Below W.heap.size W w1) : w1.ownsRow base e size v n xs := by
  refine ⟨h.1, ?_⟩
  rcases h.2 with h2 | ⟨g, cap, cur, e1, hB, hg, h3⟩
  · exact .inl h2
  · exact .inr ⟨g, cap, cur, e1, hB, (hb.block g (blk_lt hg)).trans hg, h3⟩
theorem VecsAt.sub {W : World} {Q Q' : List E} (h : VecsAt W Q) (hs : ∀ q ∈ Q', q ∈ Q) : VecsAt W Q' := fun q hq => h q (hs q hq)
structure RefPut (W : World) (d : Int) (Q' : List E) (was : Bool) (err : Int) (e : Ending) (w' : World) : Prop where
  ex : ∃ val, e = .returned (.tuple #[.agg #[.int .i64 d, val], .bool was, .int .i64 err]) ∧ w'.ownsRow W.heap.size 37 2 val Q'.length (rowE Q')
  below : Below W.heap.size W w'
set_option maxRecDepth 100000 in
set_option maxHeartbeats 8000000 in
theorem ref_put_more (W : World) (d : Int) (b g c : Nat) (Q : List E) (hown : W.ownsRow b 37 2 (.slice (some ⟨g, 0, none⟩) Q.length c) Q.length (rowE Q)) (hv : VecsAt W Q) (hQ2 : Q.length ≤ 512) (id : Int) (A1 : Option Addr) (c1 : Nat) (v : List Int)
    (hC : Kd.C (Kd.int .i64) W A1 v.length v) (hc1 : v.length ≤ c1) (hck : ckV v d = 0) (hvl : v.length ≤ 16) (was : Bool) (hwas : fnd id (Q.map pt) = was) (hfull : was = true ∨ Q.length < 512) :
    Calls Try.prog 14 #[.agg #[.int .i64 d, .slice (some ⟨g, 0, none⟩) Q.length c], .agg #[.int .i64 id, .slice A1 v.length c1]] W
      (RefPut W d (Q.take (plc id (Q.map pt)) ++ (id, v, .slice A1 v.length c1) :: Q.drop (if was = true then plc id (Q.map pt) + 1 else plc id (Q.map pt))) was 0) := by
  have hb1 := below_alloc (below_alloc (below_alloc (Below.refl W.heap.size W) (.cells #[.int .i64 d, .slice (some ⟨g, 0, none⟩) Q.length c] 31)) (.cells #[.int .i64 id, .slice A1 v.length c1] 37)) (.cells #[.int .i64 0, .slice none 0 0] 31)
  obtain ⟨W1, hW1⟩ : ∃ W1, ((W.alloc (.cells #[.int .i64 d, .slice (some ⟨g, 0, none⟩) Q.length c] 31)).alloc (.cells #[.int .i64 id, .slice A1 v.length c1] 37)).alloc (.cells #[.int .i64 0, .slice none 0 0] 31) = W1 := ⟨_, rfl⟩
  obtain ⟨b2, hb2⟩ : ∃ b2, W.heap.size = b2 := ⟨_, rfl⟩
  have hx2 : W1.heap[b2]? = some (.cells #[.int .i64 d, .slice (some ⟨g, 0, none⟩) Q.length c] 31 (0, 0)) := by
    rw [← hW1, ← hb2]
    have h1 := blk_new W (.cells #[.int .i64 d, .slice (some ⟨g, 0, none⟩) Q.length c] 31)
    exact blk_below (blk_below h1 (below_alloc (Below.refl _ _) _)) (below_alloc (Below.refl _ _) _)
  have hx3 : W1.heap[b2 + 1]? = some (.cells #[.int .i64 id, .slice A1 v.length c1] 37 (0, 0)) := by
    rw [← hW1, ← hb2]
    have h1 := blk_new (W.alloc (.cells #[.int .i64 d, .slice (some ⟨g, 0, none⟩) Q.length c] 31)) (.cells #[.int .i64 id, .slice A1 v.length c1] 37)
    rw [World.size_alloc] at h1
    exact blk_below h1 (below_alloc (Below.refl _ _) _)
  have hx4 : W1.heap[b2 + 1 + 1]? = some (.cells #[.int .i64 0, .slice none 0 0] 31 (0, 0)) := by
    rw [← hW1, ← hb2]
    have h1 := blk_new ((W.alloc (.cells #[.int .i64 d, .slice (some ⟨g, 0, none⟩) Q.length c] 31)).alloc (.cells #[.int .i64 id, .slice A1 v.length c1] 37)) (.cells #[.int .i64 0, .slice none 0 0] 31)
    rw [World.size_alloc, World.size_alloc] at h1
    exact h1
  rw [hW1] at hb1
  have HB1 := Aside0.mk hb1
  have HX2 := Aside0.mk hx2
  have HX3 := Aside0.mk hx3
  have HX4 := Aside0.mk hx4
  have HW1 := Aside0.mk hW1
  have HB2 := Aside0.mk hb2
  have HOW := Aside0.mk (own_keep hown hb1)
  have HV := Aside0.mk (hv.below hb1)
  have HC := Aside0.mk (Kd.C_below hC hb1)
  have HROW := Aside0.mk (row_C HOW.out HV.out (by omega))
  have hpl : plc id (Q.map pt) ≤ Q.length := by have := plc_le id (Q.map pt); simpa using this
  have HCK : Aside0 (PVptreeNear.ploverref05_Check.f 20 v d = some 0) := ⟨by rw [check_f v d (by omega) 20 (by omega), hck]⟩
  have HPL : Aside0 (PVptreeNear.ploverref08_place.f 600 ((Q.map pt).map s37) id = some ((plc id (Q.map pt) : Int), was)) := ⟨by rw [place_f (Q.map pt) id (by simp; omega) 600 (by simp; omega), hwas]⟩
  have HNC : Aside0 (Q.length ≤ c) := ⟨own_le hown⟩
  have HFN : Aside0 (was = true → plc id (Q.map pt) < Q.length) := ⟨fun h => by
    rw [h] at hwas
    unfold fnd at hwas
    by_cases h1 : plc id (Q.map pt) < Q.length
    · exact h1
    · rw [List.drop_of_length_le (by simp; omega)] at hwas
      cases hwas⟩
  obtain ⟨k, hk⟩ : ∃ k, plc id (Q.map pt) = k := ⟨_, rfl⟩
  rw [hk] at HPL HFN hpl
  rw [hk]
  obtain ⟨n, hn⟩ : ∃ n, Q.length = n := ⟨_, rfl⟩
  have HN := Aside0.mk hn
  obtain ⟨vn, hvn⟩ : ∃ vn, v.length = vn := ⟨_, rfl⟩
  have HVN := Aside0.mk hvn
  have HC1 : Aside0 (v.length ≤ c1) := ⟨hc1⟩
  rw [hn] at HX2 hpl HFN HNC hQ2 hfull HW1
  rw [hn]
  rw [hvn] at HX3 HW1
  rw [hvn]
  clear hb1 hx2 hx3 hx4 hW1 hb2 hown hv hC hwas hk hn hvn hck hc1 hvl
  have p0 : W1.cell? ⟨b2, 0, none⟩ = some (.int .i64 d) := (blk_cell HX2.out 0).trans rfl
  have p1 : W1.cell? ⟨b2, 1, none⟩ = some (.slice (some ⟨g, 0, none⟩) n c) := (blk_cell HX2.out 1).trans rfl
  have p2 : W1.cell? ⟨b2 + 1, 0, none⟩ = some (.int .i64 id) := (blk_cell HX3.out 0).trans rfl
  have p3 : W1.cell? ⟨b2 + 1, 1, none⟩ = some (.slice A1 vn c1) := (blk_cell HX3.out 1).trans rfl
  go_enter Try.func14, Try.ntmps14
  go_upto_region 1 with (fail)
  rw [HB2.out]
  rw [HW1.out]
  have HCC : Aside0 (Calls Try.prog 26 #[.slice A1 vn c1, .int .i64 d] W1 fun e w' => e = .returned (.int .i64 0) ∧ Drawn0 W1 w') := ⟨by
    have h1 := PVptreeNear.ploverref05_Check.calls 20 A1 c1 v d 0 W1 HC.out HC1.out HCK.out
    rw [HVN.out] at h1
    exact h1⟩
  have HPC : Aside0 (∀ m, Calls Try.prog 27 #[.slice (some ⟨g, 0, none⟩) n c, .int .i64 id] (W1.drewN m) fun e w' => e = .returned (.tuple #[.int .i64 k, .bool was]) ∧ Drawn0 (W1.drewN m) w') := ⟨fun m => by
    have h1 := PVptreeNear.ploverref08_place.calls 600 (some ⟨g, 0, none⟩) c ((Q.map pt).map s37) id (k : Int) was (W1.drewN m) (by rw [List.length_map, List.length_map]; exact Kd.C_below HROW.out.1 (pw_below_drewN (Below.refl _ _) m)) (by rw [List.length_map, List.length_map]; exact HROW.out.2) HPL.out
    rw [List.length_map, List.length_map, HN.out] at h1
    exact h1⟩
  go_upto_region 4 with (go_at_call 26; refine HCC.out.mono ?_; rintro e w' ⟨rfl, hd⟩; obtain ⟨m1, rfl⟩ := hd.out; clear hd)
  go_upto_region 5 with (go_at_call 27; refine (HPC.out _).mono ?_; rintro e w' ⟨rfl, hd⟩; obtain ⟨m2, rfl⟩ := hd.out; clear hd)
  obtain ⟨W3, hW3⟩ : ∃ W3, W1.drewN (m1 + m2) = W3 := ⟨_, rfl⟩
  have hb3 : RowKit.Below W1.heap.size W1 W3 := by rw [← hW3]; exact pw_below_drewN (Below.refl _ _) _
  have HB3 : Aside0 (RowKit.Below b2 W W3) := ⟨by rw [← HB2.out]; exact below_step HB1.out hb3⟩
  have HX2' := Aside0.mk (blk_below HX2.out hb3)
  have HX3' := Aside0.mk (blk_below HX3.out hb3)
  have HX4' := Aside0.mk (blk_below HX4.out hb3)
  have HOW3 := Aside0.mk (own_keep HOW.out hb3)
  have HV3 := Aside0.mk (HV.out.below hb3)
  rw [hW3]
  clear p0 p1 p2 p3 HPC HCC hb3 hW3
  have p1 : W3.cell? ⟨b2, 1, none⟩ = some (.slice (some ⟨g, 0, none⟩) n c) := (blk_cell HX2'.out 1).trans rfl
  have hk0 : (0 : Int) ≤ (k : Int) := by omega
  have hkn : (k : Int) ≤ (n : Int) := by omega
  have hkc : (k : Int) ≤ (c : Int) := by have := HNC.out; omega
  have hnc : (n : Int) ≤ (c : Int) := by have := HNC.out; omega
  have hown3 := HOW3.out
  rw [HN.out] at hown3
  have HOWN := Aside0.mk hown3
  clear hown3
  cases was
  · have hfl : ¬ (512 : Int) ≤ (n : Int) := by rcases hfull with h | h; cases h; omega
    by_cases hend : k = c
    · subst hend
      have HSD : Aside0 (SrcAt W3 (some ⟨g, 0, none⟩) (Q.length - k) 0 (rowE (Q.drop k))) := ⟨src_end (by rw [HN.out]; first | omega | (have := HNC.out; omega)) _⟩
      rw [HN.out] at HSD
      go_upto_region 10 with (fail)
      obtain ⟨z, hz⟩ : ∃ z, W3.heap.size = z := ⟨_, rfl⟩
      have HZ := Aside0.mk hz
      have HST : Aside0 (SrcAt W3 (some ⟨g, 0, none⟩) k k (rowE (Q.take k))) := ⟨src_take (c := k) (b := b) (by rw [HN.out]; exact HOWN.out) k (by rw [HN.out]; omega) k⟩
      have HB0 : Aside0 (RowKit.Below z W3 W3) := ⟨Below.refl _ _⟩
      clear hz
      go_upto_region 12 with (at_builtin; refine wpList_append_src rfl _ _ rfl z (.slice none 0 0) 0 [] rfl (own_nil _ _ _ _) (some ⟨g, 0, none⟩) k k (rowE (Q.take k)) (by rfl) HST.out (HV3.out.sub (fun q hq => List.mem_of_mem_take hq)).one k (by omega) (by omega) (by rw [HZ.out]; exact Nat.le_refl _) ?_; intro A4 c4 w4 hown4 hg4; have HO4 := Aside0.mk hown4; have HB4 : Aside0 (RowKit.Below z W3 w4) := ⟨HB0.out.grown hg4 (by rw [HZ.out]; exact Nat.le_refl _) (fun j hj => by cases hj)⟩; clear hown4 hg4)
      have hb4 : RowKit.Below W3.heap.size W3 w4 := by rw [HZ.out]; exact HB4.out
      have p2 : w4.cell? ⟨b2 + 1, 0, none⟩ = some (.int .i64 id) := (blk_cell (blk_below HX3'.out hb4) 0).trans rfl
      have p3 : w4.cell? ⟨b2 + 1, 1, none⟩ = some (.slice A1 vn c1) := (blk_cell (blk_below HX3'.out hb4) 1).trans rfl
      have HO4b : Aside0 ((w4.alloc (.cells #[.int .i64 id, .slice A1 vn c1] 37)).ownsRow z 37 2 (.slice A4 k c4) k ([] ++ rowE (Q.take k))) := ⟨HO4.out.alloc _⟩
      have HSN : Aside0 (SrcAt (w4.alloc (.cells #[.int .i64 id, .slice A1 vn c1] 37)) (some ⟨w4.heap.size, 0, none⟩) 1 1 [.int .i64 id, .slice A1 vn c1]) := ⟨.inr ⟨_, rfl, rfl, news_cells w4 id (.slice A1 vn c1)⟩⟩
      have HB4a : Aside0 (RowKit.Below z W3 (w4.alloc (.cells #[.int .i64 id, .slice A1 vn c1] 37))) := ⟨HB4.out.alloc (by rw [← HZ.out]; exact HB4.out.size) _⟩
      have HZ4 : Aside0 (z ≤ (w4.alloc (.cells #[.int .i64 id, .slice A1 vn c1] 37)).heap.size) := ⟨by rw [← HZ.out]; exact HB4a.out.size⟩
      clear hb4
      go_upto_region 13 with (at_builtin; refine wpList_append_src rfl _ _ rfl z (.slice A4 k c4) k ([] ++ rowE (Q.take k)) (by rfl) HO4b.out (some ⟨w4.heap.size, 0, none⟩) 1 1 [.int .i64 id, .slice A1 vn c1] (by rfl) HSN.out (fun u hu => by simp at hu; rcases hu with rfl | rfl <;> rfl) (k + 1) rfl (by omega) HZ4.out ?_; intro A5 c5 w5 hown5 hg5; have HO5 := Aside0.mk hown5; have HB5 : Aside0 (RowKit.Below z W3 w5) := ⟨HB4a.out.grown hg5 HZ4.out (fun j hj => own_base HO4b.out j hj)⟩; clear hown5 hg5)
      have hb5 : RowKit.Below W3.heap.size W3 w5 := by rw [HZ.out]; exact HB5.out
      have HS5 := Aside0.mk (HSD.out.below hb5)
      have HZ5 : Aside0 (z ≤ w5.heap.size) := ⟨by rw [← HZ.out]; exact hb5.size⟩
      clear hb5 p2 p3 p1
      go_upto_region 14 with (at_builtin; refine wpList_append_src rfl _ _ rfl z (.slice A5 (k + 1) c5) (k + 1) ([] ++ rowE (Q.take k) ++ [.int .i64 id, .slice A1 vn c1]) (by rfl) HO5.out (some ⟨g, 0, none⟩) (n - k) 0 (rowE (Q.drop k)) (by rfl) HS5.out (HV3.out.sub (fun q hq => List.mem_of_mem_drop hq)).one (k + 1 + (n - k)) rfl (by omega) HZ5.out ?_; intro A6 c6 w6 hown6 hg6; have HO6 := Aside0.mk hown6; have HB6 : Aside0 (RowKit.Below z W3 w6) := ⟨HB5.out.grown hg6 HZ5.out (fun j hj => own_base HO5.out j hj)⟩; clear hown6 hg6; have y0 : w6.cell? ⟨b2, 1, none⟩ = some (.slice (some ⟨g, 0, none⟩) n k) := (blk_cell (blk_below HX2'.out (by rw [HZ.out]; exact HB6.out)) 1).trans rfl; have y1 : w6.frozen? ⟨b2, 1, none⟩ = false := blk_frozen (blk_below HX2'.out (by rw [HZ.out]; exact HB6.out)) 1)
      clear y0 y1
      have hb6 : RowKit.Below W3.heap.size W3 w6 := by rw [HZ.out]; exact HB6.out
      obtain ⟨w7, hw7⟩ : ∃ w7, w6.setCell ⟨b2, 1, none⟩ (.slice A6 (k + 1 + (n - k)) c6) = w7 := ⟨_, rfl⟩
      have HY2 : Aside0 (w7.heap[b2]? = some (.cells #[.int .i64 d, .slice A6 (k + 1 + (n - k)) c6] 31 (0, 0))) := ⟨by rw [← hw7]; exact (blk_set (blk_below HX2'.out hb6) 1 _).trans rfl⟩
      have HY4 : Aside0 (w7.heap[b2 + 1 + 1]? = some (.cells #[.int .i64 0, .slice none 0 0] 31 (0, 0))) := ⟨by rw [← hw7]; exact blk_far (blk_below HX4'.out hb6) (p := ⟨b2, 1, none⟩) (by show b2 + 1 + 1 ≠ b2; omega) _⟩
      have HZB : Aside0 (b2 + 1 + 1 < z) := ⟨by rw [← HZ.out]; exact blk_lt HX4'.out⟩
      have HO7 : Aside0 (w7.ownsRow z 37 2 (.slice A6 (k + 1 + (n - k)) c6) (k + 1 + (n - k)) ([] ++ rowE (Q.take k) ++ [.int .i64 id, .slice A1 vn c1] ++ rowE (Q.drop k))) := ⟨by rw [← hw7]; exact own_setCell HO6.out (p := ⟨b2, 1, none⟩) (fun e => by have h9 := own_base HO6.out _ e.symm; dsimp only at h9; have := HZB.out; omega) _⟩
      have HB7 : Aside0 (RowKit.Below b2 W w7) := ⟨by rw [← hw7]; exact Below.setCell (p := ⟨b2, 1, none⟩) (below_cat HB3.out (HB6.out.mono (by have := HZB.out; omega))) (Nat.le_refl _) _⟩
      rw [hw7]
      clear hb6 hw7
      have u0 : w7.cell? ⟨b2, 0, none⟩ = some (.int .i64 d) := (blk_cell HY2.out 0).trans rfl
      have u1 : w7.cell? ⟨b2, 1, none⟩ = some (.slice A6 (k + 1 + (n - k)) c6) := (blk_cell HY2.out 1).trans rfl
      have u2 : w7.cell? ⟨b2 + 1 + 1, 0, none⟩ = some (.int .i64 0) := (blk_cell HY4.out 0).trans rfl
      have u3 : w7.cell? ⟨b2 + 1 + 1, 1, none⟩ = some (.slice none 0 0) := (blk_cell HY4.out 1).trans rfl
      have u4 := blk_frozen HY4.out 0
      have u5 := blk_frozen HY4.out 1
      go_wp2_with fail
      refine bodyPost_ret (v := .tuple #[.agg #[.int .i64 d, .slice A6 (k + 1 + (n - k)) c6], .bool false, .int .i64 0]) (by simp [results, Try.results14, go_sem, u2, u3]) rfl ⟨⟨_, rfl, ?_⟩, ?_⟩
      · rw [HB2.out]
        have hl : (Q.take k ++ (id, v, Value.slice A1 vn c1) :: Q.drop k).length = k + 1 + (n - k) := by rw [List.length_append, List.length_take, List.length_cons, List.length_drop, HN.out]; omega
        have hr : rowE (Q.take k ++ (id, v, Value.slice A1 vn c1) :: Q.drop k) = [] ++ rowE (Q.take k) ++ [.int .i64 id, .slice A1 vn c1] ++ rowE (Q.drop k) := by
          rw [rowE_app, List.nil_append, List.append_assoc]; rfl
        show ((w7.setCell _ _).setCell _ _).ownsRow _ _ _ _ (Q.take k ++ (id, v, Value.slice A1 vn c1) :: Q.drop k).length (rowE (Q.take k ++ (id, v, Value.slice A1 vn c1) :: Q.drop k))
        rw [hl, hr]
        have h1 := own_less HO7.out (base := b2) (by have := HZB.out; omega)
        have hne : ∀ o : Nat, some (⟨b2 + 1 + 1, o, none⟩ : Addr).block ≠ (Value.slice A6 (k + 1 + (n - k)) c6).ownBlock := fun o e => by have := own_base HO7.out _ e.symm; have := HZB.out; dsimp only at *; omega
        exact own_setCell (own_setCell h1 (hne 0) _) (hne 1) _
      · rw [HB2.out]
        exact Below.setCell (p := ⟨b2 + 1 + 1, 1, none⟩) (Below.setCell (p := ⟨b2 + 1 + 1, 0, none⟩) HB7.out (by show b2 ≤ b2 + 1 + 1; omega) _) (by show b2 ≤ b2 + 1 + 1; omega) _
    · have hend' : (k : Int) < (c : Int) := by have := HNC.out; omega
      have HSD : Aside0 (SrcAt W3 (some ⟨g, k * 2, none⟩) (Q.length - k) (c - k) (rowE (Q.drop k))) := ⟨by have h1 := src_drop (c := c) (b := b) (W := W3) (g := g) (Q := Q) (by rw [HN.out]; exact HOWN.out) k (by rw [HN.out]; omega) (c - k); rw [add_at, Nat.zero_add] at h1; exact h1⟩
      rw [HN.out] at HSD
      go_upto_region 10 with (fail)
      obtain ⟨z, hz⟩ : ∃ z, W3.heap.size = z := ⟨_, rfl⟩
      have HZ := Aside0.mk hz
      have HST : Aside0 (SrcAt W3 (some ⟨g, 0, none⟩) k c (rowE (Q.take k))) := ⟨src_take (c := c) (b := b) (by rw [HN.out]; exact HOWN.out) k (by rw [HN.out]; omega) c⟩
      have HB0 : Aside0 (RowKit.Below z W3 W3) := ⟨Below.refl _ _⟩
      clear hz
      go_upto_region 12 with (at_builtin; refine wpList_append_src rfl _ _ rfl z (.slice none 0 0) 0 [] rfl (own_nil _ _ _ _) (some ⟨g, 0, none⟩) k c (rowE (Q.take k)) (by rfl) HST.out (HV3.out.sub (fun q hq => List.mem_of_mem_take hq)).one k (by omega) (by omega) (by rw [HZ.out]; exact Nat.le_refl _) ?_; intro A4 c4 w4 hown4 hg4; have HO4 := Aside0.mk hown4; have HB4 : Aside0 (RowKit.Below z W3 w4) := ⟨HB0.out.grown hg4 (by rw [HZ.out]; exact Nat.le_refl _) (fun j hj => by cases hj)⟩; clear hown4 hg4)
      have hb4 : RowKit.Below W3.heap.size W3 w4 := by rw [HZ.out]; exact HB4.out
      have p2 : w4.cell? ⟨b2 + 1, 0, none⟩ = some (.int .i64 id) := (blk_cell (blk_below HX3'.out hb4) 0).trans rfl
      have p3 : w4.cell? ⟨b2 + 1, 1, none⟩ = some (.slice A1 vn c1) := (blk_cell (blk_below HX3'.out hb4) 1).trans rfl
      have HO4b : Aside0 ((w4.alloc (.cells #[.int .i64 id, .slice A1 vn c1] 37)).ownsRow z 37 2 (.slice A4 k c4) k ([] ++ rowE (Q.take k))) := ⟨HO4.out.alloc _⟩
      have HSN : Aside0 (SrcAt (w4.alloc (.cells #[.int .i64 id, .slice A1 vn c1] 37)) (some ⟨w4.heap.size, 0, none⟩) 1 1 [.int .i64 id, .slice A1 vn c1]) := ⟨.inr ⟨_, rfl, rfl, news_cells w4 id (.slice A1 vn c1)⟩⟩
      have HB4a : Aside0 (RowKit.Below z W3 (w4.alloc (.cells #[.int .i64 id, .slice A1 vn c1] 37))) := ⟨HB4.out.alloc (by rw [← HZ.out]; exact HB4.out.size) _⟩
      have HZ4 : Aside0 (z ≤ (w4.alloc (.cells #[.int .i64 id, .slice A1 vn c1] 37)).heap.size) := ⟨by rw [← HZ.out]; exact HB4a.out.size⟩
      clear hb4
      go_upto_region 13 with (at_builtin; refine wpList_append_src rfl _ _ rfl z (.slice A4 k c4) k ([] ++ rowE (Q.take k)) (by rfl) HO4b.out (some ⟨w4.heap.size, 0, none⟩) 1 1 [.int .i64 id, .slice A1 vn c1] (by rfl) HSN.out (fun u hu => by simp at hu; rcases hu with rfl | rfl <;> rfl) (k + 1) rfl (by omega) HZ4.out ?_; intro A5 c5 w5 hown5 hg5; have HO5 := Aside0.mk hown5; have HB5 : Aside0 (RowKit.Below z W3 w5) := ⟨HB4a.out.grown hg5 HZ4.out (fun j hj => own_base HO4b.out j hj)⟩; clear hown5 hg5)
      have hb5 : RowKit.Below W3.heap.size W3 w5 := by rw [HZ.out]; exact HB5.out
      have HS5 := Aside0.mk (HSD.out.below hb5)
      have HZ5 : Aside0 (z ≤ w5.heap.size) := ⟨by rw [← HZ.out]; exact hb5.size⟩
      clear hb5 p2 p3 p1
      go_upto_region 14 with (at_builtin; refine wpList_append_src rfl _ _ rfl z (.slice A5 (k + 1) c5) (k + 1) ([] ++ rowE (Q.take k) ++ [.int .i64 id, .slice A1 vn c1]) (by rfl) HO5.out (some ⟨g, k * 2, none⟩) (n - k) (c - k) (rowE (Q.drop k)) (by rfl) HS5.out (HV3.out.sub (fun q hq => List.mem_of_mem_drop hq)).one (k + 1 + (n - k)) rfl (by omega) HZ5.out ?_; intro A6 c6 w6 hown6 hg6; have HO6 := Aside0.mk hown6; have HB6 : Aside0 (RowKit.Below z W3 w6) := ⟨HB5.out.grown hg6 HZ5.out (fun j hj => own_base HO5.out j hj)⟩; clear hown6 hg6; have y0 : w6.cell? ⟨b2, 1, none⟩ = some (.slice (some ⟨g, 0, none⟩) n c) := (blk_cell (blk_below HX2'.out (by rw [HZ.out]; exact HB6.out)) 1).trans rfl; have y1 : w6.frozen? ⟨b2, 1, none⟩ = false := blk_frozen (blk_below HX2'.out (by rw [HZ.out]; exact HB6.out)) 1)
      clear y0 y1
      have hb6 : RowKit.Below W3.heap.size W3 w6 := by rw [HZ.out]; exact HB6.out
      obtain ⟨w7, hw7⟩ : ∃ w7, w6.setCell ⟨b2, 1, none⟩ (.slice A6 (k + 1 + (n - k)) c6) = w7 := ⟨_, rfl⟩
      have HY2 : Aside0 (w7.heap[b2]? = some (.cells #[.int .i64 d, .slice A6 (k + 1 + (n - k)) c6] 31 (0, 0))) := ⟨by rw [← hw7]; exact (blk_set (blk_below HX2'.out hb6) 1 _).trans rfl⟩
      have HY4 : Aside0 (w7.heap[b2 + 1 + 1]? = some (.cells #[.int .i64 0, .slice none 0 0] 31 (0, 0))) := ⟨by rw [← hw7]; exact blk_far (blk_below HX4'.out hb6) (p := ⟨b2, 1, none⟩) (by show b2 + 1 + 1 ≠ b2; omega) _⟩
      have HZB : Aside0 (b2 + 1 + 1 < z) := ⟨by rw [← HZ.out]; exact blk_lt HX4'.out⟩
      have HO7 : Aside0 (w7.ownsRow z 37 2 (.slice A6 (k + 1 + (n - k)) c6) (k + 1 + (n - k)) ([] ++ rowE (Q.take k) ++ [.int .i64 id, .slice A1 vn c1] ++ rowE (Q.drop k))) := ⟨by rw [← hw7]; exact own_setCell HO6.out (p := ⟨b2, 1, none⟩) (fun e => by have h9 := own_base HO6.out _ e.symm; dsimp only at h9; have := HZB.out; omega) _⟩
      have HB7 : Aside0 (RowKit.Below b2 W w7) := ⟨by rw [← hw7]; exact Below.setCell (p := ⟨b2, 1, none⟩) (below_cat HB3.out (HB6.out.mono (by have := HZB.out; omega))) (Nat.le_refl _) _⟩
      rw [hw7]
      clear hb6 hw7
      have u0 : w7.cell? ⟨b2, 0, none⟩ = some (.int .i64 d) := (blk_cell HY2.out 0).trans rfl
      have u1 : w7.cell? ⟨b2, 1, none⟩ = some (.slice A6 (k + 1 + (n - k)) c6) := (blk_cell HY2.out 1).trans rfl
      have u2 : w7.cell? ⟨b2 + 1 + 1, 0, none⟩ = some (.int .i64 0) := (blk_cell HY4.out 0).trans rfl
      have u3 : w7.cell? ⟨b2 + 1 + 1, 1, none⟩ = some (.slice none 0 0) := (blk_cell HY4.out 1).trans rfl
      have u4 := blk_frozen HY4.out 0
      have u5 := blk_frozen HY4.out 1
      go_wp2_with fail
      refine bodyPost_ret (v := .tuple #[.agg #[.int .i64 d, .slice A6 (k + 1 + (n - k)) c6], .bool false, .int .i64 0]) (by simp [results, Try.results14, go_sem, u2, u3]) rfl ⟨⟨_, rfl, ?_⟩, ?_⟩
      · rw [HB2.out]
        have hl : (Q.take k ++ (id, v, Value.slice A1 vn c1) :: Q.drop k).length = k + 1 + (n - k) := by rw [List.length_append, List.length_take, List.length_cons, List.length_drop, HN.out]; omega
        have hr : rowE (Q.take k ++ (id, v, Value.slice A1 vn c1) :: Q.drop k) = [] ++ rowE (Q.take k) ++ [.int .i64 id, .slice A1 vn c1] ++ rowE (Q.drop k) := by
          rw [rowE_app, List.nil_append, List.append_assoc]; rfl
        show ((w7.setCell _ _).setCell _ _).ownsRow _ _ _ _ (Q.take k ++ (id, v, Value.slice A1 vn c1) :: Q.drop k).length (rowE (Q.take k ++ (id, v, Value.slice A1 vn c1) :: Q.drop k))
        rw [hl, hr]
        have h1 := own_less HO7.out (base := b2) (by have := HZB.out; omega)
        have hne : ∀ o : Nat, some (⟨b2 + 1 + 1, o, none⟩ : Addr).block ≠ (Value.slice A6 (k + 1 + (n - k)) c6).ownBlock := fun o e => by have := own_base HO7.out _ e.symm; have := HZB.out; dsimp only at *; omega
        exact own_setCell (own_setCell h1 (hne 0) _) (hne 1) _
      · rw [HB2.out]
        exact Below.setCell (p := ⟨b2 + 1 + 1, 1, none⟩) (Below.setCell (p := ⟨b2 + 1 + 1, 0, none⟩) HB7.out (by show b2 ≤ b2 + 1 + 1; omega) _) (by show b2 ≤ b2 + 1 + 1; omega) _
  · have hk1 := HFN.out rfl
    have hk2 : (k : Int) + 1 ≤ (n : Int) := by omega
    have hk3 : (k : Int) < (c : Int) := by omega
    by_cases hend : k + 1 = c
    · subst hend
      have HSD : Aside0 (SrcAt W3 (some ⟨g, 0, none⟩) (Q.length - (k + 1)) 0 (rowE (Q.drop (k + 1)))) := ⟨src_end (by rw [HN.out]; first | omega | (have := HNC.out; omega)) _⟩
      rw [HN.out] at HSD
      go_upto_region 10 with (fail)
      obtain ⟨z, hz⟩ : ∃ z, W3.heap.size = z := ⟨_, rfl⟩
      have HZ := Aside0.mk hz
      have HST : Aside0 (SrcAt W3 (some ⟨g, 0, none⟩) k (k + 1) (rowE (Q.take k))) := ⟨src_take (c := (k + 1)) (b := b) (by rw [HN.out]; exact HOWN.out) k (by rw [HN.out]; omega) (k + 1)⟩
      have HB0 : Aside0 (RowKit.Below z W3 W3) := ⟨Below.refl _ _⟩
      clear hz
      go_upto_region 12 with (at_builtin; refine wpList_append_src rfl _ _ rfl z (.slice none 0 0) 0 [] rfl (own_nil _ _ _ _) (some ⟨g, 0, none⟩) k (k + 1) (rowE (Q.take k)) (by rfl) HST.out (HV3.out.sub (fun q hq => List.mem_of_mem_take hq)).one k (by omega) (by omega) (by rw [HZ.out]; exact Nat.le_refl _) ?_; intro A4 c4 w4 hown4 hg4; have HO4 := Aside0.mk hown4; have HB4 : Aside0 (RowKit.Below z W3 w4) := ⟨HB0.out.grown hg4 (by rw [HZ.out]; exact Nat.le_refl _) (fun j hj => by cases hj)⟩; clear hown4 hg4)
      have hb4 : RowKit.Below W3.heap.size W3 w4 := by rw [HZ.out]; exact HB4.out
      have p2 : w4.cell? ⟨b2 + 1, 0, none⟩ = some (.int .i64 id) := (blk_cell (blk_below HX3'.out hb4) 0).trans rfl
      have p3 : w4.cell? ⟨b2 + 1, 1, none⟩ = some (.slice A1 vn c1) := (blk_cell (blk_below HX3'.out hb4) 1).trans rfl
      have HO4b : Aside0 ((w4.alloc (.cells #[.int .i64 id, .slice A1 vn c1] 37)).ownsRow z 37 2 (.slice A4 k c4) k ([] ++ rowE (Q.take k))) := ⟨HO4.out.alloc _⟩
      have HSN : Aside0 (SrcAt (w4.alloc (.cells #[.int .i64 id, .slice A1 vn c1] 37)) (some ⟨w4.heap.size, 0, none⟩) 1 1 [.int .i64 id, .slice A1 vn c1]) := ⟨.inr ⟨_, rfl, rfl, news_cells w4 id (.slice A1 vn c1)⟩⟩
      have HB4a : Aside0 (RowKit.Below z W3 (w4.alloc (.cells #[.int .i64 id, .slice A1 vn c1] 37))) := ⟨HB4.out.alloc (by rw [← HZ.out]; exact HB4.out.size) _⟩
      have HZ4 : Aside0 (z ≤ (w4.alloc (.cells #[.int .i64 id, .slice A1 vn c1] 37)).heap.size) := ⟨by rw [← HZ.out]; exact HB4a.out.size⟩
      clear hb4
      go_upto_region 13 with (at_builtin; refine wpList_append_src rfl _ _ rfl z (.slice A4 k c4) k ([] ++ rowE (Q.take k)) (by rfl) HO4b.out (some ⟨w4.heap.size, 0, none⟩) 1 1 [.int .i64 id, .slice A1 vn c1] (by rfl) HSN.out (fun u hu => by simp at hu; rcases hu with rfl | rfl <;> rfl) (k + 1) rfl (by omega) HZ4.out ?_; intro A5 c5 w5 hown5 hg5; have HO5 := Aside0.mk hown5; have HB5 : Aside0 (RowKit.Below z W3 w5) := ⟨HB4a.out.grown hg5 HZ4.out (fun j hj => own_base HO4b.out j hj)⟩; clear hown5 hg5)
      have hb5 : RowKit.Below W3.heap.size W3 w5 := by rw [HZ.out]; exact HB5.out
      have HS5 := Aside0.mk (HSD.out.below hb5)
      have HZ5 : Aside0 (z ≤ w5.heap.size) := ⟨by rw [← HZ.out]; exact hb5.size⟩
      clear hb5 p2 p3 p1
      go_upto_region 14 with (at_builtin; refine wpList_append_src rfl _ _ rfl z (.slice A5 (k + 1) c5) (k + 1) ([] ++ rowE (Q.take k) ++ [.int .i64 id, .slice A1 vn c1]) (by rfl) HO5.out (some ⟨g, 0, none⟩) (n - (k + 1)) 0 (rowE (Q.drop (k + 1))) (by rfl) HS5.out (HV3.out.sub (fun q hq => List.mem_of_mem_drop hq)).one (k + 1 + (n - (k + 1))) rfl (by omega) HZ5.out ?_; intro A6 c6 w6 hown6 hg6; have HO6 := Aside0.mk hown6; have HB6 : Aside0 (RowKit.Below z W3 w6) := ⟨HB5.out.grown hg6 HZ5.out (fun j hj => own_base HO5.out j hj)⟩; clear hown6 hg6; have y0 : w6.cell? ⟨b2, 1, none⟩ = some (.slice (some ⟨g, 0, none⟩) n (k + 1)) := (blk_cell (blk_below HX2'.out (by rw [HZ.out]; exact HB6.out)) 1).trans rfl; have y1 : w6.frozen? ⟨b2, 1, none⟩ = false := blk_frozen (blk_below HX2'.out (by rw [HZ.out]; exact HB6.out)) 1)
      clear y0 y1
      have hb6 : RowKit.Below W3.heap.size W3 w6 := by rw [HZ.out]; exact HB6.out
      obtain ⟨w7, hw7⟩ : ∃ w7, w6.setCell ⟨b2, 1, none⟩ (.slice A6 (k + 1 + (n - (k + 1))) c6) = w7 := ⟨_, rfl⟩
      have HY2 : Aside0 (w7.heap[b2]? = some (.cells #[.int .i64 d, .slice A6 (k + 1 + (n - (k + 1))) c6] 31 (0, 0))) := ⟨by rw [← hw7]; exact (blk_set (blk_below HX2'.out hb6) 1 _).trans rfl⟩
      have HY4 : Aside0 (w7.heap[b2 + 1 + 1]? = some (.cells #[.int .i64 0, .slice none 0 0] 31 (0, 0))) := ⟨by rw [← hw7]; exact blk_far (blk_below HX4'.out hb6) (p := ⟨b2, 1, none⟩) (by show b2 + 1 + 1 ≠ b2; omega) _⟩
      have HZB : Aside0 (b2 + 1 + 1 < z) := ⟨by rw [← HZ.out]; exact blk_lt HX4'.out⟩
      have HO7 : Aside0 (w7.ownsRow z 37 2 (.slice A6 (k + 1 + (n - (k + 1))) c6) (k + 1 + (n - (k + 1))) ([] ++ rowE (Q.take k) ++ [.int .i64 id, .slice A1 vn c1] ++ rowE (Q.drop (k + 1)))) := ⟨by rw [← hw7]; exact own_setCell HO6.out (p := ⟨b2, 1, none⟩) (fun e => by have h9 := own_base HO6.out _ e.symm; dsimp only at h9; have := HZB.out; omega) _⟩
      have HB7 : Aside0 (RowKit.Below b2 W w7) := ⟨by rw [← hw7]; exact Below.setCell (p := ⟨b2, 1, none⟩) (below_cat HB3.out (HB6.out.mono (by have := HZB.out; omega))) (Nat.le_refl _) _⟩
      rw [hw7]
      clear hb6 hw7
      have u0 : w7.cell? ⟨b2, 0, none⟩ = some (.int .i64 d) := (blk_cell HY2.out 0).trans rfl
      have u1 : w7.cell? ⟨b2, 1, none⟩ = some (.slice A6 (k + 1 + (n - (k + 1))) c6) := (blk_cell HY2.out 1).trans rfl
      have u2 : w7.cell? ⟨b2 + 1 + 1, 0, none⟩ = some (.int .i64 0) := (blk_cell HY4.out 0).trans rfl
      have u3 : w7.cell? ⟨b2 + 1 + 1, 1, none⟩ = some (.slice none 0 0) := (blk_cell HY4.out 1).trans rfl
      have u4 := blk_frozen HY4.out 0
      have u5 := blk_frozen HY4.out 1
      go_wp2_with fail
      refine bodyPost_ret (v := .tuple #[.agg #[.int .i64 d, .slice A6 (k + 1 + (n - (k + 1))) c6], .bool true, .int .i64 0]) (by simp [results, Try.results14, go_sem, u2, u3]) rfl ⟨⟨_, rfl, ?_⟩, ?_⟩
      · rw [HB2.out]
        have hl : (Q.take k ++ (id, v, Value.slice A1 vn c1) :: Q.drop (k + 1)).length = k + 1 + (n - (k + 1)) := by rw [List.length_append, List.length_take, List.length_cons, List.length_drop, HN.out]; omega
        have hr : rowE (Q.take k ++ (id, v, Value.slice A1 vn c1) :: Q.drop (k + 1)) = [] ++ rowE (Q.take k) ++ [.int .i64 id, .slice A1 vn c1] ++ rowE (Q.drop (k + 1)) := by
          rw [rowE_app, List.nil_append, List.append_assoc]; rfl
        show ((w7.setCell _ _).setCell _ _).ownsRow _ _ _ _ (Q.take k ++ (id, v, Value.slice A1 vn c1) :: Q.drop (k + 1)).length (rowE (Q.take k ++ (id, v, Value.slice A1 vn c1) :: Q.drop (k + 1)))
        rw [hl, hr]
        have h1 := own_less HO7.out (base := b2) (by have := HZB.out; omega)
        have hne : ∀ o : Nat, some (⟨b2 + 1 + 1, o, none⟩ : Addr).block ≠ (Value.slice A6 (k + 1 + (n - (k + 1))) c6).ownBlock := fun o e => by have := own_base HO7.out _ e.symm; have := HZB.out; dsimp only at *; omega
        exact own_setCell (own_setCell h1 (hne 0) _) (hne 1) _
      · rw [HB2.out]
        exact Below.setCell (p := ⟨b2 + 1 + 1, 1, none⟩) (Below.setCell (p := ⟨b2 + 1 + 1, 0, none⟩) HB7.out (by show b2 ≤ b2 + 1 + 1; omega) _) (by show b2 ≤ b2 + 1 + 1; omega) _
    · have hend' : (k : Int) + 1 < (c : Int) := by have := HNC.out; omega
      have HSD : Aside0 (SrcAt W3 (some ⟨g, (k + 1) * 2, none⟩) (Q.length - (k + 1)) (c - (k + 1)) (rowE (Q.drop (k + 1)))) := ⟨by have h1 := src_drop (c := c) (b := b) (W := W3) (g := g) (Q := Q) (by rw [HN.out]; exact HOWN.out) (k + 1) (by rw [HN.out]; omega) (c - (k + 1)); rw [add_at, Nat.zero_add] at h1; exact h1⟩
      rw [HN.out] at HSD
      go_upto_region 10 with (fail)
      obtain ⟨z, hz⟩ : ∃ z, W3.heap.size = z := ⟨_, rfl⟩
      have HZ := Aside0.mk hz
      have HST : Aside0 (SrcAt W3 (some ⟨g, 0, none⟩) k c (rowE (Q.take k))) := ⟨src_take (c := c) (b := b) (by rw [HN.out]; exact HOWN.out) k (by rw [HN.out]; omega) c⟩
      have HB0 : Aside0 (RowKit.Below z W3 W3) := ⟨Below.refl _ _⟩
      clear hz
      go_upto_region 12 with (at_builtin; refine wpList_append_src rfl _ _ rfl z (.slice none 0 0) 0 [] rfl (own_nil _ _ _ _) (some ⟨g, 0, none⟩) k c (rowE (Q.take k)) (by rfl) HST.out (HV3.out.sub (fun q hq => List.mem_of_mem_take hq)).one k (by omega) (by omega) (by rw [HZ.out]; exact Nat.le_refl _) ?_; intro A4 c4 w4 hown4 hg4; have HO4 := Aside0.mk hown4; have HB4 : Aside0 (RowKit.Below z W3 w4) := ⟨HB0.out.grown hg4 (by rw [HZ.out]; exact Nat.le_refl _) (fun j hj => by cases hj)⟩; clear hown4 hg4)
      have hb4 : RowKit.Below W3.heap.size W3 w4 := by rw [HZ.out]; exact HB4.out
      have p2 : w4.cell? ⟨b2 + 1, 0, none⟩ = some (.int .i64 id) := (blk_cell (blk_below HX3'.out hb4) 0).trans rfl
      have p3 : w4.cell? ⟨b2 + 1, 1, none⟩ = some (.slice A1 vn c1) := (blk_cell (blk_below HX3'.out hb4) 1).trans rfl
      have HO4b : Aside0 ((w4.alloc (.cells #[.int .i64 id, .slice A1 vn c1] 37)).ownsRow z 37 2 (.slice A4 k c4) k ([] ++ rowE (Q.take k))) := ⟨HO4.out.alloc _⟩
      have HSN : Aside0 (SrcAt (w4.alloc (.cells #[.int .i64 id, .slice A1 vn c1] 37)) (some ⟨w4.heap.size, 0, none⟩) 1 1 [.int .i64 id, .slice A1 vn c1]) := ⟨.inr ⟨_, rfl, rfl, news_cells w4 id (.slice A1 vn c1)⟩⟩
      have HB4a : Aside0 (RowKit.Below z W3 (w4.alloc (.cells #[.int .i64 id, .slice A1 vn c1] 37))) := ⟨HB4.out.alloc (by rw [← HZ.out]; exact HB4.out.size) _⟩
      have HZ4 : Aside0 (z ≤ (w4.alloc (.cells #[.int .i64 id, .slice A1 vn c1] 37)).heap.size) := ⟨by rw [← HZ.out]; exact HB4a.out.size⟩
      clear hb4
      go_upto_region 13 with (at_builtin; refine wpList_append_src rfl _ _ rfl z (.slice A4 k c4) k ([] ++ rowE (Q.take k)) (by rfl) HO4b.out (some ⟨w4.heap.size, 0, none⟩) 1 1 [.int .i64 id, .slice A1 vn c1] (by rfl) HSN.out (fun u hu => by simp at hu; rcases hu with rfl | rfl <;> rfl) (k + 1) rfl (by omega) HZ4.out ?_; intro A5 c5 w5 hown5 hg5; have HO5 := Aside0.mk hown5; have HB5 : Aside0 (RowKit.Below z W3 w5) := ⟨HB4a.out.grown hg5 HZ4.out (fun j hj => own_base HO4b.out j hj)⟩; clear hown5 hg5)
      have hb5 : RowKit.Below W3.heap.size W3 w5 := by rw [HZ.out]; exact HB5.out
      have HS5 := Aside0.mk (HSD.out.below hb5)
      have HZ5 : Aside0 (z ≤ w5.heap.size) := ⟨by rw [← HZ.out]; exact hb5.size⟩
      clear hb5 p2 p3 p1
      go_upto_region 14 with (at_builtin; refine wpList_append_src rfl _ _ rfl z (.slice A5 (k + 1) c5) (k + 1) ([] ++ rowE (Q.take k) ++ [.int .i64 id, .slice A1 vn c1]) (by rfl) HO5.out (some ⟨g, (k + 1) * 2, none⟩) (n - (k + 1)) (c - (k + 1)) (rowE (Q.drop (k + 1))) (by rfl) HS5.out (HV3.out.sub (fun q hq => List.mem_of_mem_drop hq)).one (k + 1 + (n - (k + 1))) rfl (by omega) HZ5.out ?_; intro A6 c6 w6 hown6 hg6; have HO6 := Aside0.mk hown6; have HB6 : Aside0 (RowKit.Below z W3 w6) := ⟨HB5.out.grown hg6 HZ5.out (fun j hj => own_base HO5.out j hj)⟩; clear hown6 hg6; have y0 : w6.cell? ⟨b2, 1, none⟩ = some (.slice (some ⟨g, 0, none⟩) n c) := (blk_cell (blk_below HX2'.out (by rw [HZ.out]; exact HB6.out)) 1).trans rfl; have y1 : w6.frozen? ⟨b2, 1, none⟩ = false := blk_frozen (blk_below HX2'.out (by rw [HZ.out]; exact HB6.out)) 1)
      clear y0 y1
      have hb6 : RowKit.Below W3.heap.size W3 w6 := by rw [HZ.out]; exact HB6.out
      obtain ⟨w7, hw7⟩ : ∃ w7, w6.setCell ⟨b2, 1, none⟩ (.slice A6 (k + 1 + (n - (k + 1))) c6) = w7 := ⟨_, rfl⟩
      have HY2 : Aside0 (w7.heap[b2]? = some (.cells #[.int .i64 d, .slice A6 (k + 1 + (n - (k + 1))) c6] 31 (0, 0))) := ⟨by rw [← hw7]; exact (blk_set (blk_below HX2'.out hb6) 1 _).trans rfl⟩
      have HY4 : Aside0 (w7.heap[b2 + 1 + 1]? = some (.cells #[.int .i64 0, .slice none 0 0] 31 (0, 0))) := ⟨by rw [← hw7]; exact blk_far (blk_below HX4'.out hb6) (p := ⟨b2, 1, none⟩) (by show b2 + 1 + 1 ≠ b2; omega) _⟩
      have HZB : Aside0 (b2 + 1 + 1 < z) := ⟨by rw [← HZ.out]; exact blk_lt HX4'.out⟩
      have HO7 : Aside0 (w7.ownsRow z 37 2 (.slice A6 (k + 1 + (n - (k + 1))) c6) (k + 1 + (n - (k + 1))) ([] ++ rowE (Q.take k) ++ [.int .i64 id, .slice A1 vn c1] ++ rowE (Q.drop (k + 1)))) := ⟨by rw [← hw7]; exact own_setCell HO6.out (p := ⟨b2, 1, none⟩) (fun e => by have h9 := own_base HO6.out _ e.symm; dsimp only at h9; have := HZB.out; omega) _⟩
      have HB7 : Aside0 (RowKit.Below b2 W w7) := ⟨by rw [← hw7]; exact Below.setCell (p := ⟨b2, 1, none⟩) (below_cat HB3.out (HB6.out.mono (by have := HZB.out; omega))) (Nat.le_refl _) _⟩
      rw [hw7]
      clear hb6 hw7
      have u0 : w7.cell? ⟨b2, 0, none⟩ = some (.int .i64 d) := (blk_cell HY2.out 0).trans rfl
      have u1 : w7.cell? ⟨b2, 1, none⟩ = some (.slice A6 (k + 1 + (n - (k + 1))) c6) := (blk_cell HY2.out 1).trans rfl
      have u2 : w7.cell? ⟨b2 + 1 + 1, 0, none⟩ = some (.int .i64 0) := (blk_cell HY4.out 0).trans rfl
      have u3 : w7.cell? ⟨b2 + 1 + 1, 1, none⟩ = some (.slice none 0 0) := (blk_cell HY4.out 1).trans rfl
      have u4 := blk_frozen HY4.out 0
      have u5 := blk_frozen HY4.out 1
      go_wp2_with fail
      refine bodyPost_ret (v := .tuple #[.agg #[.int .i64 d, .slice A6 (k + 1 + (n - (k + 1))) c6], .bool true, .int .i64 0]) (by simp [results, Try.results14, go_sem, u2, u3]) rfl ⟨⟨_, rfl, ?_⟩, ?_⟩
      · rw [HB2.out]
        have hl : (Q.take k ++ (id, v, Value.slice A1 vn c1) :: Q.drop (k + 1)).length = k + 1 + (n - (k + 1)) := by rw [List.length_append, List.length_take, List.length_cons, List.length_drop, HN.out]; omega
        have hr : rowE (Q.take k ++ (id, v, Value.slice A1 vn c1) :: Q.drop (k + 1)) = [] ++ rowE (Q.take k) ++ [.int .i64 id, .slice A1 vn c1] ++ rowE (Q.drop (k + 1)) := by
          rw [rowE_app, List.nil_append, List.append_assoc]; rfl
        show ((w7.setCell _ _).setCell _ _).ownsRow _ _ _ _ (Q.take k ++ (id, v, Value.slice A1 vn c1) :: Q.drop (k + 1)).length (rowE (Q.take k ++ (id, v, Value.slice A1 vn c1) :: Q.drop (k + 1)))
        rw [hl, hr]
        have h1 := own_less HO7.out (base := b2) (by have := HZB.out; omega)
        have hne : ∀ o : Nat, some (⟨b2 + 1 + 1, o, none⟩ : Addr).block ≠ (Value.slice A6 (k + 1 + (n - (k + 1))) c6).ownBlock := fun o e => by have := own_base HO7.out _ e.symm; have := HZB.out; dsimp only at *; omega
        exact own_setCell (own_setCell h1 (hne 0) _) (hne 1) _
      · rw [HB2.out]
        exact Below.setCell (p := ⟨b2 + 1 + 1, 1, none⟩) (Below.setCell (p := ⟨b2 + 1 + 1, 0, none⟩) HB7.out (by show b2 ≤ b2 + 1 + 1; omega) _) (by show b2 ≤ b2 + 1 + 1; omega) _
end Go.Proofs.Ytealiaafdkhonaa.Vp
