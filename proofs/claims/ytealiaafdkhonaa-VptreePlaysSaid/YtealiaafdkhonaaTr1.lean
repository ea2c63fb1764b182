/- Several texts in one: Tr, Tp. -/
import Derived.Test.YtealiaafdkhonaaMm
import Derived.Test.YtealiaafdkhonaaMb
import Derived.Test.YtealiaafdkhonaaBase
import Derived.WalkSpells
namespace Go.Proofs.Ytealiaafdkhonaa.Vp
open Go.RowKit Go.Sort Mb Base Go.Proofs.YtealiaafdkhonaaW.PrintWords Go.Proofs.YtealiaafdkhonaaW.PrintLast Go.Proofs.YtealiaafdkhonaaW.PrintMore
set_option linter.unusedVariables false
set_option linter.unusedSimpArgs false

theorem law : Maps.Keyed Try.prog 3 := Maps.int_keyed Try.underlying3
theorem zero3 (w : World) : (zeroValue 3).run Try.prog w = .ok (.int .i64 0) w := by kernel_rfl
theorem zero4 (w : World) : (zeroValue 4).run Try.prog w = .ok (.bool false) w := by kernel_rfl
theorem zero23 (w : World) : (zeroValue 23).run Try.prog w = .ok (.slice none 0 0) w := by kernel_rfl

/-- Rows of numbers and nodes are never written over. -/
def Hard (W : World) (j : Nat) : Prop := ∃ cur t, W.heap[j]? = some (.cells cur t (0, 0)) ∧ (t = 3 ∨ t = 104)
theorem Hard.lt {W : World} {j : Nat} (h : Hard W j) : j < W.heap.size := by obtain ⟨_, _, h, _⟩ := h; exact blk_lt h
/-- All that is hard below b is as it was. -/
def Kp (b : Nat) (W W' : World) : Prop := ∀ j, j < b → Hard W j → W'.heap[j]? = W.heap[j]?
theorem Kp.turns {F : Nat → Prop} {b : Nat} {W W' : World} (h : Turns F W W') (hF : ∀ j, j < b → F j → ¬ Hard W j) : Kp b W W' := fun j hj hh => h.block j hh.lt (fun e => hF j hj e hh)
theorem Kp.below {b : Nat} {W W' : World} (h : Below b W W') : Kp b W W' := fun j hj _ => h.block j hj
theorem Kp.hard {b : Nat} {W W' : World} (h : Kp b W W') {j : Nat} (hj : j < b) (hh : Hard W j) : Hard W' j := by
  obtain ⟨cur, t, e, ht⟩ := hh
  exact ⟨cur, t, (h j hj ⟨cur, t, e, ht⟩).trans e, ht⟩

/-- A vector that lies in a row of its own. -/
def VecAt (W : World) (b : Nat) (val : Value) (v : List Int) : Prop :=
  ∃ j c cur, val = .slice (some ⟨j, 0, none⟩) v.length c ∧ j < b ∧ W.heap[j]? = some (.cells cur 3 (0, 0)) ∧ cur.toList.take v.length = nums .i64 v ∧ v.length ≤ c
theorem VecAt.keep {W W' : World} {b : Nat} {val : Value} {v : List Int} (h : VecAt W b val v) (hk : Kp b W W') : VecAt W' b val v := by
  obtain ⟨j, c, cur, e, hj, hg, ht⟩ := h
  exact ⟨j, c, cur, e, hj, (hk j hj ⟨cur, 3, hg, .inl rfl⟩).trans hg, ht⟩
theorem VecAt.more {W : World} {b b' : Nat} {val : Value} {v : List Int} (h : VecAt W b val v) (hb : b ≤ b') : VecAt W b' val v := by
  obtain ⟨j, c, cur, e, hj, hg, ht⟩ := h
  exact ⟨j, c, cur, e, by omega, hg, ht⟩
theorem VecAt.form {W : World} {b : Nat} {val : Value} {v : List Int} (h : VecAt W b val v) (hl : v.length ≤ 9223372036854775807) : ∃ A c, val = .slice A v.length c ∧ Kd.C (Kd.int .i64) W A v.length v ∧ ∀ ad, A = some ad → ad.block < b := by
  obtain ⟨j, c, cur, e, hj, hg, ht, _⟩ := h
  refine ⟨_, c, e, ⟨rfl, hl, fun hn => ⟨_, rfl, fun i x hx => ⟨[.int .i64 x], rfl, rfl, fun z u hu => ?_⟩⟩⟩, fun ad hA => by cases hA; exact hj⟩
  have hz : z = 0 := by have := (List.getElem?_eq_some_iff.1 hu).1; simp at this; omega
  subst hz
  have hu' : Value.int .i64 x = u := by simpa using hu
  subst hu'
  have hi := (List.getElem?_eq_some_iff.1 hx).1
  have h1 : (nums .i64 v)[i]? = some (.int .i64 x) := by rw [nums, List.getElem?_map, hx]; rfl
  rw [← ht, List.getElem?_take, if_pos hi, Array.getElem?_toList] at h1
  show W.cell? ((⟨j, 0, none⟩ : Addr).add (i * 1 + 0)) = _
  rw [show (⟨j, 0, none⟩ : Addr).add (i * 1 + 0) = ⟨j, i, none⟩ by unfold Addr.add; split <;> simp_all]
  exact (blk_cell hg i).trans h1
theorem VecAt.room {W : World} {b : Nat} {A : Option Addr} {n c : Nat} {v : List Int} (h : VecAt W b (.slice A n c) v) : v.length ≤ c := by
  obtain ⟨j, c', cur, e, hj, hg, ht, hc⟩ := h
  injection e with _ _ e
  rw [e]; exact hc
theorem C_block {W W' : World} {A : Option Addr} {n : Nat} {xs : List Int} (h : Kd.C (Kd.int .i64) W A n xs) (hb : ∀ ad, A = some ad → W'.heap[ad.block]? = W.heap[ad.block]?) : Kd.C (Kd.int .i64) W' A n xs := by
  refine ⟨h.1, h.2.1, fun hn => ?_⟩
  obtain ⟨ad, e, hc⟩ := h.2.2 hn
  refine ⟨ad, e, fun j p hj => ?_⟩
  obtain ⟨c, hl, hr, hx⟩ := hc j p hj
  refine ⟨c, hl, hr, fun i u hu => ?_⟩
  have := hx i u hu
  rw [← this]
  exact World.cell?_of_block (by rw [show (ad.add (j * (Kd.int .i64).sz + i)).block = ad.block by unfold Addr.add; split <;> rfl]; exact hb ad e)
theorem vec_of_own {W : World} {B : Nat} {A : Option Addr} {c : Nat} {v : List Int} (h : W.ownsRow B 3 1 (.slice A v.length c) v.length (nums .i64 v)) (hn : 1 ≤ v.length) : VecAt W W.heap.size (.slice A v.length c) v := by
  rcases h.2 with ⟨e1, e2⟩ | ⟨g, cap, cur, e1, hB, hg, hcap, h63, hsz, htk⟩
  · omega
  · injection e1 with e1 _ e3
    subst e1; subst e3
    exact ⟨g, c, cur, rfl, blk_lt hg, hg, by simpa using htk, hcap⟩

/-- A tree of points: each with those within its radius, and those beyond. -/
inductive VT where
  | nil : VT
  | node (id : Int) (v : List Int) (r : Int) (i o : VT) : VT
def NodeAt (W : World) (b : Nat) : VT → Value → Prop
  | .nil, p => p = .pointer none
  | .node id v r i o, p => ∃ g val pi po, p = .pointer (some ⟨g, 0, none⟩) ∧ g < b ∧ W.heap[g]? = some (.cells #[.int .i64 id, val, .int .i64 r, pi, po] 104 (0, 0)) ∧ VecAt W b val v ∧ NodeAt W b i pi ∧ NodeAt W b o po ∧ (pi = po → i = .nil ∧ o = .nil)
theorem NodeAt.keep {W W' : World} {b : Nat} (hk : Kp b W W') : ∀ {T : VT} {p : Value}, NodeAt W b T p → NodeAt W' b T p
  | .nil, _, h => h
  | .node id v r i o, _, h => by
    obtain ⟨g, val, pi, po, e, hg, hb, hv, hi, ho, hne⟩ := h
    exact ⟨g, val, pi, po, e, hg, (hk g hg ⟨_, 104, hb, .inr rfl⟩).trans hb, hv.keep hk, NodeAt.keep hk hi, NodeAt.keep hk ho, hne⟩
theorem NodeAt.more {W : World} {b b' : Nat} (hb : b ≤ b') : ∀ {T : VT} {p : Value}, NodeAt W b T p → NodeAt W b' T p
  | .nil, _, h => h
  | .node id v r i o, _, h => by
    obtain ⟨g, val, pi, po, e, hg, hc, hv, hi, ho, hne⟩ := h
    exact ⟨g, val, pi, po, e, by omega, hc, hv.more hb, NodeAt.more hb hi, NodeAt.more hb ho, hne⟩

/-- What a tree holds: its points by rising numbers, the numbers whose points stand in its nodes as they are, its nodes. -/
structure TS where
  dim : Int
  L : List (Int × List Int)
  inn : Int → Bool
  T : VT
def look (L : List (Int × List Int)) (x : Int) : Option (List Int) := (L.find? fun p => p.1 == x).map (·.2)
def inV (inn : Int → Bool) (x : Int) : Option Value := if inn x = true then some (.bool true) else none

/-- A tree in memory: its box g, its maps ma and mi. -/
structure TreeAt (W : World) (g ma mi : Nat) (s : TS) : Prop where
  ex : ∃ root f ni, W.heap[g]? = some (.cells #[.int .i64 s.dim, root, .map (some ma), .map (some mi)] 69 (0, 0)) ∧ IMap Try.prog 3 W ma f s.L.length ∧ IMap Try.prog 3 W mi (inV s.inn) ni ∧ ni ≤ 512 ∧
    NodeAt W W.heap.size s.T root ∧ (∀ x, (f x).isSome = (look s.L x).isSome) ∧ ∀ x val, f x = some val → ∃ v, look s.L x = some v ∧ VecAt W W.heap.size val v
  ne1 : g ≠ ma
  ne2 : g ≠ mi
  ne3 : ma ≠ mi
theorem TreeAt.lt {W : World} {g ma mi : Nat} {s : TS} (h : TreeAt W g ma mi s) : g < W.heap.size ∧ ma < W.heap.size ∧ mi < W.heap.size := by
  obtain ⟨⟨root, f, ni, h1, h2, h3, _⟩, _⟩ := h
  exact ⟨blk_lt h1, h2.lt, h3.lt⟩
theorem imap_obj {W : World} {b n : Nat} {f : Int → Option Value} (h : IMap Try.prog 3 W b f n) : ∃ es clock, W.heap[b]? = some (.map es clock) := by
  obtain ⟨D, ⟨es, clock, hb, _⟩, _⟩ := h
  exact ⟨es, clock, hb⟩
theorem imap_soft {W : World} {b n : Nat} {f : Int → Option Value} (h : IMap Try.prog 3 W b f n) : ¬ Hard W b := by
  obtain ⟨es, clock, hb⟩ := imap_obj h
  rintro ⟨cur, t, e, _⟩
  rw [hb] at e; cases e
theorem blk_soft {W : World} {g : Nat} {cs : Array Value} {t : TypeId} (h : W.heap[g]? = some (.cells cs t (0, 0))) (h1 : t ≠ 3) (h2 : t ≠ 104) : ¬ Hard W g := by
  rintro ⟨cur, t', e, ht⟩
  rw [h] at e
  injection e with e
  injection e with _ e
  rcases ht with ht | ht
  · exact h1 (e.trans ht)
  · exact h2 (e.trans ht)
theorem TreeAt.soft {W : World} {g ma mi : Nat} {s : TS} (h : TreeAt W g ma mi s) : ∀ j, j = g ∨ j = ma ∨ j = mi → ¬ Hard W j := by
  obtain ⟨⟨root, f, ni, h1, h2, h3, _⟩, _⟩ := h
  rintro j (rfl | rfl | rfl)
  · exact blk_soft h1 (by decide) (by decide)
  · exact imap_soft h2
  · exact imap_soft h3
/-- A tree stays one where its box, its maps and all that is hard stay. -/
theorem TreeAt.move {W W' : World} {g ma mi : Nat} {s : TS} (h : TreeAt W g ma mi s) (hs : W.heap.size ≤ W'.heap.size) (hk : Kp W.heap.size W W') (h1 : W'.heap[g]? = W.heap[g]?) (h2 : W'.heap[ma]? = W.heap[ma]?) (h3 : W'.heap[mi]? = W.heap[mi]?) : TreeAt W' g ma mi s := by
  obtain ⟨⟨root, f, ni, e1, e2, e3, e4, e5, e6, e7⟩, n1, n2, n3⟩ := h
  exact ⟨⟨root, f, ni, h1.trans e1, e2.move h2, e3.move h3, e4, (e5.keep hk).more hs, e6, fun x val hx => by obtain ⟨v, hv, ha⟩ := e7 x val hx; exact ⟨v, hv, (ha.keep hk).more hs⟩⟩, n1, n2, n3⟩
theorem TreeAt.turns {F : Nat → Prop} {W W' : World} {g ma mi : Nat} {s : TS} (h : TreeAt W g ma mi s) (ht : Turns F W W') (hF : ∀ j, F j → ¬ Hard W j) (h1 : ¬ F g) (h2 : ¬ F ma) (h3 : ¬ F mi) : TreeAt W' g ma mi s :=
  h.move ht.size (Kp.turns ht (fun j _ hj => hF j hj)) (ht.block g h.lt.1 h1) (ht.block ma h.lt.2.1 h2) (ht.block mi h.lt.2.2 h3)
theorem TreeAt.below {W W' : World} {g ma mi : Nat} {s : TS} (h : TreeAt W g ma mi s) (hb : Below W.heap.size W W') : TreeAt W' g ma mi s :=
  h.move hb.size (Kp.below hb) (hb.block g h.lt.1) (hb.block ma h.lt.2.1) (hb.block mi h.lt.2.2)
theorem TreeAt.drew {W : World} {g ma mi : Nat} {s : TS} (h : TreeAt W g ma mi s) : TreeAt W.drew g ma mi s := h.below (below_drew1 (Below.refl _ _))

/-- What lets a tree be asked: its box, its nodes, its numbers. -/
theorem given_calls (g : Nat) (dim : Int) (hd : 0 < dim) (W : World) (h : W.cell? ⟨g, 0, none⟩ = some (.int .i64 dim)) : Calls Try.prog 28 #[.pointer (some ⟨g, 0, none⟩)] W fun e w' => e = .returned (.bool true) ∧ W = w' := by
  have e1 : ∀ w, (binOp .neq 25 (.pointer (some ⟨g, 0, none⟩)) (.pointer none)).run Try.prog w = .ok (.bool true) w := fun w => by kernel_rfl
  go_enter Try.func28, Try.ntmps28
  go_wp2
  go_ret
  exact ⟨rfl, rfl⟩
theorem given_nil (W : World) : Calls Try.prog 28 #[.pointer none] W fun e w' => e = .returned (.bool false) ∧ W = w' := by
  have e1 : ∀ w, (binOp .neq 25 (.pointer none) (.pointer none)).run Try.prog w = .ok (.bool false) w := fun w => by kernel_rfl
  go_enter Try.func28, Try.ntmps28
  go_wp2
  go_ret
  exact ⟨rfl, rfl⟩
theorem given_zero (g : Nat) (W : World) (h : W.cell? ⟨g, 0, none⟩ = some (.int .i64 0)) : Calls Try.prog 28 #[.pointer (some ⟨g, 0, none⟩)] W fun e w' => e = .returned (.bool false) ∧ W = w' := by
  have e1 : ∀ w, (binOp .neq 25 (.pointer (some ⟨g, 0, none⟩)) (.pointer none)).run Try.prog w = .ok (.bool true) w := fun w => by kernel_rfl
  go_enter Try.func28, Try.ntmps28
  go_wp2
  go_ret
  exact ⟨rfl, rfl⟩
/-- Whether a tree was made: a pointer that nobody made, or a box of nothing. -/
def Unmade (W : World) (p : Value) : Prop := p = .pointer none ∨ ∃ g, p = .pointer (some ⟨g, 0, none⟩) ∧ W.cell? ⟨g, 0, none⟩ = some (.int .i64 0)
theorem given_no (p : Value) (W : World) (h : Unmade W p) : Calls Try.prog 28 #[p] W fun e w' => e = .returned (.bool false) ∧ W = w' := by
  rcases h with rfl | ⟨g, rfl, hc⟩
  · exact given_nil W
  · exact given_zero g W hc

structure NewTree (w : World) (dim : Int) (e : Ending) (w' : World) : Prop where
  ex : ∃ g ma mi, e = .returned (.tuple #[.pointer (some ⟨g, 0, none⟩), .int .i64 0]) ∧ TreeAt w' g ma mi ⟨dim, [], fun _ => false, .nil⟩ ∧ w.heap.size ≤ g ∧ w.heap.size ≤ ma ∧ w.heap.size ≤ mi
  below : Below w.heap.size w w'
theorem new_calls (dim : Int) (h1 : 1 ≤ dim) (h2 : dim ≤ 16) (w : World) : Calls Try.prog 11 #[.int .i64 dim] w (NewTree w dim) := by
  have hmm := @run_makeMap Try.prog
  have g1 : ¬ dim < 1 := by omega
  have g2 : ¬ 16 < dim := by omega
  go_enter Try.func11, Try.ntmps11
  go_wp2
  go_ret2
  refine ⟨⟨w.heap.size + 1 + 1, w.heap.size, w.heap.size + 1, rfl, ⟨⟨.pointer none, fun _ => none, 0, ?_, ?_, ?_, by omega, rfl, fun x => rfl, fun x val hx => by cases hx⟩, by omega, by omega, by omega⟩, by omega, by omega, by omega⟩, ?_⟩
  · have := blk_new ((w.alloc (Obj.map #[] 0)).alloc (Obj.map #[] 0)) (.cells #[.int .i64 dim, .pointer none, .map (some w.heap.size), .map (some (w.heap.size + 1))] 69)
    simpa using this
  · exact (((IMap.made w).alloc _).alloc _).congr (fun x _ => rfl)
  · have := (IMap.made (P := Try.prog) (k := 3) (w.alloc (Obj.map #[] 0))).alloc (.cells #[.int .i64 dim, .pointer none, .map (some w.heap.size), .map (some (w.heap.size + 1))] 69)
    have h2 := this.congr (g := inV fun _ => false) (fun x _ => rfl)
    simpa using h2
  · exact below_alloc (below_alloc (below_alloc (Below.refl _ _) _) _) _
end Go.Proofs.Ytealiaafdkhonaa.Vp

namespace Go.Proofs.Ytealiaafdkhonaa.Vp
open Go.RowKit Go.Sort Mb Base Go.Proofs.YtealiaafdkhonaaW.PrintWords Go.Proofs.YtealiaafdkhonaaW.PrintLast Go.Proofs.YtealiaafdkhonaaW.PrintMore
set_option linter.unusedVariables false
set_option linter.unusedSimpArgs false
noncomputable def pu6.T : Bool × List (List Nat × List Nat) := rtab .any (opsOf Try.f15 6)
def pu6.B : List Nat := [0, 1, 3, 7, 0, 16, 63, 127, 255, 255, 511, 2047]
theorem pu6.tab : rtab .any (opsOf Try.f15 6) = pu6.T := rfl
theorem pu6.bits : waitsOk pu6.T.2 pu6.B = true := by kernel_rfl
noncomputable def pu9.T : Bool × List (List Nat × List Nat) := rtab .any (opsOf Try.f15 9)
def pu9.B : List Nat := [0, 1, 3, 7, 0, 16, 0, 64, 192, 511]
theorem pu9.tab : rtab .any (opsOf Try.f15 9) = pu9.T := rfl
theorem pu9.bits : waitsOk pu9.T.2 pu9.B = true := by kernel_rfl
noncomputable def pu10.T : Bool × List (List Nat × List Nat) := rtab .any (opsOf Try.f15 10)
def pu10.B : List Nat := [0, 1, 3, 7, 0, 16, 63]
theorem pu10.tab : rtab .any (opsOf Try.f15 10) = pu10.T := rfl
theorem pu10.bits : waitsOk pu10.T.2 pu10.B = true := by kernel_rfl
theorem turned_block {W w' : World} {b : Nat} (h : W.mapTurned w' b) : Turns (fun j => j = b) W w' := (Turns.of_grown h.grown).wide (fun j hj => by injection hj with hj; exact hj.symm)
theorem step_drop_imap {P : Program} {k e t : TypeId} {W : World} {b n : Nat} {f : Int → Option Value} {ops : Array Oper} {o : Oper} {a : Act} {Q : Exit → Act → World → Prop} {K' : Act → World → Prop} {E : Prop}
    (hg : o.guard = none) (m x : Operand) (hop : o.op = Op.call { callee := Callee.builtin Builtin.delete, args := #[m, x], argTypes := #[t, k] }) (K : Maps.Keyed P k) (hk : P.underlying k = some (.int .i64)) (ht : P.underlying t = some (.map k e))
    (hm : a.eval m = .map (some b)) (h : IMap P k W b f n) (key : Int) (hx : a.eval x = .int .i64 key) (hw : (Lit.int .i64 key).wf = true)
    (hd : o.dst = none) (hK : ∀ w', IMap P k w' b (upd f key none) (if (f key).isSome then n - 1 else n) → W.mapTurned w' b → K' a w') : if Region.wanted o (yielded ops a.tmps) = true then Oper.wp P o a W K' Q else E := by
  have hwt : Region.wanted o (yielded ops a.tmps) = true := by simp [Region.wanted, hg]
  rw [if_pos hwt]
  obtain ⟨w', hrun, r1, r2⟩ := h.drop K hk ht key hw o.type
  unfold Oper.wp
  simp [execOp, hop, resolve, invoke, builtin, hm, hx, hrun, Result.andThen]
  show K' (a.put o.dst (.tuple #[])) w'
  rw [hd]
  exact hK w' r1 r2
theorem step_store_imap0 {P : Program} {k e t : TypeId} {W : World} {b n : Nat} {f : Int → Option Value} {ops : Array Oper} {o : Oper} {a : Act} {Q : Exit → Act → World → Prop} {K' : Act → World → Prop} {E : Prop}
    (hg : o.guard = none) (m x v : Operand) (hop : o.op = Op.mapUpdate t m x v) (K : Maps.Keyed P k) (hk : P.underlying k = some (.int .i64)) (ht : P.underlying t = some (.map k e))
    (hm : a.eval m = .map (some b)) (h : IMap P k W b f n) (hn : n < maxLen) (key : Int) (hx : a.eval x = .int .i64 key) (hw : (Lit.int .i64 key).wf = true) (val : Value) (hv : a.eval v = val) (hd : o.dst = none)
    (hK : ∀ w', IMap P k w' b (upd f key (some val)) (if (f key).isSome then n else n + 1) → W.mapTurned w' b → K' a w') : if Region.wanted o (yielded ops a.tmps) = true then Oper.wp P o a W K' Q else E := by
  refine step_store_imap hg m x v hop K hk ht hm h hn key hx hw val hv ?_
  rw [hd]
  exact hK

/-- Points by rising numbers. -/
def Rising (L : List (Int × List Int)) : Prop := L.Pairwise (fun p q => p.1 < q.1)
def putL (x : Int) (v : List Int) : List (Int × List Int) → List (Int × List Int)
  | [] => [(x, v)]
  | p :: L => if p.1 < x then p :: putL x v L else if p.1 = x then (x, v) :: L else (x, v) :: p :: L
theorem look_nil (y : Int) : look [] y = none := rfl
theorem look_cons (p : Int × List Int) (L : List (Int × List Int)) (y : Int) : look (p :: L) y = if p.1 = y then some p.2 else look L y := by
  unfold look
  rw [List.find?_cons]
  by_cases h : p.1 = y
  · simp [h]
  · have : (p.1 == y) = false := by simpa using h
    simp [this, h]
theorem look_put (x : Int) (v : List Int) (y : Int) : ∀ L, look (putL x v L) y = if y = x then some v else look L y
  | [] => by
    rw [putL, look_cons]
    by_cases h : y = x
    · simp [h]
    · simp [h, Ne.symm h]
  | p :: L => by
    unfold putL
    by_cases h1 : p.1 < x
    · rw [if_pos h1, look_cons, look_put x v y L, look_cons]
      by_cases h2 : y = x
      · rw [if_neg (by omega), if_pos h2, if_pos h2]
      · simp [h2]
    · rw [if_neg h1]
      by_cases h3 : p.1 = x
      · rw [if_pos h3, look_cons, look_cons]
        by_cases h2 : y = x
        · simp [h2]
        · rw [if_neg (fun e => h2 e.symm), if_neg h2, if_neg (by omega)]
      · rw [if_neg h3, look_cons]
        by_cases h2 : y = x
        · simp [h2]
        · rw [if_neg (fun e => h2 e.symm), if_neg h2]
theorem look_lt {x : Int} : ∀ {L : List (Int × List Int)}, (∀ p ∈ L, x < p.1) → look L x = none
  | [], _ => rfl
  | p :: L, h => by
    have h1 := h p (by simp)
    rw [look_cons, if_neg (by omega), look_lt (fun q hq => h q (by simp [hq]))]
theorem put_len (x : Int) (v : List Int) : ∀ L, Rising L → (putL x v L).length = if (look L x).isSome then L.length else L.length + 1
  | [], _ => by simp [putL, look_nil]
  | p :: L, hr => by
    have hr' := List.pairwise_cons.1 hr
    unfold putL
    by_cases h1 : p.1 < x
    · have e : ¬ p.1 = x := by omega
      rw [if_pos h1, List.length_cons, put_len x v L hr'.2, look_cons, if_neg e, List.length_cons]
      split <;> rfl
    · rw [if_neg h1]
      by_cases h3 : p.1 = x
      · rw [if_pos h3, look_cons, if_pos h3]; rfl
      · rw [if_neg h3, look_cons, if_neg h3, look_lt (fun q hq => by have := hr'.1 q hq; omega)]; rfl
theorem put_mem {x : Int} {v : List Int} {q : Int × List Int} : ∀ {L : List (Int × List Int)}, q ∈ putL x v L → q = (x, v) ∨ q ∈ L
  | [], h => by simp [putL] at h; exact .inl h
  | p :: L, h => by
    unfold putL at h
    split at h
    · rcases List.mem_cons.1 h with h | h
      · exact .inr (by simp [h])
      · rcases put_mem h with h | h
        · exact .inl h
        · exact .inr (by simp [h])
    · split at h
      · rcases List.mem_cons.1 h with h | h
        · exact .inl h
        · exact .inr (by simp [h])
      · rcases List.mem_cons.1 h with h | h
        · exact .inl h
        · exact .inr h
theorem put_rising {x : Int} {v : List Int} : ∀ {L : List (Int × List Int)}, Rising L → Rising (putL x v L)
  | [], _ => by simp [putL, Rising]
  | p :: L, h => by
    have h' := List.pairwise_cons.1 h
    unfold putL
    split
    · rename_i h1
      refine List.pairwise_cons.2 ⟨fun q hq => ?_, put_rising h'.2⟩
      rcases put_mem hq with rfl | hq
      · exact h1
      · exact h'.1 q hq
    · split
      · rename_i h1 h2
        exact List.pairwise_cons.2 ⟨fun q hq => by rw [← h2]; exact h'.1 q hq, h'.2⟩
      · rename_i h1 h2
        refine List.pairwise_cons.2 ⟨fun q hq => ?_, h⟩
        rcases List.mem_cons.1 hq with rfl | hq
        · show x < q.1; omega
        · have := h'.1 q hq; show x < q.1; omega
def outI (inn : Int → Bool) (x : Int) : Int → Bool := fun y => if y = x then false else inn y

theorem tree_stored {w9 wS : World} {g ma mi : Nat} {s : TS} {root : Value} {f : Int → Option Value} {ni : Nat} (h : TreeAt w9 g ma mi s)
    (q1 : w9.heap[g]? = some (.cells #[.int .i64 s.dim, root, .map (some ma), .map (some mi)] 69 (0, 0))) (q2 : IMap Try.prog 3 w9 ma f s.L.length) (q3 : IMap Try.prog 3 w9 mi (inV s.inn) ni) (q4 : ni ≤ 512) (q5 : NodeAt w9 w9.heap.size s.T root) (q6 : ∀ x, (f x).isSome = (look s.L x).isSome)
    (q7 : ∀ x val, f x = some val → ∃ v, look s.L x = some v ∧ VecAt w9 w9.heap.size val v) (hr : Rising s.L) (id : Int) (v : List Int) (val : Value) (hv : VecAt w9 w9.heap.size val v) (ht : Turns (fun j => j = ma) w9 wS) (hm : IMap Try.prog 3 wS ma (upd f id (some val)) (if (f id).isSome then s.L.length else s.L.length + 1)) :
    TreeAt wS g ma mi ⟨s.dim, putL id v s.L, s.inn, s.T⟩ := by
  obtain ⟨_, n1, n2, n3⟩ := h
  have hk : Kp w9.heap.size w9 wS := Kp.turns ht (fun j _ hj => by subst hj; exact imap_soft q2)
  refine ⟨⟨root, upd f id (some val), ni, ht.keep q1 n1, ?_, q3.move (ht.block mi q3.lt (Ne.symm n3)), q4, (q5.keep hk).more ht.size, fun x => ?_, fun x val' hx => ?_⟩, n1, n2, n3⟩
  · have := put_len id v s.L hr
    rw [← q6 id] at this
    show IMap Try.prog 3 wS ma _ (putL id v s.L).length
    rw [this]
    exact hm
  · show (upd f id (some val) x).isSome = (look (putL id v s.L) x).isSome
    rw [look_put]
    unfold upd
    split
    · rfl
    · exact q6 x
  · show ∃ v', look (putL id v s.L) x = some v' ∧ _
    rw [look_put]
    unfold upd at hx
    split at hx
    · rename_i e
      rw [if_pos e]
      cases hx
      exact ⟨v, rfl, (hv.keep hk).more ht.size⟩
    · rename_i e
      rw [if_neg e]
      obtain ⟨v', h1, h2⟩ := q7 x val' hx
      exact ⟨v', h1, (h2.keep hk).more ht.size⟩
theorem tree_outed {w9 wS : World} {g ma mi : Nat} {s : TS} {root : Value} {f : Int → Option Value} {ni : Nat} (h : TreeAt w9 g ma mi s)
    (q1 : w9.heap[g]? = some (.cells #[.int .i64 s.dim, root, .map (some ma), .map (some mi)] 69 (0, 0))) (q2 : IMap Try.prog 3 w9 ma f s.L.length) (q3 : IMap Try.prog 3 w9 mi (inV s.inn) ni) (q4 : ni ≤ 512) (q5 : NodeAt w9 w9.heap.size s.T root) (q6 : ∀ x, (f x).isSome = (look s.L x).isSome)
    (q7 : ∀ x val, f x = some val → ∃ v, look s.L x = some v ∧ VecAt w9 w9.heap.size val v) (id : Int) (ht : Turns (fun j => j = mi) w9 wS) (hm : IMap Try.prog 3 wS mi (upd (inV s.inn) id none) (if (inV s.inn id).isSome then ni - 1 else ni)) :
    TreeAt wS g ma mi ⟨s.dim, s.L, outI s.inn id, s.T⟩ := by
  obtain ⟨_, n1, n2, n3⟩ := h
  have hk : Kp w9.heap.size w9 wS := Kp.turns ht (fun j _ hj => by subst hj; exact imap_soft q3)
  refine ⟨⟨root, f, _, ht.keep q1 n2, q2.move (ht.block ma q2.lt n3), hm.congr (fun x _ => ?_), by split <;> omega, (q5.keep hk).more ht.size, q6, fun x val' hx => ?_⟩, n1, n2, n3⟩
  · show inV (outI s.inn id) x = upd (inV s.inn) id none x
    unfold inV outI upd
    by_cases e : x = id <;> simp [e]
  · obtain ⟨v', h1, h2⟩ := q7 x val' hx
    exact ⟨v', h1, (h2.keep hk).more ht.size⟩

structure Cloned (W : World) (v : List Int) (e : Ending) (w' : World) : Prop where
  ex : ∃ val, e = .returned val ∧ VecAt w' w'.heap.size val v
  below : Below W.heap.size W w'
theorem info3 : (Try.prog.info? 3).map (fun i => (i.zero, i.size, i.bytes)) = some (some (.int .i64 0), 1, 8) := by kernel_rfl
theorem clone_calls (A : Option Addr) (c : Nat) (v : List Int) (W : World) (hr : Kd.C (Kd.int .i64) W A v.length v) (h1 : 1 ≤ v.length) (h2 : v.length ≤ 1000000) :
    Calls Try.prog 30 #[.slice A v.length c] W (Cloned W v) := by
  obtain ⟨ad, rfl, _⟩ := hr.2.2 (by omega)
  have hcell := C_from hr 0
  obtain ⟨i0, hi, hz0, hz1, hz2⟩ := info_parts info3
  have HI := Aside0.mk hi
  have HZ0 := Aside0.mk hz0
  have HZ1 := Aside0.mk hz1
  have HZ2 := Aside0.mk hz2
  have HC : Aside0 (∀ j u, (nums .i64 v)[j]? = some u → (W.alloc (.cells #[] 3)).cell? (ad.add j) = some u) := ⟨fun j u hu => by
    have h3 := hcell j u (by simpa using hu)
    have h4 : (ad.add 0).add j = ad.add j := by rw [Addr.add_add]; simp
    rw [h4] at h3
    exact pw_cell_below (below_alloc (Below.refl _ _) _) h3⟩
  have HO : Aside0 ((W.alloc (.cells #[] 3)).ownsRow W.heap.size 3 1 (.slice (some ⟨W.heap.size, 0, none⟩) 0 0) 0 []) := ⟨⟨rfl, .inr ⟨W.heap.size, 0, #[], rfl, Nat.le_refl _, blk_new W _, Nat.le_refl _, by unfold maxLen; omega, rfl, rfl⟩⟩⟩
  have hnil : ∀ w, (binOp .eql 23 (.slice (some ad) v.length c) (.slice none 0 0)).run Try.prog w = .ok (.bool false) w := fun w => by first | exact Lib.run_eql_slice_nil (P := Try.prog) w Try.underlying23 _ _ _ | exact Lib.run_eql_slice_nil w Try.underlying23 | kernel_rfl
  obtain ⟨n, hn⟩ : ∃ n, v.length = n := ⟨_, rfl⟩
  have HN := Aside0.mk hn
  rw [hn] at hnil h1 h2
  rw [hn]
  clear hr hcell hi hz0 hz1 hz2 hn
  go_enter Try.func30, Try.ntmps30
  go_wp2_with (at_builtin; refine wpList_append_mine rfl _ _ 23 rfl W.heap.size 3 i0 (.int .i64 0) 1 8 Try.underlying23 HI.out HZ0.out HZ1.out HZ2.out rfl (by decide) (.slice (some ⟨W.heap.size, 0, none⟩) 0 0) 0 [] rfl HO.out ad n c (nums .i64 v) rfl (by have := HN.out; simp [nums, this]) HC.out (nums_one _ _) n (by omega) (by unfold maxLen; omega) (by omega) (by simp) ?_; intro A' c' w1 hown hgrow hloc)
  go_ret
  refine ⟨⟨_, rfl, ?_⟩, (below_alloc (Below.refl W.heap.size W) (.cells #[] 3)).grown hgrow (by simp) (fun k hk => by cases hk; exact Nat.le_refl _)⟩
  have := HN.out
  subst this
  exact vec_of_own (by simpa using hown) h1
end Go.Proofs.Ytealiaafdkhonaa.Vp
