/- A tree in memory: its points, its nodes, its maps; what keeps it. -/
import Derived.Test.YtealiaafdkhonaaMc
import Derived.Test.YtealiaafdkhonaaMb
import Derived.Test.YtealiaafdkhonaaBase
namespace Go.Proofs.Ytealiaafdkhonaa.Vp
open Go.RowKit Go.Sort Mb Base Go.Proofs.YtealiaafdkhonaaW.PrintWords Go.Proofs.YtealiaafdkhonaaW.PrintLast Go.Proofs.YtealiaafdkhonaaW.PrintMore
set_option linter.unusedVariables false
set_option linter.unusedSimpArgs false

theorem law : Maps.Keyed Try.prog 3 := Maps.int_keyed Try.underlying3
theorem zero3 (w : World) : (zeroValue 3).run Try.prog w = .ok (.int .i64 0) w := by kernel_rfl
theorem zero4 (w : World) : (zeroValue 4).run Try.prog w = .ok (.bool false) w := by kernel_rfl
theorem zero23 (w : World) : (zeroValue 23).run Try.prog w = .ok (.slice none 0 0) w := by kernel_rfl

/-- Rows of numbers and nodes are never written over. -/
def Hard (W : World) (j : Nat) : Prop := ∃ cur t, W.heap[j]? = some (.cells cur t (0, 0)) ∧ (t = 3 ∨ t = 104)
theorem Hard.lt {W : World} {j : Nat} (h : Hard W j) : j < W.heap.size := by obtain ⟨_, _, h, _⟩ := h; exact blk_lt h
/-- All that is hard below b is as it was. -/
def Kp (b : Nat) (W W' : World) : Prop := ∀ j, j < b → Hard W j → W'.heap[j]? = W.heap[j]?
theorem Kp.turns {F : Nat → Prop} {b : Nat} {W W' : World} (h : Turns F W W') (hF : ∀ j, j < b → F j → ¬ Hard W j) : Kp b W W' := fun j hj hh => h.block j hh.lt (fun e => hF j hj e hh)
theorem Kp.below {b : Nat} {W W' : World} (h : Below b W W') : Kp b W W' := fun j hj _ => h.block j hj
theorem Kp.hard {b : Nat} {W W' : World} (h : Kp b W W') {j : Nat} (hj : j < b) (hh : Hard W j) : Hard W' j := by
  obtain ⟨cur, t, e, ht⟩ := hh
  exact ⟨cur, t, (h j hj ⟨cur, t, e, ht⟩).trans e, ht⟩

/-- A vector that lies in a row of its own. -/
def VecAt (W : World) (b : Nat) (val : Value) (v : List Int) : Prop :=
  ∃ j c cur, val = .slice (some ⟨j, 0, none⟩) v.length c ∧ j < b ∧ W.heap[j]? = some (.cells cur 3 (0, 0)) ∧ cur.toList.take v.length = nums .i64 v
theorem VecAt.keep {W W' : World} {b : Nat} {val : Value} {v : List Int} (h : VecAt W b val v) (hk : Kp b W W') : VecAt W' b val v := by
  obtain ⟨j, c, cur, e, hj, hg, ht⟩ := h
  exact ⟨j, c, cur, e, hj, (hk j hj ⟨cur, 3, hg, .inl rfl⟩).trans hg, ht⟩
theorem VecAt.more {W : World} {b b' : Nat} {val : Value} {v : List Int} (h : VecAt W b val v) (hb : b ≤ b') : VecAt W b' val v := by
  obtain ⟨j, c, cur, e, hj, hg, ht⟩ := h
  exact ⟨j, c, cur, e, by omega, hg, ht⟩
theorem VecAt.form {W : World} {b : Nat} {val : Value} {v : List Int} (h : VecAt W b val v) (hl : v.length ≤ 9223372036854775807) : ∃ A c, val = .slice A v.length c ∧ Kd.C (Kd.int .i64) W A v.length v ∧ ∀ ad, A = some ad → ad.block < b := by
  obtain ⟨j, c, cur, e, hj, hg, ht⟩ := h
  refine ⟨_, c, e, ⟨rfl, hl, fun hn => ⟨_, rfl, fun i x hx => ⟨[.int .i64 x], rfl, rfl, fun z u hu => ?_⟩⟩⟩, fun ad hA => by cases hA; exact hj⟩
  have hz : z = 0 := by have := (List.getElem?_eq_some_iff.1 hu).1; simp at this; omega
  subst hz
  have hu' : Value.int .i64 x = u := by simpa using hu
  subst hu'
  have hi := (List.getElem?_eq_some_iff.1 hx).1
  have h1 : (nums .i64 v)[i]? = some (.int .i64 x) := by rw [nums, List.getElem?_map, hx]; rfl
  rw [← ht, List.getElem?_take, if_pos hi, Array.getElem?_toList] at h1
  show W.cell? ((⟨j, 0, none⟩ : Addr).add (i * 1 + 0)) = _
  rw [show (⟨j, 0, none⟩ : Addr).add (i * 1 + 0) = ⟨j, i, none⟩ by unfold Addr.add; split <;> simp_all]
  exact (blk_cell hg i).trans h1
theorem C_block {W W' : World} {A : Option Addr} {n : Nat} {xs : List Int} (h : Kd.C (Kd.int .i64) W A n xs) (hb : ∀ ad, A = some ad → W'.heap[ad.block]? = W.heap[ad.block]?) : Kd.C (Kd.int .i64) W' A n xs := by
  refine ⟨h.1, h.2.1, fun hn => ?_⟩
  obtain ⟨ad, e, hc⟩ := h.2.2 hn
  refine ⟨ad, e, fun j p hj => ?_⟩
  obtain ⟨c, hl, hr, hx⟩ := hc j p hj
  refine ⟨c, hl, hr, fun i u hu => ?_⟩
  have := hx i u hu
  rw [← this]
  exact World.cell?_of_block (by rw [show (ad.add (j * (Kd.int .i64).sz + i)).block = ad.block by unfold Addr.add; split <;> rfl]; exact hb ad e)
theorem vec_of_own {W : World} {B : Nat} {A : Option Addr} {c : Nat} {v : List Int} (h : W.ownsRow B 3 1 (.slice A v.length c) v.length (nums .i64 v)) (hn : 1 ≤ v.length) : VecAt W W.heap.size (.slice A v.length c) v := by
  rcases h.2 with ⟨e1, e2⟩ | ⟨g, cap, cur, e1, hB, hg, hcap, h63, hsz, htk⟩
  · omega
  · injection e1 with e1 _ e3
    subst e1; subst e3
    exact ⟨g, c, cur, rfl, blk_lt hg, hg, by simpa using htk⟩

/-- A tree of points: each with those within its radius, and those beyond. -/
inductive VT where
  | nil : VT
  | node (id : Int) (v : List Int) (r : Int) (i o : VT) : VT
def NodeAt (W : World) (b : Nat) : VT → Value → Prop
  | .nil, p => p = .pointer none
  | .node id v r i o, p => ∃ g val pi po, p = .pointer (some ⟨g, 0, none⟩) ∧ g < b ∧ W.heap[g]? = some (.cells #[.int .i64 id, val, .int .i64 r, pi, po] 104 (0, 0)) ∧ VecAt W b val v ∧ NodeAt W b i pi ∧ NodeAt W b o po ∧ (pi = po → i = .nil ∧ o = .nil)
theorem NodeAt.keep {W W' : World} {b : Nat} (hk : Kp b W W') : ∀ {T : VT} {p : Value}, NodeAt W b T p → NodeAt W' b T p
  | .nil, _, h => h
  | .node id v r i o, _, h => by
    obtain ⟨g, val, pi, po, e, hg, hb, hv, hi, ho, hne⟩ := h
    exact ⟨g, val, pi, po, e, hg, (hk g hg ⟨_, 104, hb, .inr rfl⟩).trans hb, hv.keep hk, NodeAt.keep hk hi, NodeAt.keep hk ho, hne⟩
theorem NodeAt.more {W : World} {b b' : Nat} (hb : b ≤ b') : ∀ {T : VT} {p : Value}, NodeAt W b T p → NodeAt W b' T p
  | .nil, _, h => h
  | .node id v r i o, _, h => by
    obtain ⟨g, val, pi, po, e, hg, hc, hv, hi, ho, hne⟩ := h
    exact ⟨g, val, pi, po, e, by omega, hc, hv.more hb, NodeAt.more hb hi, NodeAt.more hb ho, hne⟩

/-- What a tree holds: its points by rising numbers, the numbers whose points stand in its nodes as they are, its nodes. -/
structure TS where
  dim : Int
  L : List (Int × List Int)
  inn : Int → Bool
  T : VT
def look (L : List (Int × List Int)) (x : Int) : Option (List Int) := (L.find? fun p => p.1 == x).map (·.2)
def inV (inn : Int → Bool) (x : Int) : Option Value := if inn x = true then some (.bool true) else none

/-- A tree in memory: its box g, its maps ma and mi. -/
structure TreeAt (W : World) (g ma mi : Nat) (s : TS) : Prop where
  ex : ∃ root f ni, W.heap[g]? = some (.cells #[.int .i64 s.dim, root, .map (some ma), .map (some mi)] 69 (0, 0)) ∧ IMap Try.prog 3 W ma f s.L.length ∧ IMap Try.prog 3 W mi (inV s.inn) ni ∧ ni ≤ 512 ∧
    NodeAt W W.heap.size s.T root ∧ (∀ x, (f x).isSome = (look s.L x).isSome) ∧ ∀ x val, f x = some val → ∃ v, look s.L x = some v ∧ VecAt W W.heap.size val v
  ne1 : g ≠ ma
  ne2 : g ≠ mi
  ne3 : ma ≠ mi
theorem TreeAt.lt {W : World} {g ma mi : Nat} {s : TS} (h : TreeAt W g ma mi s) : g < W.heap.size ∧ ma < W.heap.size ∧ mi < W.heap.size := by
  obtain ⟨⟨root, f, ni, h1, h2, h3, _⟩, _⟩ := h
  exact ⟨blk_lt h1, h2.lt, h3.lt⟩
theorem imap_obj {W : World} {b n : Nat} {f : Int → Option Value} (h : IMap Try.prog 3 W b f n) : ∃ es clock, W.heap[b]? = some (.map es clock) := by
  obtain ⟨D, ⟨es, clock, hb, _⟩, _⟩ := h
  exact ⟨es, clock, hb⟩
theorem imap_soft {W : World} {b n : Nat} {f : Int → Option Value} (h : IMap Try.prog 3 W b f n) : ¬ Hard W b := by
  obtain ⟨es, clock, hb⟩ := imap_obj h
  rintro ⟨cur, t, e, _⟩
  rw [hb] at e; cases e
theorem blk_soft {W : World} {g : Nat} {cs : Array Value} {t : TypeId} (h : W.heap[g]? = some (.cells cs t (0, 0))) (h1 : t ≠ 3) (h2 : t ≠ 104) : ¬ Hard W g := by
  rintro ⟨cur, t', e, ht⟩
  rw [h] at e
  injection e with e
  injection e with _ e
  rcases ht with ht | ht
  · exact h1 (e.trans ht)
  · exact h2 (e.trans ht)
theorem TreeAt.soft {W : World} {g ma mi : Nat} {s : TS} (h : TreeAt W g ma mi s) : ∀ j, j = g ∨ j = ma ∨ j = mi → ¬ Hard W j := by
  obtain ⟨⟨root, f, ni, h1, h2, h3, _⟩, _⟩ := h
  rintro j (rfl | rfl | rfl)
  · exact blk_soft h1 (by decide) (by decide)
  · exact imap_soft h2
  · exact imap_soft h3
/-- A tree stays one where its box, its maps and all that is hard stay. -/
theorem TreeAt.move {W W' : World} {g ma mi : Nat} {s : TS} (h : TreeAt W g ma mi s) (hs : W.heap.size ≤ W'.heap.size) (hk : Kp W.heap.size W W') (h1 : W'.heap[g]? = W.heap[g]?) (h2 : W'.heap[ma]? = W.heap[ma]?) (h3 : W'.heap[mi]? = W.heap[mi]?) : TreeAt W' g ma mi s := by
  obtain ⟨⟨root, f, ni, e1, e2, e3, e4, e5, e6, e7⟩, n1, n2, n3⟩ := h
  exact ⟨⟨root, f, ni, h1.trans e1, e2.move h2, e3.move h3, e4, (e5.keep hk).more hs, e6, fun x val hx => by obtain ⟨v, hv, ha⟩ := e7 x val hx; exact ⟨v, hv, (ha.keep hk).more hs⟩⟩, n1, n2, n3⟩
theorem TreeAt.turns {F : Nat → Prop} {W W' : World} {g ma mi : Nat} {s : TS} (h : TreeAt W g ma mi s) (ht : Turns F W W') (hF : ∀ j, F j → ¬ Hard W j) (h1 : ¬ F g) (h2 : ¬ F ma) (h3 : ¬ F mi) : TreeAt W' g ma mi s :=
  h.move ht.size (Kp.turns ht (fun j _ hj => hF j hj)) (ht.block g h.lt.1 h1) (ht.block ma h.lt.2.1 h2) (ht.block mi h.lt.2.2 h3)
theorem TreeAt.below {W W' : World} {g ma mi : Nat} {s : TS} (h : TreeAt W g ma mi s) (hb : Below W.heap.size W W') : TreeAt W' g ma mi s :=
  h.move hb.size (Kp.below hb) (hb.block g h.lt.1) (hb.block ma h.lt.2.1) (hb.block mi h.lt.2.2)
theorem TreeAt.drew {W : World} {g ma mi : Nat} {s : TS} (h : TreeAt W g ma mi s) : TreeAt W.drew g ma mi s := h.below (below_drew1 (Below.refl _ _))

/-- What lets a tree be asked: its box, its nodes, its numbers. -/
theorem given_calls (g : Nat) (dim : Int) (hd : 0 < dim) (W : World) (h : W.cell? ⟨g, 0, none⟩ = some (.int .i64 dim)) : Calls Try.prog 28 #[.pointer (some ⟨g, 0, none⟩)] W fun e w' => e = .returned (.bool true) ∧ W = w' := by
  have e1 : ∀ w, (binOp .neq 25 (.pointer (some ⟨g, 0, none⟩)) (.pointer none)).run Try.prog w = .ok (.bool true) w := fun w => by kernel_rfl
  go_enter Try.func28, Try.ntmps28
  go_wp2
  go_ret
  exact ⟨rfl, rfl⟩
theorem given_nil (W : World) : Calls Try.prog 28 #[.pointer none] W fun e w' => e = .returned (.bool false) ∧ W = w' := by
  have e1 : ∀ w, (binOp .neq 25 (.pointer none) (.pointer none)).run Try.prog w = .ok (.bool false) w := fun w => by kernel_rfl
  go_enter Try.func28, Try.ntmps28
  go_wp2
  go_ret
  exact ⟨rfl, rfl⟩
theorem given_zero (g : Nat) (W : World) (h : W.cell? ⟨g, 0, none⟩ = some (.int .i64 0)) : Calls Try.prog 28 #[.pointer (some ⟨g, 0, none⟩)] W fun e w' => e = .returned (.bool false) ∧ W = w' := by
  have e1 : ∀ w, (binOp .neq 25 (.pointer (some ⟨g, 0, none⟩)) (.pointer none)).run Try.prog w = .ok (.bool true) w := fun w => by kernel_rfl
  go_enter Try.func28, Try.ntmps28
  go_wp2
  go_ret
  exact ⟨rfl, rfl⟩
/-- Whether a tree was made: a pointer that nobody made, or a box of nothing. -/
def Unmade (W : World) (p : Value) : Prop := p = .pointer none ∨ ∃ g, p = .pointer (some ⟨g, 0, none⟩) ∧ W.cell? ⟨g, 0, none⟩ = some (.int .i64 0)
theorem given_no (p : Value) (W : World) (h : Unmade W p) : Calls Try.prog 28 #[p] W fun e w' => e = .returned (.bool false) ∧ W = w' := by
  rcases h with rfl | ⟨g, rfl, hc⟩
  · exact given_nil W
  · exact given_zero g W hc

structure NewTree (w : World) (dim : Int) (e : Ending) (w' : World) : Prop where
  ex : ∃ g ma mi, e = .returned (.tuple #[.pointer (some ⟨g, 0, none⟩), .int .i64 0]) ∧ TreeAt w' g ma mi ⟨dim, [], fun _ => false, .nil⟩ ∧ w.heap.size ≤ g ∧ w.heap.size ≤ ma ∧ w.heap.size ≤ mi
  below : Below w.heap.size w w'
theorem new_calls (dim : Int) (h1 : 1 ≤ dim) (h2 : dim ≤ 16) (w : World) : Calls Try.prog 11 #[.int .i64 dim] w (NewTree w dim) := by
  have hmm := @run_makeMap Try.prog
  have g1 : ¬ dim < 1 := by omega
  have g2 : ¬ 16 < dim := by omega
  go_enter Try.func11, Try.ntmps11
  go_wp2
  go_ret2
  refine ⟨⟨w.heap.size + 1 + 1, w.heap.size, w.heap.size + 1, rfl, ⟨⟨.pointer none, fun _ => none, 0, ?_, ?_, ?_, by omega, rfl, fun x => rfl, fun x val hx => by cases hx⟩, by omega, by omega, by omega⟩, by omega, by omega, by omega⟩, ?_⟩
  · have := blk_new ((w.alloc (Obj.map #[] 0)).alloc (Obj.map #[] 0)) (.cells #[.int .i64 dim, .pointer none, .map (some w.heap.size), .map (some (w.heap.size + 1))] 69)
    simpa using this
  · exact (((IMap.made w).alloc _).alloc _).congr (fun x _ => rfl)
  · have := (IMap.made (P := Try.prog) (k := 3) (w.alloc (Obj.map #[] 0))).alloc (.cells #[.int .i64 dim, .pointer none, .map (some w.heap.size), .map (some (w.heap.size + 1))] 69)
    have h2 := this.congr (g := inV fun _ => false) (fun x _ => rfl)
    simpa using h2
  · exact below_alloc (below_alloc (below_alloc (Below.refl _ _) _) _) _
end Go.Proofs.Ytealiaafdkhonaa.Vp
