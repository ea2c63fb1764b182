/- Maps with int keys, whatever their elements: what a map's block holds as a function, and what each operation does to it. -/
import Derived.Maps.Own
import Derived.Maps.OwnSet
import Derived.Maps.Ext
import Derived.Carry
import Derived.WalkKit
import Derived.Deep.Draws
namespace Go.Proofs.Ytealiaafdkhonaa.Mb
open Go.RowKit Go.Maps
set_option linter.unusedVariables false
set_option linter.unusedSimpArgs false

/-- An element read as the very value that it is. -/
def rawR : Value → Option (DataW Value × List MemPlace) := fun v => some (.held v, [])

def IMap (P : Program) (k : TypeId) (W : World) (b : Nat) (f : Int → Option Value) (n : Nat) : Prop :=
  ∃ D, W.ownsMap P k rawR b n D ∧ Maps.size D = n ∧ ∀ x : Int, (Lit.int .i64 x).wf = true → (Maps.has D (.int .i64 x) = (f x).isSome) ∧ ∀ v, f x = some v → ∀ z, D.atKey (.int .i64 x) z = .held v

def upd {α : Type} (f : Int → Option α) (x : Int) (v : Option α) : Int → Option α := fun y => if y = x then v else f y

section
variable {P : Program} {k e t : TypeId} {W w1 : World} {b n : Nat} {f : Int → Option Value}

theorem owns_size {D : DataW Value} {m : Nat} (h : W.ownsMap P k rawR b m D) : W.ownsMap P k rawR b (Maps.size D) D := by
  obtain ⟨es, clock, hb, F, _, rfl⟩ := h
  exact ⟨es, clock, hb, F, by simp [Maps.size, length_sorted], rfl⟩

theorem IMap.made (W : World) : IMap P k (W.alloc (.map #[] 0)) W.heap.size (fun _ => none) 0 :=
  ⟨.map [], World.ownsMap_made _ _ _ _, rfl, fun x _ => ⟨rfl, fun v hv => by cases hv⟩⟩

theorem IMap.lt (h : IMap P k W b f n) : b < W.heap.size := by obtain ⟨D, h, _⟩ := h; exact h.lt
theorem IMap.kept {row : Option Nat} (h : IMap P k W b f n) (hg : W.grownBy w1 row) (hne : some b ≠ row) : IMap P k w1 b f n := by
  obtain ⟨D, h, r⟩ := h; exact ⟨D, h.kept hg hne, r⟩
theorem IMap.move (h : IMap P k W b f n) (hm : w1.heap[b]? = W.heap[b]?) : IMap P k w1 b f n := by
  obtain ⟨D, ⟨es, clock, hb, r1⟩, r⟩ := h; exact ⟨D, ⟨es, clock, by rw [hm]; exact hb, r1⟩, r⟩
theorem IMap.alloc (h : IMap P k W b f n) (o : Obj) : IMap P k (W.alloc o) b f n := h.kept (World.grownBy_alloc W o none) (by simp)
theorem IMap.drew (h : IMap P k W b f n) : IMap P k W.drew b f n := h
theorem IMap.drewN (h : IMap P k W b f n) (m : Nat) : IMap P k (W.drewN m) b f n := h
theorem IMap.below (h : IMap P k W b f n) (hb : Below W.heap.size W w1) : IMap P k w1 b f n := h.move (hb.block b h.lt)
theorem IMap.setCell (h : IMap P k W b f n) {a : Addr} (ha : b ≠ a.block) (u : Value) : IMap P k (W.setCell a u) b f n := by
  obtain ⟨D, h, r⟩ := h; exact ⟨D, h.setCell ha u, r⟩
theorem IMap.congr {g : Int → Option Value} (h : IMap P k W b f n) (he : ∀ x, (Lit.int .i64 x).wf = true → g x = f x) : IMap P k W b g n := by
  obtain ⟨D, h, hs, hx⟩ := h
  refine ⟨D, h, hs, fun x hw => ?_⟩
  rw [he x hw]; exact hx x hw

theorem IMap.look (h : IMap P k W b f n) (K : Keyed P k) (hk : P.underlying k = some (.int .i64)) (ht : P.underlying t = some (.map k e)) {z : Value} (hz : (zeroValue e).run P W = .ok z W) (x : Int) (hw : (Lit.int .i64 x).wf = true) :
    (Instr.lookup t (.map (some b)) (.int .i64 x) false).run P W = .ok ((f x).getD z) W := by
  obtain ⟨D, h, hs, hx⟩ := h
  obtain ⟨h1, h2⟩ := hx x hw
  obtain ⟨v, ps, hrun, hv⟩ := h.lookup K ht hz (zd := .held z) (zp := []) rfl (keyOf_int_mk hk hw)
  rw [hrun]
  congr 1
  simp only [rawR, Option.some.injEq, Prod.mk.injEq] at hv
  cases hf : f x with
  | some u => rw [h2 u hf] at hv; have := hv.1; injection this
  | none =>
    rw [hf] at h1
    rw [Maps.atKey_of_not_has h1] at hv
    have := hv.1; injection this

theorem IMap.look_ok (h : IMap P k W b f n) (K : Keyed P k) (hk : P.underlying k = some (.int .i64)) (ht : P.underlying t = some (.map k e)) {z : Value} (hz : (zeroValue e).run P W = .ok z W) (x : Int) (hw : (Lit.int .i64 x).wf = true) :
    (Instr.lookup t (.map (some b)) (.int .i64 x) true).run P W = .ok (.tuple #[(f x).getD z, .bool (f x).isSome]) W := by
  obtain ⟨D, h, hs, hx⟩ := h
  obtain ⟨h1, h2⟩ := hx x hw
  obtain ⟨v, ps, hrun, hv⟩ := h.look_ok K ht hz (zd := .held z) (zp := []) rfl (keyOf_int_mk hk hw)
  rw [hrun, h1]
  congr 1
  simp only [rawR, Option.some.injEq, Prod.mk.injEq] at hv
  cases hf : f x with
  | some u => rw [h2 u hf] at hv; have := hv.1; injection this with this; rw [this]; rfl
  | none =>
    rw [hf] at h1
    rw [Maps.atKey_of_not_has h1] at hv
    have := hv.1; injection this with this; rw [this]; rfl

theorem IMap.len (h : IMap P k W b f n) (ht : P.underlying t = some (.map k e)) (ty : TypeId) : (Builtin.len_ #[t] ty #[.map (some b)]).run P W = .ok (.int .i64 n) W := by
  obtain ⟨D, h, hs, _⟩ := h
  rw [h.len ht ty, hs]

theorem wf_key (x : Int) : WideAt.IsKeyLit (.int .i64 x) := by
  first | exact trivial | simp [WideAt.IsKeyLit]

theorem IMap.store (h : IMap P k W b f n) (K : Keyed P k) (hk : P.underlying k = some (.int .i64)) (ht : P.underlying t = some (.map k e)) (hn : n < maxLen) (x : Int) (hw : (Lit.int .i64 x).wf = true) (v : Value) :
    ∃ w', (Instr.mapUpdate t (.map (some b)) (.int .i64 x) v).run P W = .ok () w' ∧ IMap P k w' b (upd f x (some v)) (if (f x).isSome then n else n + 1) ∧ W.mapTurned w' b := by
  obtain ⟨D, h, hs, hx⟩ := h
  obtain ⟨w', hrun, hown, hturn⟩ := h.store K ht hn (keyOf_int_mk hk hw) (show rawR v = some (.held v, []) from rfl)
  have hsz := Maps.size_put (k := .int .i64 x) (h.tidy K) (.held v)
  rw [(hx x hw).1, hs] at hsz
  refine ⟨w', hrun, ⟨_, by rw [← hsz]; exact owns_size hown, hsz, fun y hy => ?_⟩, hturn⟩
  unfold upd
  by_cases e1 : y = x
  · subst e1
    rw [if_pos rfl]
    exact ⟨Maps.has_put_same h.isMap (wf_key y) _, fun v' hv' z => by cases hv'; exact Maps.atKey_put_same h.isMap (wf_key y) _ _⟩
  · rw [if_neg e1]
    have hne : Lit.int .i64 y ≠ Lit.int .i64 x := by simpa using e1
    refine ⟨by rw [Maps.has_put_other hne]; exact (hx y hy).1, fun v' hv' z => ?_⟩
    rw [Maps.atKey_put_other hne]
    exact (hx y hy).2 v' hv' z

theorem IMap.drop (h : IMap P k W b f n) (K : Keyed P k) (hk : P.underlying k = some (.int .i64)) (ht : P.underlying t = some (.map k e)) (x : Int) (hw : (Lit.int .i64 x).wf = true) (ty : TypeId) :
    ∃ w', (Builtin.delete_ #[t, k] ty #[.map (some b), .int .i64 x]).run P W = .ok (.tuple #[]) w' ∧ IMap P k w' b (upd f x none) (if (f x).isSome then n - 1 else n) ∧ W.mapTurned w' b := by
  obtain ⟨D, h, hs, hx⟩ := h
  obtain ⟨w', hrun, hown, hturn⟩ := h.drop K ht (keyOf_int_mk hk hw) ty
  have hsz := Maps.size_del (k := .int .i64 x) (h.tidy K)
  rw [(hx x hw).1, hs] at hsz
  have hsz' : Maps.size (D.del (.int .i64 x)) = if (f x).isSome then n - 1 else n := by split <;> simp_all <;> omega
  refine ⟨w', hrun, ⟨_, by rw [← hsz']; exact owns_size hown, hsz', fun y hy => ?_⟩, hturn⟩
  unfold upd
  by_cases e1 : y = x
  · subst e1
    rw [if_pos rfl]
    exact ⟨Maps.has_del_same, fun v' hv' => by cases hv'⟩
  · rw [if_neg e1]
    have hne : Lit.int .i64 y ≠ Lit.int .i64 x := by simpa using e1
    refine ⟨by rw [Maps.has_del_other hne]; exact (hx y hy).1, fun v' hv' z => ?_⟩
    rw [Maps.atKey_del_other hne]
    exact (hx y hy).2 v' hv' z

section
variable {ops : Array Oper} {rest : List Oper} {o : Oper} {a : Act} {Q : Exit → Act → World → Prop} {K' : Act → World → Prop} {E : Prop}
theorem wpList_look_imap (hg : o.guard = none) (m x : Operand) (hop : o.op = Op.lookup t m x false) (K : Keyed P k) (hk : P.underlying k = some (.int .i64)) (ht : P.underlying t = some (.map k e)) {z : Value} (hz : (zeroValue e).run P W = .ok z W)
    (hm : a.eval m = .map (some b)) (h : IMap P k W b f n) (key : Int) (hx : a.eval x = .int .i64 key) (hw : (Lit.int .i64 key).wf = true) (v : Value) (hv : (f key).getD z = v)
    (hK : wpList P ops Q rest (a.put o.dst v) W) : wpList P ops Q (o :: rest) a W := by
  subst hv
  refine wpList_plain hg fun K' hK' => ?_
  have hrun := h.look K hk ht hz key hw
  unfold Oper.wp
  simp [execOp, hop, hm, hx, hrun, Result.andThen]
  exact hK' _ _ hK
theorem wpList_store_imap (hg : o.guard = none) (m x v : Operand) (hop : o.op = Op.mapUpdate t m x v) (K : Keyed P k) (hk : P.underlying k = some (.int .i64)) (ht : P.underlying t = some (.map k e))
    (hm : a.eval m = .map (some b)) (h : IMap P k W b f n) (hn : n < maxLen) (key : Int) (hx : a.eval x = .int .i64 key) (hw : (Lit.int .i64 key).wf = true) (val : Value) (hv : a.eval v = val)
    (hK : ∀ w', IMap P k w' b (upd f key (some val)) (if (f key).isSome then n else n + 1) → W.mapTurned w' b → wpList P ops Q rest (a.put o.dst undef) w') : wpList P ops Q (o :: rest) a W := by
  refine wpList_plain hg fun K' hK' => ?_
  obtain ⟨w', hrun, r1, r2⟩ := h.store K hk ht hn key hw val
  unfold Oper.wp
  simp [execOp, hop, hm, hx, hv, hrun, Result.andThen]
  exact hK' _ _ (hK w' r1 r2)
theorem step_store_imap (hg : o.guard = none) (m x v : Operand) (hop : o.op = Op.mapUpdate t m x v) (K : Keyed P k) (hk : P.underlying k = some (.int .i64)) (ht : P.underlying t = some (.map k e))
    (hm : a.eval m = .map (some b)) (h : IMap P k W b f n) (hn : n < maxLen) (key : Int) (hx : a.eval x = .int .i64 key) (hw : (Lit.int .i64 key).wf = true) (val : Value) (hv : a.eval v = val)
    (hK : ∀ w', IMap P k w' b (upd f key (some val)) (if (f key).isSome then n else n + 1) → W.mapTurned w' b → K' (a.put o.dst undef) w') : if Region.wanted o (yielded ops a.tmps) = true then Oper.wp P o a W K' Q else E := by
  have hwt : Region.wanted o (yielded ops a.tmps) = true := by simp [Region.wanted, hg]
  rw [if_pos hwt]
  obtain ⟨w', hrun, r1, r2⟩ := h.store K hk ht hn key hw val
  unfold Oper.wp
  simp [execOp, hop, hm, hx, hv, hrun, Result.andThen]
  exact hK w' r1 r2
theorem wpList_drop_imap (hg : o.guard = none) (m x : Operand) (hop : o.op = Op.call { callee := Callee.builtin Builtin.delete, args := #[m, x], argTypes := #[t, k] }) (K : Keyed P k) (hk : P.underlying k = some (.int .i64)) (ht : P.underlying t = some (.map k e))
    (hm : a.eval m = .map (some b)) (h : IMap P k W b f n) (key : Int) (hx : a.eval x = .int .i64 key) (hw : (Lit.int .i64 key).wf = true)
    (hK : ∀ w', IMap P k w' b (upd f key none) (if (f key).isSome then n - 1 else n) → W.mapTurned w' b → wpList P ops Q rest (a.put o.dst (.tuple #[])) w') : wpList P ops Q (o :: rest) a W := by
  refine wpList_plain hg fun K' hK' => ?_
  obtain ⟨w', hrun, r1, r2⟩ := h.drop K hk ht key hw o.type
  unfold Oper.wp
  simp [execOp, hop, resolve, invoke, builtin, hm, hx, hrun, Result.andThen]
  exact hK' _ _ (hK w' r1 r2)
end
end
end Go.Proofs.Ytealiaafdkhonaa.Mb
