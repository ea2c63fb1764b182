/- Ranging over a map with int keys: which keys have come. -/
import Derived.Test.YtealiaafdkhonaaMb
import Derived.Maps.RangeWalk
namespace Go.Proofs.Ytealiaafdkhonaa.Mb
open Go.RowKit Go.Maps
set_option linter.unusedVariables false
set_option linter.unusedSimpArgs false

/-- A map (f) is ranged over: done has come, cnt are left. -/
def IRange (P : Program) (k : TypeId) (W : World) (b r n : Nat) (f : Int → Option Value) (done : List Int) (cnt : Nat) : Prop :=
  ∃ D left, W.ranges P k rawR b r n D left cnt ∧ (∀ x : Int, (Lit.int .i64 x).wf = true → (Maps.has D (.int .i64 x) = (f x).isSome) ∧ ∀ v, f x = some v → ∀ z, D.atKey (.int .i64 x) z = .held v) ∧ done.Nodup ∧
    (∀ x : Int, (Lit.int .i64 x).wf = true → left (.int .i64 x) = ((f x).isSome && !done.contains x)) ∧ ∀ x ∈ done, (Lit.int .i64 x).wf = true ∧ (f x).isSome = true

section
variable {P : Program} {k e t : TypeId} {W w1 : World} {b r n cnt : Nat} {f : Int → Option Value} {done : List Int}
theorem IRange.left_eq (h : IRange P k W b r n f done cnt) : W.rangeLeft b r = cnt := by obtain ⟨D, left, h, _⟩ := h; exact h.left_eq
theorem IRange.move (h : IRange P k W b r n f done cnt) (h1 : w1.heap[b]? = W.heap[b]?) (h2 : w1.heap[r]? = W.heap[r]?) : IRange P k w1 b r n f done cnt := by
  obtain ⟨D, left, ⟨es, clock, since, seen, c0, g1, g2, g3, g4, g5, g6⟩, hr⟩ := h
  exact ⟨D, left, ⟨es, clock, since, seen, c0, h1.trans g1, g2, g3, g4, h2.trans g5, g6⟩, hr⟩
theorem IRange.lt (h : IRange P k W b r n f done cnt) : r < W.heap.size := by obtain ⟨D, left, h, _⟩ := h; exact h.lt
theorem IRange.iter (h : IRange P k W b r n f done cnt) : ∃ a s u c, W.heap[r]? = some (.mapIter a s u c) := by
  obtain ⟨D, left, ⟨es, clock, since, seen, c0, g1, g2, g3, g4, g5, g6⟩, hr⟩ := h
  exact ⟨_, _, _, _, g5⟩

variable {ops : Array Oper} {rest : List Oper} {o : Oper} {a : Act} {Q : Exit → Act → World → Prop}
theorem wpList_range_imap (hg : o.guard = none) (m : Operand) (hop : o.op = Op.range t m) (K : Keyed P k) (hk : P.underlying k = some (.int .i64)) (ht : P.underlying t = some (.map k e)) (hm : a.eval m = .map (some b)) (h : IMap P k W b f n)
    (hK : ∀ w' cnt, IRange P k w' b W.heap.size n f [] cnt → W.grownBy w' none → w'.heap.size = W.heap.size + 1 → wpList P ops Q rest (a.put o.dst (.pointer (some ⟨W.heap.size, 0, none⟩))) w') : wpList P ops Q (o :: rest) a W := by
  obtain ⟨D, hown, hs, hx⟩ := h
  refine wpList_range_own W hg m t hop k e K ht rawR b n D hm hown ?_
  intro w' hr hgr hsz
  exact hK w' _ ⟨D, _, hr, hx, List.nodup_nil, fun x hw => by rw [(hx x hw).1]; simp, fun x hx => by cases hx⟩ hgr hsz
theorem same_int (x y : Int) : (Lit.int .i64 x).sameKey (.int .i64 y) = decide (x = y) := by simp [Lit.sameKey]
theorem wpList_next_imap (hg : o.guard = none) (it : Operand) (hop : o.op = Op.next it false) (K : Keyed P k) (hk : P.underlying k = some (.int .i64)) (hit : a.eval it = .pointer (some ⟨r, 0, none⟩)) (h : IRange P k W b r n f done cnt)
    (hDone : (∀ x : Int, (Lit.int .i64 x).wf = true → (f x).isSome = true → x ∈ done) → wpList P ops Q rest (a.put o.dst (.tuple #[.bool false])) W)
    (hMore : ∀ (x : Int) (c : Value) (w' : World) (cnt' : Nat), (Lit.int .i64 x).wf = true → f x = some c → x ∉ done → IRange P k w' b r n f (done ++ [x]) cnt' → cnt' < cnt → W.grownBy w' (some r) → w'.heap.size = W.heap.size →
      (Instr.entry (.pointer (some ⟨r, 0, none⟩))).run P w' = .ok (.tuple #[.int .i64 x, c]) w' → wpList P ops Q rest (a.put o.dst (.tuple #[.bool true, .int .i64 x, c])) w') :
    wpList P ops Q (o :: rest) a W := by
  obtain ⟨D, left, hr, hx, hnd, hl, hd⟩ := h
  refine wpList_next_ranges W hg it hop k K rawR (Value.int .i64) id (fun key kl hkey => by obtain ⟨x, rfl, _⟩ := Maps.keyOf_int_inv hk hkey; exact ⟨x, rfl⟩) (fun v y hv => ⟨v, rfl⟩) b r n D left cnt hit hr ?_ ?_
  · intro _ hall
    refine hDone (fun x hw hs => ?_)
    have h1 := hl x hw
    rw [hall, hs] at h1
    simpa using h1.symm
  · intro x c kl y w' cnt' hkey hlk hv hat hrg hlt hgr hsz hen
    obtain ⟨x', e1, rfl, hw⟩ := Maps.keyOf_int_inv hk hkey
    injection e1 with _ e1
    subst e1
    have h1 := hl x hw
    rw [hlk] at h1
    have h2 : (f x).isSome = true ∧ x ∉ done := by simpa using h1.symm
    obtain ⟨v, hfv⟩ := Option.isSome_iff_exists.1 h2.1
    have h3 := (hx x hw).2 v hfv (.held v)
    rw [hat] at h3
    have h4 : y.1 = .held c := by
      simp only [rawR, id, Option.some.injEq] at hv
      rw [← hv]
    rw [h4] at h3
    injection h3 with h3
    subst h3
    refine hMore x c w' cnt' hw hfv h2.2 ⟨D, _, hrg, hx, ?_, ?_, ?_⟩ hlt hgr hsz hen
    · rw [List.nodup_append]
      exact ⟨hnd, by simp, fun y hy z hz => by simp at hz; subst hz; intro e; subst e; exact h2.2 hy⟩
    · intro z hz
      show (left (.int .i64 z) && !(Lit.int .i64 z).sameKey (.int .i64 x)) = _
      rw [hl z hz, same_int]
      by_cases e : z = x
      · subst e; simp
      · simp [e, List.contains_append]
    · intro z hz
      rcases List.mem_append.1 hz with hz | hz
      · exact hd z hz
      · simp at hz; subst hz; exact ⟨hw, h2.1⟩
end
end Go.Proofs.Ytealiaafdkhonaa.Mb
