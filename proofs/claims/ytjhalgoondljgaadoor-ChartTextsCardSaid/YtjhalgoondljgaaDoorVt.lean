/- Values as trees: what a value of any and a value hold; of. -/
import Derived.Test.YtjhalgoondljgaaDoorRe
import Derived.Test.YtjhalgoondljgaaDoorBase
import Derived.Handy
namespace Go.Proofs.YtjhalgoondljgaaDoor.Re
open Go.RowKit Go.Proofs.YtjhalgoondljgaaDoorW.PrintWords Go.Proofs.YtjhalgoondljgaaDoorW.PrintLast Go.Proofs.YtjhalgoondljgaaDoorW.PrintMore Base
set_option linter.unusedVariables false
set_option linter.unusedSimpArgs false

inductive V where
  | num (n : Int)
  | str (s : ByteArray)
  | list (l : List V)

/-- What lies behind a value of any; G: the blocks in which its lists lie. -/
inductive AAt (G : Nat → Prop) (w : World) : V → Value → Prop
  | num (n : Int) : AAt G w (.num n) (.iface 3 (.int .i64 n))
  | str (s : ByteArray) : AAt G w (.str s) (.iface 9 (.string s))
  | list (l : List V) (g c : Nat) (f : Nat → Value) (hg : G g) (hlt : g < w.heap.size) (hl : l.length ≤ c) (hs : l.length ≤ 4096) (hc : ∀ i, i < l.length → w.cell? ⟨g, i, none⟩ = some (f i)) (h : ∀ i (hi : i < l.length), AAt G w l[i] (f i)) :
      AAt G w (.list l) (.iface 75 (.slice (some ⟨g, 0, none⟩) l.length c))

/-- A value: its kind, number, text, list; G: the blocks in which its lists lie. -/
inductive VAt (G : Nat → Prop) (w : World) : V → Value → Value → Value → Value → Prop
  | num (n : Int) : VAt G w (.num n) (.int .i64 1) (.int .i64 n) (.string ⟨#[]⟩) (.slice none 0 0)
  | str (s : ByteArray) : VAt G w (.str s) (.int .i64 2) (.int .i64 0) (.string s) (.slice none 0 0)
  | list (l : List V) (A : Option Addr) (c : Nat) (f : Nat → Nat → Value) (hs : l.length ≤ 4096) (hcap : l.length ≤ c) (hA : l = [] ∨ ∃ g, A = some ⟨g, 0, none⟩ ∧ G g ∧ ∀ i j, i < l.length → j < 4 → w.cell? ⟨g, i * 4 + j, none⟩ = some (f i j))
      (h : ∀ i (hi : i < l.length), VAt G w l[i] (f i 0) (f i 1) (f i 2) (f i 3)) : VAt G w (.list l) (.int .i64 3) (.int .i64 0) (.string ⟨#[]⟩) (.slice A l.length c)

theorem AAt.turns {G F : Nat → Prop} {w w' : World} {v : V} {x : Value} (h : AAt G w v x) (ht : Turns F w w') (hF : ∀ i, G i → i < w.heap.size → ¬ F i) : AAt G w' v x := by
  induction h with
  | num n => exact .num n
  | str s => exact .str s
  | list l g c f hg hlt hl hs hc h ih =>
    exact .list l g c f hg (Nat.lt_of_lt_of_le hlt ht.size) hl hs (fun i hi => (World.cell?_of_block (ht.block g hlt (hF g hg hlt))).trans (hc i hi)) ih
theorem AAt.mono {G H : Nat → Prop} {w : World} {v : V} {x : Value} (h : AAt G w v x) (hG : ∀ i, G i → i < w.heap.size → H i) : AAt H w v x := by
  induction h with
  | num n => exact .num n
  | str s => exact .str s
  | list l g c f hg hlt hl hs hc h ih => exact .list l g c f (hG g hg hlt) hlt hl hs hc ih
theorem VAt.turns {G F : Nat → Prop} {w w' : World} {v : V} {k n s l : Value} (h : VAt G w v k n s l) (ht : Turns F w w') (hF : ∀ i, G i → i < w.heap.size → ¬ F i) : VAt G w' v k n s l := by
  induction h with
  | num n => exact .num n
  | str s => exact .str s
  | list l A c f hs hcap hA h ih =>
    refine .list l A c f hs hcap ?_ ih
    rcases hA with hA | ⟨g, e, hg, hA⟩
    · exact .inl hA
    · refine .inr ⟨g, e, hg, fun i j hi hj => ?_⟩
      have hlt := World.block_lt_of_cell? _ _ (hA i j hi hj)
      exact (World.cell?_of_block (ht.block g hlt (hF g hg hlt))).trans (hA i j hi hj)
theorem VAt.mono {G H : Nat → Prop} {w : World} {v : V} {k n s l : Value} (h : VAt G w v k n s l) (hG : ∀ i, G i → i < w.heap.size → H i) : VAt H w v k n s l := by
  induction h with
  | num n => exact .num n
  | str s => exact .str s
  | list l A c f hs hcap hA h ih =>
    refine .list l A c f hs hcap ?_ ih
    rcases hA with hA | ⟨g, e, hg, hA⟩
    · exact .inl hA
    · by_cases h0 : l = []
      · exact .inl h0
      · have hp : 0 < l.length := List.length_pos_iff.2 h0
        exact .inr ⟨g, e, hG g hg (World.block_lt_of_cell? _ _ (hA 0 0 hp (by omega))), hA⟩
theorem VAt.one {G : Nat → Prop} {w : World} {v : V} {k n s l : Value} (h : VAt G w v k n s l) : ∀ u ∈ [k, n, s, l], u.oneCell' = true := by
  cases h <;> intro u hu <;> simp at hu <;> rcases hu with rfl | rfl | rfl | rfl <;> rfl

theorem int_calls (n : Int) (w : World) : Calls Tryd.prog 11 #[.int .i64 n] w fun e w' => e = .returned (.agg #[.int .i64 1, .int .i64 n, .string ⟨#[]⟩, .slice none 0 0]) ∧ w' = w.alloc (.cells #[.int .i64 1, .int .i64 n, .string ⟨#[]⟩, .slice none 0 0] 36) := by
  go_enter Tryd.func11, Tryd.ntmps11
  go_wp2
  go_returns
  exact ⟨rfl, rfl⟩
theorem str_calls (s : ByteArray) (w : World) : Calls Tryd.prog 42 #[.string s] w fun e w' => e = .returned (.agg #[.int .i64 2, .int .i64 0, .string s, .slice none 0 0]) ∧ w' = w.alloc (.cells #[.int .i64 2, .int .i64 0, .string s, .slice none 0 0] 36) := by
  go_enter Tryd.func42, Tryd.ntmps42
  go_wp2
  go_returns
  exact ⟨rfl, rfl⟩
theorem list_calls (A : Option Addr) (n c : Nat) (w : World) : Calls Tryd.prog 13 #[.slice A n c] w fun e w' => e = .returned (.agg #[.int .i64 3, .int .i64 0, .string ⟨#[]⟩, .slice A n c]) ∧ w' = w.alloc (.cells #[.int .i64 3, .int .i64 0, .string ⟨#[]⟩, .slice A n c] 36) := by
  go_enter Tryd.func13, Tryd.ntmps13
  go_wp2
  go_returns
  exact ⟨rfl, rfl⟩

def quad (q : Nat → Nat → Value) : Nat → List Value
  | 0 => []
  | n + 1 => quad q n ++ [q n 0, q n 1, q n 2, q n 3]
theorem quad_length (q : Nat → Nat → Value) : ∀ n, (quad q n).length = n * 4
  | 0 => rfl
  | n + 1 => by rw [quad, List.length_append, quad_length q n]; simp; omega
theorem quad_congr {q r : Nat → Nat → Value} : ∀ {n : Nat}, (∀ j, j < n → ∀ t, q j t = r j t) → quad q n = quad r n
  | 0, _ => rfl
  | n + 1, h => by rw [quad, quad, quad_congr (n := n) (fun j hj => h j (by omega))]; simp only [h n (by omega)]
theorem quad_at (q : Nat → Nat → Value) : ∀ (n i j : Nat), i < n → j < 4 → (quad q n)[i * 4 + j]? = some (q i j)
  | n + 1, i, j, hi, hj => by
    rw [quad]
    by_cases h : i < n
    · rw [List.getElem?_append_left (by rw [quad_length]; omega)]
      exact quad_at q n i j h hj
    · have e : i = n := by omega
      subst e
      rw [List.getElem?_append_right (by rw [quad_length]; omega), quad_length]
      have : i * 4 + j - i * 4 = j := by omega
      rw [this]
      have : j = 0 ∨ j = 1 ∨ j = 2 ∨ j = 3 := by omega
      rcases this with rfl | rfl | rfl | rfl <;> rfl

theorem own_quad_cap {W : World} {b n c : Nat} {A : Option Addr} {xs : List Value} (h : W.ownsRow b 36 4 (.slice A n c) n xs) : n ≤ c := by
  rcases h.2 with ⟨e1, e2⟩ | ⟨g', cap, cur, e1, hB, hg, hcap, _⟩
  · omega
  · injection e1 with _ _ e3
    omega
theorem own_quad_cell {W : World} {b n g c : Nat} {xs : List Value} (h : W.ownsRow b 36 4 (.slice (some ⟨g, 0, none⟩) n c) n xs) : ∀ (j : Nat) (u : Value), xs[j]? = some u → W.cell? ⟨g, j, none⟩ = some u := by
  intro j u hj
  rcases h.2 with ⟨e1, _⟩ | ⟨g', cap, cur, e1, hB, hg, hcap, h63, hsz, htk⟩
  · cases e1
  · injection e1 with e1 _ e3
    injection e1 with e1
    injection e1 with e1 _
    subst e1
    have hl := h.1
    have hjl : j < xs.length := (List.getElem?_eq_some_iff.1 hj).1
    have h2 : cur.toList.take (n * 4) = xs := by simpa using htk
    rw [← h2, List.getElem?_take, if_pos (by omega), Array.getElem?_toList] at hj
    exact (blk_cell hg j).trans hj

theorem wpList_append_loc {P : Program} {ops : Array Oper} {rest : List Oper} {o : Oper} {a : Act} {w : World} {Q : Exit → Act → World → Prop}
    (hgd : o.guard = none) (s x : Operand) (t : TypeId) (ho : o.op = Op.call { callee := Callee.builtin Builtin.append, args := #[s, x], argTypes := #[t, t] })
    (base : Nat) (e : TypeId) (i : TypeInfo) (z : Value) (size bytes : Nat) (ht : P.underlying t = some (.slice e)) (hi : P.info? e = some i) (hz : i.zero = some z) (hsize : i.size = size) (hby : i.bytes = bytes) (hzs : z.cells.size = size) (hsz : 0 < size)
    (v : Value) (n : Nat) (xs : List Value) (hs : a.eval s = v) (hown : w.ownsRow base e size v n xs)
    (ad : Addr) (m c : Nat) (news : List Value) (hx : a.eval x = .slice (some ad) m c) (hl : news.length = m * size) (hnews : ∀ j u, news[j]? = some u → w.cell? (ad.add j) = some u) (h1 : ∀ u ∈ news, u.oneCell' = true)
    (N : Nat) (hN : n + m = N) (h63 : N ≤ maxLen) (hbytes : N * bytes ≤ 140737488355328) (hbase : base ≤ w.heap.size)
    (hK : ∀ A' c' w', w'.ownsRow base e size (.slice A' N c') N (xs ++ news) → w.grownBy w' v.ownBlock → ((Value.slice A' N c').ownBlock = v.ownBlock ∨ (Value.slice A' N c').ownBlock = some w.heap.size) → wpList P ops Q rest (a.put o.dst (.slice A' N c')) w') : wpList P ops Q (o :: rest) a w := by
  subst hN
  refine wpList_plain hgd fun K hK' => ?_
  obtain ⟨v', w', hrun, r1, r2, _, r4⟩ := run_append_own_at (P := P) (w := w) base t o.type e i z size bytes ht hi hz hsize hby hzs hsz v n xs hown ad m c news hl hnews h1 h63 hbytes hbase
  obtain ⟨A', c', rfl⟩ := own_slice r1
  unfold Oper.wp
  simp [execOp, ho, resolve, invoke, builtin, hs, hx, hrun, Result.andThen]
  exact hK' _ _ (hK A' c' w' r1 r2 r4)

theorem Turns.of_grown {a b : World} {row : Option Nat} (h : a.grownBy b row) : Turns (fun i => row = some i) a b := ⟨h.os, h.tape, h.output, h.size, fun i hi hn => h.block i hi (fun e => hn e.symm)⟩
theorem size_alloc (w : World) (o : Obj) : (w.alloc o).heap.size = w.heap.size + 1 := Array.size_push ..
end Go.Proofs.YtjhalgoondljgaaDoor.Re
