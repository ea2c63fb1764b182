/- A wheel in memory, and the wheel's small functions: New, given, Len, Left, Cancel. -/
import Derived.Test.YtncmkcdnlcmiaaaPWheelPlaysx0
import Derived.Test.YtncmkcdnlcmiaaaMb
import Derived.Deep.RegionLawGrows
namespace Go.Proofs.Ytncmkcdnlcmiaaa.Wh
open Go.RowKit Mb Go.Proofs.YtncmkcdnlcmiaaaW.PrintWords Go.Proofs.YtncmkcdnlcmiaaaW.PrintLast Go.Proofs.YtncmkcdnlcmiaaaW.PrintMore
set_option linter.unusedVariables false
set_option linter.unusedSimpArgs false

theorem ret_bool {a b : Bool} (h : a = b) : Ending.returned (.bool a) = .returned (.bool b) := by rw [h]
theorem ret_int {k : IntKind} {a b : Int} (h : a = b) : Ending.returned (.int k a) = .returned (.int k b) := by rw [h]
theorem law : Maps.Keyed Try.prog 3 := Maps.int_keyed Try.underlying3
theorem zero3 (w : World) : (zeroValue 3).run Try.prog w = .ok (.int .i64 0) w := by kernel_rfl
theorem zero22 (w : World) : (zeroValue 22).run Try.prog w = .ok (.slice none 0 0) w := by kernel_rfl

/-- Outside of F nothing that was there has turned. -/
structure Turns (F : Nat → Prop) (w w' : World) : Prop where
  os : w'.os = w.os
  tape : w'.tape = w.tape
  output : w'.output = w.output
  size : w.heap.size ≤ w'.heap.size
  block : ∀ k, k < w.heap.size → ¬ F k → w'.heap[k]? = w.heap[k]?
theorem Turns.refl (F : Nat → Prop) (w : World) : Turns F w w := ⟨rfl, rfl, rfl, Nat.le_refl _, fun _ _ _ => rfl⟩
theorem Turns.trans {F G : Nat → Prop} {a b c : World} (h : Turns F a b) (k : Turns G b c) (hG : ∀ i, G i → F i ∨ a.heap.size ≤ i) : Turns F a c :=
  ⟨k.os.trans h.os, k.tape.trans h.tape, k.output.trans h.output, Nat.le_trans h.size k.size, fun i hi hn => (k.block i (Nat.lt_of_lt_of_le hi h.size) (fun hg => (hG i hg).elim hn (by omega))).trans (h.block i hi hn)⟩
theorem Turns.mono {F G : Nat → Prop} {a b : World} (h : Turns F a b) (hG : ∀ i, F i → G i) : Turns G a b := ⟨h.os, h.tape, h.output, h.size, fun i hi hn => h.block i hi (fun hf => hn (hG i hf))⟩
theorem Turns.below {F : Nat → Prop} {a b : World} {B : Nat} (h : Turns F a b) (hB : B ≤ a.heap.size) (hF : ∀ i, F i → B ≤ i) : Below B a b := ⟨h.os, h.tape, h.output, h.size, fun i hi => h.block i (by omega) (fun hf => by have := hF i hf; omega)⟩
theorem Turns.of_below {F : Nat → Prop} {a b : World} (h : Below a.heap.size a b) : Turns F a b := ⟨h.os, h.tape, h.output, h.size, fun i hi _ => h.block i hi⟩
theorem Turns.of_grown {a b : World} {row : Option Nat} (h : a.grownBy b row) : Turns (fun i => row = some i) a b := ⟨h.os, h.tape, h.output, h.size, fun i hi hn => h.block i hi (fun e => hn e.symm)⟩
theorem Turns.alloc {F : Nat → Prop} {a b : World} (h : Turns F a b) (o : Obj) : Turns F a (b.alloc o) := h.trans (G := fun _ => False) (Turns.of_below (below_alloc (Below.refl _ _) o)) (fun _ hf => hf.elim)
theorem Turns.drew {F : Nat → Prop} {a b : World} (h : Turns F a b) : Turns F a b.drew := ⟨h.os, h.tape, h.output, h.size, h.block⟩
theorem Turns.drewN {F : Nat → Prop} {a b : World} (h : Turns F a b) (n : Nat) : Turns F a (b.drewN n) := ⟨h.os, h.tape, h.output, h.size, h.block⟩
theorem Turns.set_ {F : Nat → Prop} {a b : World} (h : Turns F a b) {p : Addr} (hp : F p.block) (u : Value) : Turns F a (b.setCell p u) :=
  ⟨h.os, h.tape, h.output, by simpa [World.setCell] using h.size, fun i hi hn => (Below.heap_setCell _ _ _ _ (fun e => hn (by rw [e]; exact hp))).trans (h.block i hi hn)⟩
theorem Turns.cell {F : Nat → Prop} {a b : World} (h : Turns F a b) {p : Addr} {v : Value} (hc : a.cell? p = some v) (hp : ¬ F p.block) : b.cell? p = some v := (World.cell?_of_block (h.block _ (World.block_lt_of_cell? a p hc) hp)).trans hc

/-- A wheel: its box at block p, the tick now, of each number its tick (n of them), of each tick its numbers; F: the blocks that are its own. c bounds what has been gathered. -/
structure WheelAt (W : World) (F : Nat → Prop) (p : Nat) (now : Int) (D : Int → Option Int) (n : Nat) (A : Int → List Int) (c : Nat) : Prop where
  ex : ∃ (bd ba na : Nat) (f : Int → Option Value), W.heap[p]? = some (.cells #[.int .i64 now, .map (some bd), .map (some ba)] 57 (0, 0)) ∧
    IMap Try.prog 3 W bd (fun x => (D x).map (Value.int .i64)) n ∧ IMap Try.prog 3 W ba f na ∧ na ≤ c ∧ p ≠ bd ∧ p ≠ ba ∧ bd ≠ ba ∧ F p ∧ F bd ∧ F ba ∧
    (∀ t v, f t = some v → W.ownsRow 0 3 1 v (A t).length (nums .i64 (A t)) ∧ ∀ k, v.ownBlock = some k → F k ∧ k ≠ p ∧ k ≠ bd ∧ k ≠ ba) ∧
    (∀ t, f t = none → A t = []) ∧ (∀ t t' v v', t ≠ t' → f t = some v → f t' = some v' → NeRow v v') ∧ ∀ t, (A t).length ≤ c
  lt : ∀ k, F k → k < W.heap.size

theorem WheelAt.box {W : World} {F : Nat → Prop} {p : Nat} {now : Int} {D : Int → Option Int} {n : Nat} {A : Int → List Int} {c : Nat} (h : WheelAt W F p now D n A c) : ∃ bd ba, W.cell? ⟨p, 0, none⟩ = some (.int .i64 now) ∧ W.cell? ⟨p, 1, none⟩ = some (.map (some bd)) ∧ W.cell? ⟨p, 2, none⟩ = some (.map (some ba)) ∧
    IMap Try.prog 3 W bd (fun x => (D x).map (Value.int .i64)) n := by
  obtain ⟨⟨bd, ba, na, f, h1, h2, _⟩, _⟩ := h
  exact ⟨bd, ba, (blk_cell h1 0).trans rfl, (blk_cell h1 1).trans rfl, (blk_cell h1 2).trans rfl, h2⟩

/-- A wheel stays a wheel where its own blocks are as they were. -/
theorem WheelAt.move {W W' : World} {F : Nat → Prop} {p : Nat} {now : Int} {D : Int → Option Int} {n : Nat} {A : Int → List Int} {c : Nat} (h : WheelAt W F p now D n A c) (hs : W.heap.size ≤ W'.heap.size) (hm : ∀ k, F k → W'.heap[k]? = W.heap[k]?) : WheelAt W' F p now D n A c := by
  obtain ⟨⟨bd, ba, na, f, h1, h2, h3, h4, h5, h6, h7, f1, f2, f3, h8, h9⟩, hl⟩ := h
  exact ⟨⟨bd, ba, na, f, by rw [hm _ f1]; exact h1, h2.move (hm _ f2), h3.move (hm _ f3), h4, h5, h6, h7, f1, f2, f3, fun t v hv => ⟨own_move (h8 t v hv).1 (fun k hk => hm k ((h8 t v hv).2 k hk).1), (h8 t v hv).2⟩, h9⟩, fun k hk => Nat.lt_of_lt_of_le (hl k hk) hs⟩
theorem WheelAt.below {W W' : World} {F : Nat → Prop} {p : Nat} {now : Int} {D : Int → Option Int} {n : Nat} {A : Int → List Int} {c : Nat} (h : WheelAt W F p now D n A c) (hb : Below W.heap.size W W') : WheelAt W' F p now D n A c := h.move hb.size (fun k hk => hb.block k (h.lt k hk))
theorem WheelAt.drewN {W : World} {F : Nat → Prop} {p : Nat} {now : Int} {D : Int → Option Int} {n : Nat} {A : Int → List Int} {c : Nat} (h : WheelAt W F p now D n A c) (m : Nat) : WheelAt (W.drewN m) F p now D n A c := h.move (Nat.le_refl _) (fun _ _ => rfl)
theorem WheelAt.drew {W : World} {F : Nat → Prop} {p : Nat} {now : Int} {D : Int → Option Int} {n : Nat} {A : Int → List Int} {c : Nat} (h : WheelAt W F p now D n A c) : WheelAt W.drew F p now D n A c := h.move (Nat.le_refl _) (fun _ _ => rfl)

theorem neq_map_some (b : Nat) (w : World) : (binOp .neq 54 (.map (some b)) (.map none)).run Try.prog w = .ok (.bool true) w := by kernel_rfl

theorem given_calls (p : Nat) (bd : Nat) (w : World) (h : w.cell? ⟨p, 1, none⟩ = some (.map (some bd))) : Calls Try.prog 22 #[.pointer (some ⟨p, 0, none⟩)] w fun e w' => e = .returned (.bool true) ∧ w = w' := by
  have e1 := neq_map_some bd
  go_enter Try.func22, Try.ntmps22
  go_wp2
  go_ret
  exact ⟨rfl, rfl⟩
theorem given_nil (w : World) : Calls Try.prog 22 #[.pointer none] w fun e w' => e = .returned (.bool false) ∧ w = w' := by
  go_enter Try.func22, Try.ntmps22
  go_wp2
  go_ret
  exact ⟨rfl, rfl⟩
theorem given_zero (p : Nat) (w : World) (h : w.cell? ⟨p, 1, none⟩ = some (.map none)) : Calls Try.prog 22 #[.pointer (some ⟨p, 0, none⟩)] w fun e w' => e = .returned (.bool false) ∧ w = w' := by
  have e1 : ∀ w, (binOp .neq 54 (.map none) (.map none)).run Try.prog w = .ok (.bool false) w := fun w => by kernel_rfl
  go_enter Try.func22, Try.ntmps22
  go_wp2
  go_ret
  exact ⟨rfl, rfl⟩

theorem new_calls (w : World) : Calls Try.prog 9 #[] w fun e w' => ∃ F p, e = .returned (.pointer (some ⟨p, 0, none⟩)) ∧ WheelAt w' F p 0 (fun _ => none) 0 (fun _ => []) 0 ∧ (∀ k, F k → w.heap.size ≤ k) ∧ Below w.heap.size w w' := by
  have hmm := @run_makeMap Try.prog
  go_enter Try.func9, Try.ntmps9
  go_wp2
  go_ret
  refine ⟨fun k => k = w.heap.size ∨ k = w.heap.size + 1 ∨ k = w.heap.size + 1 + 1, w.heap.size + 1 + 1, rfl, ⟨⟨w.heap.size, w.heap.size + 1, 0, fun _ => none, ?_, ?_, ?_, Nat.le_refl _, by omega, by omega, by omega, .inr (.inr rfl), .inl rfl, .inr (.inl rfl), (fun t v h => by cases h), (fun _ _ => rfl), (fun _ _ _ _ _ h => by cases h), fun _ => Nat.le_refl _⟩, ?_⟩, ?_, ?_⟩
  · have := blk_new ((w.alloc (Obj.map #[] 0)).alloc (Obj.map #[] 0)) (.cells #[.int .i64 0, .map (some w.heap.size), .map (some (w.heap.size + 1))] 57)
    simpa using this
  · exact (((IMap.made w).alloc _).alloc _).congr (fun x _ => rfl)
  · have := (IMap.made (P := Try.prog) (k := 3) (w.alloc (Obj.map #[] 0))).alloc (.cells #[.int .i64 0, .map (some w.heap.size), .map (some (w.heap.size + 1))] 57)
    simpa using this
  · intro k hk
    simp
    omega
  · intro k hk
    omega
  · exact below_alloc (below_alloc (below_alloc (Below.refl _ _) _) _) _

theorem len_calls (W : World) (F : Nat → Prop) (p : Nat) (now : Int) (D : Int → Option Int) (n : Nat) (A : Int → List Int) (c : Nat) (h : WheelAt W F p now D n A c) :
    Calls Try.prog 12 #[.pointer (some ⟨p, 0, none⟩)] W fun e w' => e = .returned (.int .i64 n) ∧ W = w' := by
  obtain ⟨bd, ba, c0, c1, c2, hm⟩ := h.box
  have hl := fun ty => hm.len Try.underlying54 ty
  have HM := Aside0.mk hm
  clear hm h
  go_enter Try.func12, Try.ntmps12
  go_wp2_with (go_at_call 22; refine (given_calls p bd _ c1).mono ?_; rintro e w' ⟨rfl, rfl⟩)
  go_ret
  exact ⟨rfl, rfl⟩

theorem left_none (W : World) (F : Nat → Prop) (p : Nat) (now : Int) (D : Int → Option Int) (n : Nat) (A : Int → List Int) (c : Nat) (h : WheelAt W F p now D n A c) (id : Int) (hw : (Lit.int .i64 id).wf = true) (hd : D id = none) :
    Calls Try.prog 18 #[.pointer (some ⟨p, 0, none⟩), .int .i64 id] W fun e w' => e = .returned (.tuple #[.int .i64 0, .int .i64 3]) ∧ W = w' := by
  obtain ⟨bd, ba, c0, c1, c2, hm⟩ := h.box
  have hl := hm.look_ok law Try.underlying3 Try.underlying54 (zero3 W) id hw
  rw [hd] at hl
  change (Instr.lookup 54 (.map (some bd)) (.int .i64 id) true).run Try.prog W = .ok (.tuple #[.int .i64 0, .bool false]) W at hl
  clear hm h hd
  go_enter Try.func18, Try.ntmps18
  go_wp2_with (go_at_call 22; refine (given_calls p bd _ c1).mono ?_; rintro e w' ⟨rfl, rfl⟩)
  go_ret2
  exact ⟨rfl, rfl⟩

theorem left_some (W : World) (F : Nat → Prop) (p : Nat) (now : Int) (D : Int → Option Int) (n : Nat) (A : Int → List Int) (c : Nat) (h : WheelAt W F p now D n A c) (id t : Int) (hw : (Lit.int .i64 id).wf = true) (hd : D id = some t) (h0 : 0 ≤ now) (h1 : now ≤ 1152921504606846976) (h2 : 0 ≤ t) (h3 : t ≤ 1152921504606846976) :
    Calls Try.prog 18 #[.pointer (some ⟨p, 0, none⟩), .int .i64 id] W fun e w' => e = .returned (.tuple #[.int .i64 (t - now), .int .i64 0]) ∧ W = w' := by
  obtain ⟨bd, ba, c0, c1, c2, hm⟩ := h.box
  have hl := hm.look_ok law Try.underlying3 Try.underlying54 (zero3 W) id hw
  rw [hd] at hl
  change (Instr.lookup 54 (.map (some bd)) (.int .i64 id) true).run Try.prog W = .ok (.tuple #[.int .i64 t, .bool true]) W at hl
  clear hm h hd
  go_enter Try.func18, Try.ntmps18
  go_wp2_with (go_at_call 22; refine (given_calls p bd _ c1).mono ?_; rintro e w' ⟨rfl, rfl⟩)
  (try go_quiet (fail))
  (try go_wp2)
  go_ret2
  exact ⟨rfl, rfl⟩

theorem turned_block {W w' : World} {b : Nat} (h : W.mapTurned w' b) : Turns (fun i => i = b) W w' := (Turns.of_grown h.grown).mono (fun i e => by injection e with e; exact e.symm)

/-- A wheel whose map of ticks has been written. -/
theorem WheelAt.due {W W' : World} {F : Nat → Prop} {p : Nat} {now : Int} {D D' : Int → Option Int} {n n' : Nat} {A : Int → List Int} {c bd : Nat} (h : WheelAt W F p now D n A c) (hbd : W.cell? ⟨p, 1, none⟩ = some (.map (some bd)))
    (ht : Turns (fun i => i = bd) W W') (hm : IMap Try.prog 3 W' bd (fun x => (D' x).map (Value.int .i64)) n') : WheelAt W' F p now D' n' A c := by
  obtain ⟨⟨bd', ba, na, f, h1, h2, h3, h4, h5, h6, h7, f1, f2, f3, h8, h9⟩, hl⟩ := h
  have e : bd' = bd := by
    have := (blk_cell h1 1).symm.trans hbd
    simpa using this
  subst e
  have hb : ∀ k, F k → k ≠ bd' → W'.heap[k]? = W.heap[k]? := fun k hk hne => ht.block k (hl k hk) hne
  exact ⟨⟨bd', ba, na, f, by rw [hb _ f1 h5]; exact h1, hm, h3.move (hb _ f3 (Ne.symm h7)), h4, h5, h6, h7, f1, f2, f3, fun t v hv => ⟨own_move (h8 t v hv).1 (fun k hk => hb k ((h8 t v hv).2 k hk).1 ((h8 t v hv).2 k hk).2.2.1), (h8 t v hv).2⟩, h9⟩, fun k hk => Nat.lt_of_lt_of_le (hl k hk) ht.size⟩

theorem upd_map (D : Int → Option Int) (x : Int) (v : Option Int) : upd (fun y => (D y).map (Value.int .i64)) x (v.map (Value.int .i64)) = fun y => (upd D x v y).map (Value.int .i64) := by
  funext y; unfold upd; split <;> rfl

def delN (D : Int → Option Int) (id : Int) (n : Nat) : Nat := if (D id).isSome then n - 1 else n
theorem cancel_calls (W : World) (F : Nat → Prop) (p : Nat) (now : Int) (D : Int → Option Int) (n : Nat) (A : Int → List Int) (c : Nat) (h : WheelAt W F p now D n A c) (id : Int) (hw : (Lit.int .i64 id).wf = true) :
    Calls Try.prog 15 #[.pointer (some ⟨p, 0, none⟩), .int .i64 id] W fun e w' => e = .returned (.bool (D id).isSome) ∧ WheelAt w' F p now (upd D id none) (delN D id n) A c ∧ Turns F W w' := by
  obtain ⟨bd, ba, c0, c1, c2, hm⟩ := h.box
  have hl := hm.look_ok law Try.underlying3 Try.underlying54 (zero3 W) id hw
  have HM := Aside0.mk hm
  have HH := Aside0.mk h
  have eis : ((D id).map (Value.int .i64)).isSome = (D id).isSome := by cases D id <;> rfl
  rw [eis] at hl
  have HEIS := Aside0.mk eis
  have HC1 := Aside0.mk c1
  clear hm h eis
  go_enter Try.func15, Try.ntmps15
  go_wp2_with (first | (go_at_call 22; refine (given_calls p bd _ c1).mono ?_; rintro e w' ⟨rfl, rfl⟩) | (at_delete; refine wpList_drop_imap rfl _ _ rfl law Try.underlying3 Try.underlying54 rfl HM.out id rfl hw ?_; intro w1 hm1 ht1))
  go_ret
  have hm2 : IMap Try.prog 3 w1 bd (fun x => (upd D id none x).map (Value.int .i64)) (delN D id n) := by
    unfold delN
    rw [HEIS.out] at hm1
    have := upd_map D id none
    rw [Option.map_none] at this
    rw [this] at hm1
    exact hm1
  refine ⟨rfl, HH.out.due HC1.out (turned_block ht1) hm2, (turned_block ht1).mono (fun i ei => ?_)⟩
  rw [ei]
  obtain ⟨⟨bd', ba', na, f, h1, _, _, _, _, _, _, f1, f2, f3, _⟩, _⟩ := HH.out
  have e : bd' = bd := by
    have := (blk_cell h1 1).symm.trans HC1.out
    simpa using this
  rw [← e]; exact f2

end Go.Proofs.Ytncmkcdnlcmiaaa.Wh
