/- A reader of bytes: next, fail, number. -/
import Derived.Test.YtjhalgoondljgaaDoorProg
import Derived.Test.YtjhalgoondljgaaDoorWWords
import Derived.Test.YtjhalgoondljgaaDoorWLast
import Derived.Deep.RegionLawGrows
import Derived.ProofKit
namespace Go.Proofs.YtjhalgoondljgaaDoor.Re
open Go.RowKit Go.Proofs.YtjhalgoondljgaaDoorW.PrintWords Go.Proofs.YtjhalgoondljgaaDoorW.PrintLast
set_option linter.unusedVariables false
set_option linter.unusedSimpArgs false

/-- Outside of F nothing that was there has turned. -/
structure Turns (F : Nat → Prop) (w w' : World) : Prop where
  os : w'.os = w.os
  tape : w'.tape = w.tape
  output : w'.output = w.output
  size : w.heap.size ≤ w'.heap.size
  block : ∀ k, k < w.heap.size → ¬ F k → w'.heap[k]? = w.heap[k]?
theorem Turns.refl (F : Nat → Prop) (w : World) : Turns F w w := ⟨rfl, rfl, rfl, Nat.le_refl _, fun _ _ _ => rfl⟩
theorem Turns.trans {F : Nat → Prop} {a b c : World} (h : Turns F a b) (k : Turns F b c) : Turns F a c :=
  ⟨k.os.trans h.os, k.tape.trans h.tape, k.output.trans h.output, Nat.le_trans h.size k.size, fun i hi hn => (k.block i (Nat.lt_of_lt_of_le hi h.size) hn).trans (h.block i hi hn)⟩
theorem Turns.of_below {F : Nat → Prop} {a b : World} (h : Below a.heap.size a b) : Turns F a b := ⟨h.os, h.tape, h.output, h.size, fun i hi _ => h.block i hi⟩
theorem Turns.alloc {F : Nat → Prop} {a b : World} (h : Turns F a b) (o : Obj) : Turns F a (b.alloc o) := h.trans (Turns.of_below (below_alloc (Below.refl _ _) o))
theorem Turns.drewN {F : Nat → Prop} {a b : World} (h : Turns F a b) (n : Nat) : Turns F a (b.drewN n) := ⟨h.os, h.tape, h.output, h.size, h.block⟩
theorem Turns.drew {F : Nat → Prop} {a b : World} (h : Turns F a b) : Turns F a b.drew := ⟨h.os, h.tape, h.output, h.size, h.block⟩
theorem Turns.set_ {F : Nat → Prop} {a b : World} (h : Turns F a b) {p : Addr} (hp : F p.block) (u : Value) : Turns F a (b.setCell p u) :=
  ⟨h.os, h.tape, h.output, by simpa [World.setCell] using h.size, fun i hi hn => (Below.heap_setCell _ _ _ _ (fun e => hn (by rw [e]; exact hp))).trans (h.block i hi hn)⟩

/-- A reader in its block: what it reads, where it is, what was refused. -/
def RdAt (w : World) (p : Nat) (s : ByteArray) (a e : Int) : Prop := w.heap[p]? = some (.cells #[.string s, .int .i64 a, .int .i64 e] 68 (0, 0))
section
variable {w : World} {p : Nat} {s : ByteArray} {a e : Int}
theorem RdAt.c0 (h : RdAt w p s a e) : w.cell? ⟨p, 0, none⟩ = some (.string s) := by unfold RdAt at h; simp [World.cell?, h]
theorem RdAt.c1 (h : RdAt w p s a e) : w.cell? ⟨p, 1, none⟩ = some (.int .i64 a) := by unfold RdAt at h; simp [World.cell?, h]
theorem RdAt.c2 (h : RdAt w p s a e) : w.cell? ⟨p, 2, none⟩ = some (.int .i64 e) := by unfold RdAt at h; simp [World.cell?, h]
theorem RdAt.f1 (h : RdAt w p s a e) : w.frozen? ⟨p, 1, none⟩ = false := by unfold RdAt at h; simp [World.frozen?, h]
theorem RdAt.f2 (h : RdAt w p s a e) : w.frozen? ⟨p, 2, none⟩ = false := by unfold RdAt at h; simp [World.frozen?, h]
theorem RdAt.lt (h : RdAt w p s a e) : p < w.heap.size := by
  unfold RdAt at h
  rcases Nat.lt_or_ge p w.heap.size with h' | h'
  · exact h'
  · simp [Array.getElem?_eq_none h'] at h
theorem RdAt.drewN (h : RdAt w p s a e) (n : Nat) : RdAt (w.drewN n) p s a e := h
theorem RdAt.set1 (h : RdAt w p s a e) (b : Int) : RdAt (w.setCell ⟨p, 1, none⟩ (.int .i64 b)) p s b e := by
  unfold RdAt at *; simp [World.setCell, Array.getElem?_modify, h]
theorem RdAt.set2 (h : RdAt w p s a e) (b : Int) : RdAt (w.setCell ⟨p, 2, none⟩ (.int .i64 b)) p s a b := by
  unfold RdAt at *; simp [World.setCell, Array.getElem?_modify, h]
theorem RdAt.move {w' : World} (h : RdAt w p s a e) (hb : w'.heap[p]? = w.heap[p]?) : RdAt w' p s a e := by unfold RdAt at *; rw [hb]; exact h
end

abbrev At (p : Nat) : Nat → Prop := fun i => i = p

theorem fail_calls (w : World) (p : Nat) (s : ByteArray) (a x : Int) (h : RdAt w p s a 0) : Calls Tryd.prog 41 #[.pointer (some ⟨p, 0, none⟩), .int .i64 x] w fun e w' => e = .returned (.tuple #[]) ∧ w' = w.setCell ⟨p, 2, none⟩ (.int .i64 x) := by
  have c2 := h.c2
  have f2 := h.f2
  go_enter Tryd.func41, Tryd.ntmps41
  go_wp2
  refine bodyPost_end (results_none rfl _ _ _) rfl ?_
  exact ⟨rfl, rfl⟩

theorem next_calls (w : World) (p : Nat) (s : ByteArray) (a : Nat) (ha : a < s.size) (h : RdAt w p s a 0) : Calls Tryd.prog 39 #[.pointer (some ⟨p, 0, none⟩)] w fun e w' => e = .returned (.int .u8 (s[a].toNat)) ∧ Drawn0 w w' := by
  have c0 := h.c0
  have c1 := h.c1
  have hne : ¬ ((a : Int) = (s.size : Int)) := by omega
  go_enter Tryd.func39, Tryd.ntmps39
  go_upto_region 1 with (fail)
  go_quiet (fail)
  go_upto_region 4 with (fail)
  go_quiet (fail)
  go_wp2_with fail
  go_ret
  exact ⟨rfl, ((Drawn0.refl w).step _).step _⟩

theorem next_end (w : World) (p : Nat) (s : ByteArray) (h : RdAt w p s s.size 0) : Calls Tryd.prog 39 #[.pointer (some ⟨p, 0, none⟩)] w fun e w' => e = .returned (.int .u8 0) ∧ ∃ m, w' = (w.drewN m).setCell ⟨p, 2, none⟩ (.int .i64 21) := by
  have c0 := h.c0
  have c1 := h.c1
  have HR := Aside0.mk h
  clear h
  go_enter Tryd.func39, Tryd.ntmps39
  go_upto_region 1 with (fail)
  go_quiet (fail)
  go_wp2_with (go_at_call 41; refine (fail_calls _ p s _ _ (HR.out.drewN _)).mono ?_; rintro e w' ⟨rfl, rfl⟩)
  go_ret
  exact ⟨rfl, _, rfl⟩
end Go.Proofs.YtjhalgoondljgaaDoor.Re
