/- A search below a node: what it does, in plain words. -/
import Derived.Test.YtealiaafdkhonaaTy
import Derived.LaidEqlPtr
import Derived.Laws.EntriesVeiled
namespace Go.Proofs.Ytealiaafdkhonaa.Vp
open Go.RowKit Go.Sort Mb Base Go.Proofs.YtealiaafdkhonaaW.PrintWords Go.Proofs.YtealiaafdkhonaaW.PrintLast Go.Proofs.YtealiaafdkhonaaW.PrintMore
set_option linter.unusedVariables false
set_option linter.unusedSimpArgs false

def meetS (k : Nat) (st : List (Int × Int) × Int) (h : Int × Int) : List (Int × Int) × Int := (meetL k st.1 st.2 h, meetN k st.1 st.2 h)
/-- One part of a node's tree: searched, if it may hold something near enough. -/
def part (b : Bool) (f : List (Int × Int) × Int → List (Int × Int) × Int) (st : List (Int × Int) × Int) : List (Int × Int) × Int := if b = true then f st else st
def okIn (d r lim : Int) : Bool := decide (d - r ≤ lim)
def okOut (d r lim : Int) : Bool := decide (r - d ≤ lim)
def belowF (k : Nat) (inn : Int → Bool) (v : List Int) : VT → List (Int × Int) × Int → List (Int × Int) × Int
  | .nil, st => st
  | .node id nv r i o, st =>
    let st1 := part (inn id) (fun s => meetS k s (id, distN v nv)) st
    if r ≤ distN v nv then
      let st2 := part (okOut (distN v nv) r st1.2) (belowF k inn v o) st1
      part (okIn (distN v nv) r st2.2) (belowF k inn v i) st2
    else
      let st2 := part (okIn (distN v nv) r st1.2) (belowF k inn v i) st1
      part (okOut (distN v nv) r st2.2) (belowF k inn v o) st2
def stepB (k : Nat) (inn : Int → Bool) (v : List Int) (i o : VT) (d r : Int) (out : Bool) (st : List (Int × Int) × Int) : List (Int × Int) × Int :=
  if out = true then part (okOut d r st.2) (belowF k inn v o) st else part (okIn d r st.2) (belowF k inn v i) st
theorem belowF_node (k : Nat) (inn : Int → Bool) (v : List Int) (id : Int) (nv : List Int) (r : Int) (i o : VT) (st : List (Int × Int) × Int) :
    belowF k inn v (.node id nv r i o) st = stepB k inn v i o (distN v nv) r (!decide (r ≤ distN v nv)) (stepB k inn v i o (distN v nv) r (decide (r ≤ distN v nv)) (part (inn id) (fun s => meetS k s (id, distN v nv)) st)) := by
  rw [belowF]
  by_cases h : r ≤ distN v nv
  · simp [h, stepB]
  · simp [h, stepB]
def Fm (k : Nat) (inn : Int → Bool) (v : List Int) (i o : VT) (d r : Int) (sd : Bool) (st : List (Int × Int) × Int) : Nat → List (Int × Int) × Int
  | 0 => st
  | 1 => stepB k inn v i o d r sd st
  | _ + 2 => stepB k inn v i o d r (!sd) (stepB k inn v i o d r sd st)
theorem Fm_succ (k : Nat) (inn : Int → Bool) (v : List Int) (i o : VT) (d r : Int) (sd : Bool) (st : List (Int × Int) × Int) : ∀ m, m < 2 → Fm k inn v i o d r sd st (m + 1) = stepB k inn v i o d r (if m = 0 then sd else !sd) (Fm k inn v i o d r sd st m)
  | 0, _ => rfl
  | 1, _ => rfl
  | _ + 2, h => by omega
theorem stepB_nil (k : Nat) (inn : Int → Bool) (v : List Int) (d r : Int) (out : Bool) (st : List (Int × Int) × Int) : stepB k inn v .nil .nil d r out st = st := by
  unfold stepB part
  cases out <;> simp [belowF]
theorem part_sorted {b : Bool} {f : List (Int × Int) × Int → List (Int × Int) × Int} {st : List (Int × Int) × Int} (h : Sorted st.1) (hf : ∀ s : List (Int × Int) × Int, Sorted s.1 → Sorted (f s).1) : Sorted (part b f st).1 := by
  unfold part
  split
  · exact hf st h
  · exact h
theorem belowF_sorted (k : Nat) (inn : Int → Bool) (v : List Int) : ∀ (T : VT) (st : List (Int × Int) × Int), Sorted st.1 → Sorted (belowF k inn v T st).1
  | .nil, st, h => h
  | .node id nv r i o, st, h => by
    have h1 : Sorted (part (inn id) (fun s => meetS k s (id, distN v nv)) st).1 := part_sorted h (fun s hs => meetL_sorted hs _)
    show Sorted (if r ≤ distN v nv then _ else _ : List (Int × Int) × Int).1
    split
    · exact part_sorted (part_sorted h1 (belowF_sorted k inn v o)) (belowF_sorted k inn v i)
    · exact part_sorted (part_sorted h1 (belowF_sorted k inn v i)) (belowF_sorted k inn v o)

theorem stepB_sorted (k : Nat) (inn : Int → Bool) (v : List Int) (i o : VT) (d r : Int) (out : Bool) (st : List (Int × Int) × Int) (h : Sorted st.1) : Sorted (stepB k inn v i o d r out st).1 := by
  unfold stepB
  split
  · exact part_sorted h (belowF_sorted k inn v o)
  · exact part_sorted h (belowF_sorted k inn v i)

theorem Fm_sorted (k : Nat) (inn : Int → Bool) (v : List Int) (i o : VT) (d r : Int) (sd : Bool) (st : List (Int × Int) × Int) (h : Sorted st.1) : ∀ m, Sorted (Fm k inn v i o d r sd st m).1
  | 0 => h
  | 1 => stepB_sorted _ _ _ _ _ _ _ _ _ h
  | _ + 2 => stepB_sorted _ _ _ _ _ _ _ _ _ (stepB_sorted _ _ _ _ _ _ _ _ _ h)

/-- The nodes' vectors are of so many numbers. -/
def VOK (n : Nat) : VT → Prop
  | .nil => True
  | .node id v r i o => isV v = true ∧ v.length = n ∧ (0 ≤ r ∧ r ≤ 1000000000000) ∧ (Lit.int .i64 id).wf = true ∧ VOK n i ∧ VOK n o

def Same (b : Nat) (W W' : World) : Prop := ∀ j, j < b → W'.heap[j]? = W.heap[j]?
theorem Same.kp {b : Nat} {W W' : World} (h : Same b W W') : Kp b W W' := fun j hj _ => h j hj
theorem Same.refl (b : Nat) (W : World) : Same b W W := fun _ _ => rfl
theorem Same.trans {b : Nat} {W W' W2 : World} (h : Same b W W') (k : Same b W' W2) : Same b W W2 := fun j hj => (k j hj).trans (h j hj)
/-- What a search sees besides its own box. -/
structure Sight (W : World) (b0 g mi : Nat) (V : Option Addr) (v : List Int) (inn : Int → Bool) : Prop where
  box : ∃ d r m, W.heap[g]? = some (.cells #[d, r, m, .map (some mi)] 69 (0, 0))
  gb : g < b0
  ins : ∃ ni, IMap Try.prog 3 W mi (inV inn) ni
  mib : mi < b0
  vec : Kd.C (Kd.int .i64) W V v.length v
  vb : ∀ ad, V = some ad → ad.block < b0
theorem Sight.same {W W' : World} {b0 g mi : Nat} {V : Option Addr} {v : List Int} {inn : Int → Bool} (h : Sight W b0 g mi V v inn) (hs : Same b0 W W') : Sight W' b0 g mi V v inn := by
  obtain ⟨⟨d, r, m, h1⟩, h2, ⟨ni, h3⟩, h4, h5, h6⟩ := h
  exact ⟨⟨d, r, m, (hs g h2).trans h1⟩, h2, ⟨ni, h3.move (hs mi h4)⟩, h4, C_block h5 (fun ad e => hs _ (h6 ad e)), h6⟩
theorem below_same {b0 : Nat} {W W' : World} (h : Below W.heap.size W W') (h3 : b0 ≤ W.heap.size) : Same b0 W W' := fun j hj => h.block j (by omega)

def BelowPost (W : World) (B q : Nat) (t : Value) (V : Option Addr) (vn vc k : Nat) (A : Option Addr) (st : List (Int × Int) × Int) (e : Ending) (w' : World) : Prop :=
  e = .returned (.tuple #[]) ∧ Met W B q t V vn vc k A st.2 st.1 w'
theorem Met.trans {W w1 w2 : World} {B q : Nat} {t : Value} {V : Option Addr} {vn vc k : Nat} {A A1 : Option Addr} {lim2 : Int} {l2 : List (Int × Int)} (ht : Turns (fun j => j = q ∨ A.map (·.block) = some j) W w1) (hn : ∀ j, A1.map (·.block) = some j → A.map (·.block) = some j ∨ W.heap.size ≤ j)
    (h2 : Met w1 B q t V vn vc k A1 lim2 l2 w2) : Met W B q t V vn vc k A lim2 l2 w2 := by
  obtain ⟨⟨A2, c2, hs, hn2⟩, ht2⟩ := h2
  refine ⟨⟨A2, c2, hs, fun j hj => ?_⟩, ⟨ht2.os.trans ht.os, ht2.tape.trans ht.tape, ht2.output.trans ht.output, Nat.le_trans ht.size ht2.size, fun j hj hnj => ?_⟩⟩
  · rcases hn2 j hj with e | e
    · exact hn j e
    · exact .inr (Nat.le_trans ht.size e)
  · refine (ht2.block j (Nat.lt_of_lt_of_le hj ht.size) (fun e => ?_)).trans (ht.block j hj hnj)
    rcases e with e | e
    · exact hnj (.inl e)
    · rcases hn j e with e | e
      · exact hnj (.inr e)
      · omega
theorem Met.of {W wD : World} {B q : Nat} {t : Value} {V : Option Addr} {vn vc k : Nat} {A : Option Addr} {c : Nat} {lim : Int} {l : List (Int × Int)} (hs : SearchAt W B q t V vn vc k lim A c l) (hb : Below W.heap.size W wD) : Met W B q t V vn vc k A lim l wD :=
  ⟨⟨A, c, hs.below hb, fun j h => .inl h⟩, Turns.of_below hb⟩

theorem met_same {W w1 : World} {B q b0 : Nat} {t : Value} {V : Option Addr} {vn vc k : Nat} {A : Option Addr} {c : Nat} {lim lim1 : Int} {l l1 : List (Int × Int)} (hs : SearchAt W B q t V vn vc k lim A c l) (h : Met W B q t V vn vc k A lim1 l1 w1) (h1 : b0 ≤ q) : Same b0 W w1 := fun j hj =>
  h.turns.block j (by have := hs.lt; omega) (fun e => by
    rcases e with e | e
    · omega
    · have := own_base hs.own j (by rw [own_blk]; exact e)
      have := hs.bq
      omega)
theorem eql_none_none (w : World) : (binOp .eql 65 (.pointer none) (.pointer none)).run Try.prog w = .ok (.bool true) w := by kernel_rfl
theorem eql_some_none (a : Addr) (w : World) : (binOp .eql 65 (.pointer (some a)) (.pointer none)).run Try.prog w = .ok (.bool false) w := by kernel_rfl
theorem eql_none_some (a : Addr) (w : World) : (binOp .eql 65 (.pointer none) (.pointer (some a))).run Try.prog w = .ok (.bool false) w := by kernel_rfl
theorem node_ptr {W : World} {b : Nat} : ∀ {T : VT} {p : Value}, NodeAt W b T p → p = .pointer none ∨ ∃ g cs, p = .pointer (some ⟨g, 0, none⟩) ∧ W.heap[g]? = some (.cells cs 104 (0, 0))
  | .nil, _, h => .inl h
  | .node id v r i o, _, h => by
    obtain ⟨g, val, pi, po, e, _, hb, _⟩ := h
    exact .inr ⟨g, _, e, hb⟩
theorem eql_nodes {W : World} {b : Nat} {T T' : VT} {p p' : Value} (h : NodeAt W b T p) (h' : NodeAt W b T' p') : (p = p' ∧ (binOp .eql 65 p p').run Try.prog W = .ok (.bool true) W) ∨ (p ≠ p' ∧ (binOp .eql 65 p p').run Try.prog W = .ok (.bool false) W) := by
  obtain ⟨j, hj, hsz⟩ : ∃ j, Try.prog.info? 104 = some j ∧ j.size ≠ 0 := by
    have h104 : (Try.prog.info? 104).map (·.size) = some 5 := by kernel_rfl
    cases e : Try.prog.info? 104 with
    | none => rw [e] at h104; cases h104
    | some j => rw [e] at h104; refine ⟨j, rfl, ?_⟩; simp at h104; omega
  rcases node_ptr h with rfl | ⟨g, cs, rfl, hb⟩
  · rcases node_ptr h' with rfl | ⟨g', cs', rfl, hb'⟩
    · exact .inl ⟨rfl, eql_none_none _⟩
    · exact .inr ⟨by simp, eql_none_some _ _⟩
  · rcases node_ptr h' with rfl | ⟨g', cs', rfl, hb'⟩
    · exact .inr ⟨by simp, eql_some_none _ _⟩
    · by_cases e : g = g'
      · subst e
        exact .inl ⟨rfl, run_eql_ptr_same W _ Try.underlying65 hj⟩
      · exact .inr ⟨by simp [e], run_eql_ptr_other W Try.underlying65 hj hsz (by simp [e]) hb hb'⟩
theorem met_row {w1 w2 : World} {B q rb : Nat} {t : Value} {V : Option Addr} {vn vc k : Nat} {A1 : Option Addr} {c1 : Nat} {lim1 lim2 : Int} {l1 l2 : List (Int × Int)} {cs : Array Value} (hs : SearchAt w1 B q t V vn vc k lim1 A1 c1 l1) (h : Met w1 B q t V vn vc k A1 lim2 l2 w2)
    (hb : w1.heap[rb]? = some (.cells cs 65 (0, 0))) : w2.heap[rb]? = some (.cells cs 65 (0, 0)) :=
  h.turns.keep hb (fun e => by
    rcases e with e | e
    · exact blk_ne hb hs.box (by decide) e
    · obtain ⟨cells, hc⟩ := own_typed hs.own rb (by rw [own_blk]; exact e)
      exact blk_ne hb hc (by decide) rfl)
theorem dist_range {a b : List Int} (ha : isV a = true) (hb : isV b = true) (hl : b.length = a.length) : 0 ≤ distN a b ∧ distN a b ≤ 68719476720 := by
  have h1 := distTo_range ha hb hl a.length (Nat.le_refl _)
  have h2 := (isV_len ha).2
  unfold distN
  omega
end Go.Proofs.Ytealiaafdkhonaa.Vp
