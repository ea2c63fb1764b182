/- Several texts in one: Bf, Bw. -/
import Derived.Test.YtealiaafdkhonaaPu1
import Derived.LaidEqlPtr
import Derived.Laws.EntriesVeiled
namespace Go.Proofs.Ytealiaafdkhonaa.Vp
open Go.RowKit Go.Sort Mb Base Go.Proofs.YtealiaafdkhonaaW.PrintWords Go.Proofs.YtealiaafdkhonaaW.PrintLast Go.Proofs.YtealiaafdkhonaaW.PrintMore
set_option linter.unusedVariables false
set_option linter.unusedSimpArgs false

def meetS (k : Nat) (st : List (Int × Int) × Int) (h : Int × Int) : List (Int × Int) × Int := (meetL k st.1 st.2 h, meetN k st.1 st.2 h)
/-- One part of a node's tree: searched, if it may hold something near enough. -/
def part (b : Bool) (f : List (Int × Int) × Int → List (Int × Int) × Int) (st : List (Int × Int) × Int) : List (Int × Int) × Int := if b = true then f st else st
def okIn (d r lim : Int) : Bool := decide (d - r ≤ lim)
def okOut (d r lim : Int) : Bool := decide (r - d ≤ lim)
def belowF (k : Nat) (inn : Int → Bool) (v : List Int) : VT → List (Int × Int) × Int → List (Int × Int) × Int
  | .nil, st => st
  | .node id nv r i o, st =>
    let st1 := part (inn id) (fun s => meetS k s (id, distN v nv)) st
    if r ≤ distN v nv then
      let st2 := part (okOut (distN v nv) r st1.2) (belowF k inn v o) st1
      part (okIn (distN v nv) r st2.2) (belowF k inn v i) st2
    else
      let st2 := part (okIn (distN v nv) r st1.2) (belowF k inn v i) st1
      part (okOut (distN v nv) r st2.2) (belowF k inn v o) st2
def stepB (k : Nat) (inn : Int → Bool) (v : List Int) (i o : VT) (d r : Int) (out : Bool) (st : List (Int × Int) × Int) : List (Int × Int) × Int :=
  if out = true then part (okOut d r st.2) (belowF k inn v o) st else part (okIn d r st.2) (belowF k inn v i) st
theorem belowF_node (k : Nat) (inn : Int → Bool) (v : List Int) (id : Int) (nv : List Int) (r : Int) (i o : VT) (st : List (Int × Int) × Int) :
    belowF k inn v (.node id nv r i o) st = stepB k inn v i o (distN v nv) r (!decide (r ≤ distN v nv)) (stepB k inn v i o (distN v nv) r (decide (r ≤ distN v nv)) (part (inn id) (fun s => meetS k s (id, distN v nv)) st)) := by
  rw [belowF]
  by_cases h : r ≤ distN v nv
  · simp [h, stepB]
  · simp [h, stepB]
def Fm (k : Nat) (inn : Int → Bool) (v : List Int) (i o : VT) (d r : Int) (sd : Bool) (st : List (Int × Int) × Int) : Nat → List (Int × Int) × Int
  | 0 => st
  | 1 => stepB k inn v i o d r sd st
  | _ + 2 => stepB k inn v i o d r (!sd) (stepB k inn v i o d r sd st)
theorem Fm_succ (k : Nat) (inn : Int → Bool) (v : List Int) (i o : VT) (d r : Int) (sd : Bool) (st : List (Int × Int) × Int) : ∀ m, m < 2 → Fm k inn v i o d r sd st (m + 1) = stepB k inn v i o d r (if m = 0 then sd else !sd) (Fm k inn v i o d r sd st m)
  | 0, _ => rfl
  | 1, _ => rfl
  | _ + 2, h => by omega
theorem stepB_nil (k : Nat) (inn : Int → Bool) (v : List Int) (d r : Int) (out : Bool) (st : List (Int × Int) × Int) : stepB k inn v .nil .nil d r out st = st := by
  unfold stepB part
  cases out <;> simp [belowF]
theorem part_sorted {b : Bool} {f : List (Int × Int) × Int → List (Int × Int) × Int} {st : List (Int × Int) × Int} (h : Sorted st.1) (hf : ∀ s : List (Int × Int) × Int, Sorted s.1 → Sorted (f s).1) : Sorted (part b f st).1 := by
  unfold part
  split
  · exact hf st h
  · exact h
theorem belowF_sorted (k : Nat) (inn : Int → Bool) (v : List Int) : ∀ (T : VT) (st : List (Int × Int) × Int), Sorted st.1 → Sorted (belowF k inn v T st).1
  | .nil, st, h => h
  | .node id nv r i o, st, h => by
    have h1 : Sorted (part (inn id) (fun s => meetS k s (id, distN v nv)) st).1 := part_sorted h (fun s hs => meetL_sorted hs _)
    show Sorted (if r ≤ distN v nv then _ else _ : List (Int × Int) × Int).1
    split
    · exact part_sorted (part_sorted h1 (belowF_sorted k inn v o)) (belowF_sorted k inn v i)
    · exact part_sorted (part_sorted h1 (belowF_sorted k inn v i)) (belowF_sorted k inn v o)

theorem stepB_sorted (k : Nat) (inn : Int → Bool) (v : List Int) (i o : VT) (d r : Int) (out : Bool) (st : List (Int × Int) × Int) (h : Sorted st.1) : Sorted (stepB k inn v i o d r out st).1 := by
  unfold stepB
  split
  · exact part_sorted h (belowF_sorted k inn v o)
  · exact part_sorted h (belowF_sorted k inn v i)

theorem Fm_sorted (k : Nat) (inn : Int → Bool) (v : List Int) (i o : VT) (d r : Int) (sd : Bool) (st : List (Int × Int) × Int) (h : Sorted st.1) : ∀ m, Sorted (Fm k inn v i o d r sd st m).1
  | 0 => h
  | 1 => stepB_sorted _ _ _ _ _ _ _ _ _ h
  | _ + 2 => stepB_sorted _ _ _ _ _ _ _ _ _ (stepB_sorted _ _ _ _ _ _ _ _ _ h)

/-- The nodes' vectors are of so many numbers. -/
def VOK (n : Nat) : VT → Prop
  | .nil => True
  | .node id v r i o => isV v = true ∧ v.length = n ∧ (0 ≤ r ∧ r ≤ 1000000000000) ∧ (Lit.int .i64 id).wf = true ∧ VOK n i ∧ VOK n o

def Same (b : Nat) (W W' : World) : Prop := ∀ j, j < b → W'.heap[j]? = W.heap[j]?
theorem Same.kp {b : Nat} {W W' : World} (h : Same b W W') : Kp b W W' := fun j hj _ => h j hj
theorem Same.refl (b : Nat) (W : World) : Same b W W := fun _ _ => rfl
theorem Same.trans {b : Nat} {W W' W2 : World} (h : Same b W W') (k : Same b W' W2) : Same b W W2 := fun j hj => (k j hj).trans (h j hj)
/-- What a search sees besides its own box. -/
structure Sight (W : World) (b0 g mi : Nat) (V : Option Addr) (v : List Int) (inn : Int → Bool) : Prop where
  box : ∃ d r m, W.heap[g]? = some (.cells #[d, r, m, .map (some mi)] 69 (0, 0))
  gb : g < b0
  ins : ∃ ni, IMap Try.prog 3 W mi (inV inn) ni
  mib : mi < b0
  vec : Kd.C (Kd.int .i64) W V v.length v
  vb : ∀ ad, V = some ad → ad.block < b0
theorem Sight.same {W W' : World} {b0 g mi : Nat} {V : Option Addr} {v : List Int} {inn : Int → Bool} (h : Sight W b0 g mi V v inn) (hs : Same b0 W W') : Sight W' b0 g mi V v inn := by
  obtain ⟨⟨d, r, m, h1⟩, h2, ⟨ni, h3⟩, h4, h5, h6⟩ := h
  exact ⟨⟨d, r, m, (hs g h2).trans h1⟩, h2, ⟨ni, h3.move (hs mi h4)⟩, h4, C_block h5 (fun ad e => hs _ (h6 ad e)), h6⟩
theorem below_same {b0 : Nat} {W W' : World} (h : Below W.heap.size W W') (h3 : b0 ≤ W.heap.size) : Same b0 W W' := fun j hj => h.block j (by omega)

def BelowPost (W : World) (B q : Nat) (t : Value) (V : Option Addr) (vn vc k : Nat) (A : Option Addr) (st : List (Int × Int) × Int) (e : Ending) (w' : World) : Prop :=
  e = .returned (.tuple #[]) ∧ Met W B q t V vn vc k A st.2 st.1 w'
theorem Met.trans {W w1 w2 : World} {B q : Nat} {t : Value} {V : Option Addr} {vn vc k : Nat} {A A1 : Option Addr} {lim2 : Int} {l2 : List (Int × Int)} (ht : Turns (fun j => j = q ∨ A.map (·.block) = some j) W w1) (hn : ∀ j, A1.map (·.block) = some j → A.map (·.block) = some j ∨ W.heap.size ≤ j)
    (h2 : Met w1 B q t V vn vc k A1 lim2 l2 w2) : Met W B q t V vn vc k A lim2 l2 w2 := by
  obtain ⟨⟨A2, c2, hs, hn2⟩, ht2⟩ := h2
  refine ⟨⟨A2, c2, hs, fun j hj => ?_⟩, ⟨ht2.os.trans ht.os, ht2.tape.trans ht.tape, ht2.output.trans ht.output, Nat.le_trans ht.size ht2.size, fun j hj hnj => ?_⟩⟩
  · rcases hn2 j hj with e | e
    · exact hn j e
    · exact .inr (Nat.le_trans ht.size e)
  · refine (ht2.block j (Nat.lt_of_lt_of_le hj ht.size) (fun e => ?_)).trans (ht.block j hj hnj)
    rcases e with e | e
    · exact hnj (.inl e)
    · rcases hn j e with e | e
      · exact hnj (.inr e)
      · omega
theorem Met.of {W wD : World} {B q : Nat} {t : Value} {V : Option Addr} {vn vc k : Nat} {A : Option Addr} {c : Nat} {lim : Int} {l : List (Int × Int)} (hs : SearchAt W B q t V vn vc k lim A c l) (hb : Below W.heap.size W wD) : Met W B q t V vn vc k A lim l wD :=
  ⟨⟨A, c, hs.below hb, fun j h => .inl h⟩, Turns.of_below hb⟩

theorem met_same {W w1 : World} {B q b0 : Nat} {t : Value} {V : Option Addr} {vn vc k : Nat} {A : Option Addr} {c : Nat} {lim lim1 : Int} {l l1 : List (Int × Int)} (hs : SearchAt W B q t V vn vc k lim A c l) (h : Met W B q t V vn vc k A lim1 l1 w1) (h1 : b0 ≤ q) : Same b0 W w1 := fun j hj =>
  h.turns.block j (by have := hs.lt; omega) (fun e => by
    rcases e with e | e
    · omega
    · have := own_base hs.own j (by rw [own_blk]; exact e)
      have := hs.bq
      omega)
theorem eql_none_none (w : World) : (binOp .eql 65 (.pointer none) (.pointer none)).run Try.prog w = .ok (.bool true) w := by kernel_rfl
theorem eql_some_none (a : Addr) (w : World) : (binOp .eql 65 (.pointer (some a)) (.pointer none)).run Try.prog w = .ok (.bool false) w := by kernel_rfl
theorem eql_none_some (a : Addr) (w : World) : (binOp .eql 65 (.pointer none) (.pointer (some a))).run Try.prog w = .ok (.bool false) w := by kernel_rfl
theorem node_ptr {W : World} {b : Nat} : ∀ {T : VT} {p : Value}, NodeAt W b T p → p = .pointer none ∨ ∃ g cs, p = .pointer (some ⟨g, 0, none⟩) ∧ W.heap[g]? = some (.cells cs 104 (0, 0))
  | .nil, _, h => .inl h
  | .node id v r i o, _, h => by
    obtain ⟨g, val, pi, po, e, _, hb, _⟩ := h
    exact .inr ⟨g, _, e, hb⟩
theorem eql_nodes {W : World} {b : Nat} {T T' : VT} {p p' : Value} (h : NodeAt W b T p) (h' : NodeAt W b T' p') : (p = p' ∧ (binOp .eql 65 p p').run Try.prog W = .ok (.bool true) W) ∨ (p ≠ p' ∧ (binOp .eql 65 p p').run Try.prog W = .ok (.bool false) W) := by
  obtain ⟨j, hj, hsz⟩ : ∃ j, Try.prog.info? 104 = some j ∧ j.size ≠ 0 := by
    have h104 : (Try.prog.info? 104).map (·.size) = some 5 := by kernel_rfl
    cases e : Try.prog.info? 104 with
    | none => rw [e] at h104; cases h104
    | some j => rw [e] at h104; refine ⟨j, rfl, ?_⟩; simp at h104; omega
  rcases node_ptr h with rfl | ⟨g, cs, rfl, hb⟩
  · rcases node_ptr h' with rfl | ⟨g', cs', rfl, hb'⟩
    · exact .inl ⟨rfl, eql_none_none _⟩
    · exact .inr ⟨by simp, eql_none_some _ _⟩
  · rcases node_ptr h' with rfl | ⟨g', cs', rfl, hb'⟩
    · exact .inr ⟨by simp, eql_some_none _ _⟩
    · by_cases e : g = g'
      · subst e
        exact .inl ⟨rfl, run_eql_ptr_same W _ Try.underlying65 hj⟩
      · exact .inr ⟨by simp [e], run_eql_ptr_other W Try.underlying65 hj hsz (by simp [e]) hb hb'⟩
theorem met_row {w1 w2 : World} {B q rb : Nat} {t : Value} {V : Option Addr} {vn vc k : Nat} {A1 : Option Addr} {c1 : Nat} {lim1 lim2 : Int} {l1 l2 : List (Int × Int)} {cs : Array Value} (hs : SearchAt w1 B q t V vn vc k lim1 A1 c1 l1) (h : Met w1 B q t V vn vc k A1 lim2 l2 w2)
    (hb : w1.heap[rb]? = some (.cells cs 65 (0, 0))) : w2.heap[rb]? = some (.cells cs 65 (0, 0)) :=
  h.turns.keep hb (fun e => by
    rcases e with e | e
    · exact blk_ne hb hs.box (by decide) e
    · obtain ⟨cells, hc⟩ := own_typed hs.own rb (by rw [own_blk]; exact e)
      exact blk_ne hb hc (by decide) rfl)
theorem dist_range {a b : List Int} (ha : isV a = true) (hb : isV b = true) (hl : b.length = a.length) : 0 ≤ distN a b ∧ distN a b ≤ 68719476720 := by
  have h1 := distTo_range ha hb hl a.length (Nat.le_refl _)
  have h2 := (isV_len ha).2
  unfold distN
  omega
end Go.Proofs.Ytealiaafdkhonaa.Vp

namespace Go.Proofs.Ytealiaafdkhonaa.Vp
open Go.RowKit Go.Sort Mb Base Go.Proofs.YtealiaafdkhonaaW.PrintWords Go.Proofs.YtealiaafdkhonaaW.PrintLast Go.Proofs.YtealiaafdkhonaaW.PrintMore
set_option linter.unusedVariables false
set_option linter.unusedSimpArgs false

theorem below_nil (W : World) (u : Value) : Calls Try.prog 36 #[u, .pointer none] W fun e w' => e = .returned (.tuple #[]) ∧ W = w' := by
  have e1 := eql_none_none
  go_enter Try.func36, Try.ntmps36
  go_wp2
  refine bodyPost_ret (results_none rfl _ _ _) rfl ?_
  exact ⟨rfl, rfl⟩

set_option maxRecDepth 100000 in
set_option maxHeartbeats 4000000 in
theorem below_node (b0 B q g mi k : Nat) (V : Option Addr) (vc : Nat) (v : List Int) (inn : Int → Bool) (hk1 : 1 ≤ k) (hk2 : k ≤ 64) (hv : isV v = true) (hbq : b0 ≤ q) (hqB : q < B)
    (id : Int) (nv : List Int) (r : Int) (i o : VT) (hw : (Lit.int .i64 id).wf = true) (hO : VOK v.length (.node id nv r i o))
    (IHi : ∀ (W : World) (p : Value) (l : List (Int × Int)) (lim : Int) (A : Option Addr) (c : Nat), NodeAt W b0 i p → Sight W b0 g mi V v inn → SearchAt W B q (.pointer (some ⟨g, 0, none⟩)) V v.length vc k lim A c l → Sorted l → B ≤ W.heap.size →
      Calls Try.prog 36 #[.pointer (some ⟨q, 0, none⟩), p] W (BelowPost W B q (.pointer (some ⟨g, 0, none⟩)) V v.length vc k A (belowF k inn v i (l, lim))))
    (IHo : ∀ (W : World) (p : Value) (l : List (Int × Int)) (lim : Int) (A : Option Addr) (c : Nat), NodeAt W b0 o p → Sight W b0 g mi V v inn → SearchAt W B q (.pointer (some ⟨g, 0, none⟩)) V v.length vc k lim A c l → Sorted l → B ≤ W.heap.size →
      Calls Try.prog 36 #[.pointer (some ⟨q, 0, none⟩), p] W (BelowPost W B q (.pointer (some ⟨g, 0, none⟩)) V v.length vc k A (belowF k inn v o (l, lim))))
    (W : World) (p : Value) (l : List (Int × Int)) (lim : Int) (A : Option Addr) (c : Nat) (hN : NodeAt W b0 (.node id nv r i o) p) (hS : Sight W b0 g mi V v inn) (hs : SearchAt W B q (.pointer (some ⟨g, 0, none⟩)) V v.length vc k lim A c l) (hst : Sorted l) (hB : B ≤ W.heap.size) :
    Calls Try.prog 36 #[.pointer (some ⟨q, 0, none⟩), p] W (BelowPost W B q (.pointer (some ⟨g, 0, none⟩)) V v.length vc k A (belowF k inn v (.node id nv r i o) (l, lim))) := by
  have HN := Aside0.mk hN
  obtain ⟨ng, val, pi0, po0, rfl, hng, hnb, hval, hni, hno, hne⟩ := hN
  obtain ⟨pi, rfl⟩ : ∃ pi, pi0 = .pointer pi := by rcases node_ptr hni with e | ⟨_, _, e, _⟩ <;> exact ⟨_, e⟩
  obtain ⟨po, rfl⟩ : ∃ po, po0 = .pointer po := by rcases node_ptr hno with e | ⟨_, _, e, _⟩ <;> exact ⟨_, e⟩
  obtain ⟨A2, c2, rfl, hC2, hA2⟩ := hval.form (by have := (isV_len hO.1).2; omega)
  have HD := Aside0.mk (fun (W' : World) (h1 : Kd.C (Kd.int .i64) W' V v.length v) (h2 : Kd.C (Kd.int .i64) W' A2 nv.length nv) => dist_calls V A2 vc c2 v nv W' h1 h2 hv hO.1 hO.2.1)
  have hdr := dist_range hv hO.1 hO.2.1
  obtain ⟨r1, r2⟩ := hO.2.2.1
  obtain ⟨d, hd⟩ : ∃ d, distN v nv = d := ⟨_, rfl⟩
  have HDE := Aside0.mk hd
  rw [hd] at HD hdr
  obtain ⟨d1, d2⟩ := hdr
  have HSI := Aside0.mk hS
  have HSE := Aside0.mk hs
  have HST := Aside0.mk hst
  have HC2 := Aside0.mk hC2
  have HA2 := Aside0.mk hA2
  have HNI := Aside0.mk hni
  have HNO := Aside0.mk hno
  have HNE := Aside0.mk hne
  have HNB := Aside0.mk hnb
  have HIHI := Aside0.mk IHi
  have HIHO := Aside0.mk IHo
  have HOK := Aside0.mk hO
  have HWF := Aside0.mk hw
  have x1 : W.cell? ⟨q, 1, none⟩ = some (.slice V v.length vc) := (blk_cell hs.box 1).trans rfl
  have y1 : W.cell? ⟨ng, 1, none⟩ = some (.slice A2 nv.length c2) := (blk_cell hnb 1).trans rfl
  have e1 := eql_some_none ⟨ng, 0, none⟩
  have hqW := hs.lt
  obtain ⟨vn, hvn⟩ : ∃ vn, v.length = vn := ⟨_, rfl⟩
  have HVN := Aside0.mk hvn
  obtain ⟨nn, hnn⟩ : ∃ nn, nv.length = nn := ⟨_, rfl⟩
  have HNN := Aside0.mk hnn
  rw [hvn] at x1 HD HSE
  rw [hnn] at y1 HD
  rw [hvn]
  have HD2 : Aside0 (Calls Try.prog 35 #[.slice V vn vc, .slice A2 nn c2] W.drew fun e w' => e = .returned (.int .i64 d) ∧ Below W.drew.heap.size W.drew w') := ⟨HD.out _ (Kd.C_below (hvn ▸ hS.vec) (below_drew1 (Below.refl _ _))) (Kd.C_below (hnn ▸ hC2) (below_drew1 (Below.refl _ _)))⟩
  clear hS hs hst hC2 hA2 hni hno hne hnb IHi IHo hO hw hd hval hvn hnn
  go_enter Try.func36, Try.ntmps36
  go_upto_region 1 with (fail)
  go_cut [4] (fun v4 wc => v4 = .int .i64 d ∧ Aside0 (Below W.heap.size W wc))
  case first =>
    go_region_held3 (fun w' => w'.cell? ⟨q, 1, none⟩ = some (.slice V vn vc) ∧ w'.cell? ⟨ng, 1, none⟩ = some (.slice A2 nn c2))
      (first | (go_split_ands; refine ⟨?_, ?_⟩ <;> assumption) | (go_split_ands; refine ⟨?_, ?_⟩ <;> (refine pw_cell_below hb9 ?_; assumption)) | (go_keep; done))
      ((go_at_call 35; refine HD2.out.mono ?_; rintro e w9 ⟨rfl, hb9⟩))
    all_goals (go_wp2_with fail; go_meet; exact ⟨rfl, ⟨below_step (below_drew1 (Below.refl W.heap.size W)) hb9⟩⟩)
  case rest =>
    obtain ⟨rfl, HBC⟩ := hcut
    have HS1 : Aside0 (Same b0 W wc) := ⟨below_same HBC.out (by omega)⟩
    have HSEC := Aside0.mk (HSE.out.below HBC.out)
    have HSIC := Aside0.mk (HSI.out.same HS1.out)
    have HNBC := Aside0.mk ((HS1.out ng hng).trans HNB.out)
    obtain ⟨⟨dm, rt, mm, hbox⟩, _, ⟨ni, hins⟩, _, _, _⟩ := HSIC.out
    have z0 : wc.cell? ⟨q, 0, none⟩ = some (.pointer (some ⟨g, 0, none⟩)) := (blk_cell HSEC.out.box 0).trans rfl
    have z3 : wc.cell? ⟨g, 3, none⟩ = some (.map (some mi)) := (blk_cell hbox 3).trans rfl
    have n0 : wc.cell? ⟨ng, 0, none⟩ = some (.int .i64 id) := (blk_cell HNBC.out 0).trans rfl
    obtain ⟨b, hb⟩ : ∃ b, inn id = b := ⟨_, rfl⟩
    have lk : ∀ m, (Instr.lookup 67 (.map (some mi)) (.int .i64 id) false).run Try.prog (wc.drewN m) = .ok (.bool b) (wc.drewN m) := fun m => by
      have := (hins.drewN m).look law Try.underlying3 Try.underlying67 (zero4 _) id HWF.out
      rw [show (inV inn id).getD (.bool false) = .bool b by unfold inV; rw [hb]; cases b <;> rfl] at this
      exact this
    have HBB := Aside0.mk hb
    clear hbox hins hb x1 y1
    go_upto_region 2 with (fail)
    go_quiet (fail)
    go_upto_if 33 with (fail)
    obtain ⟨st1, hst1⟩ : ∃ st1, part b (fun s => meetS k s (id, d)) (l, lim) = st1 := ⟨_, rfl⟩
    have HST1 := Aside0.mk hst1
    clear hst1
    go_cut [] (fun w2 => Aside0 (Met W B q (.pointer (some ⟨g, 0, none⟩)) V vn vc k A st1.2 st1.1 w2))
    case first =>
      have HBW := Aside0.mk (pw_below_drewN HBC.out nq)
      have HSD := Aside0.mk (HSEC.out.below (pw_below_drewN (Below.refl _ _) nq))
      have HSZ : Aside0 (B ≤ (wc.drewN nq).heap.size) := ⟨by have := HBC.out.size; show B ≤ wc.heap.size; omega⟩
      have n0' : (wc.drewN nq).cell? ⟨ng, 0, none⟩ = some (.int .i64 id) := n0
      clear lk z0 z3 n0
      generalize wc.drewN nq = wd at *
      cases b
      · go_wp2_with fail
        go_meet
        exact ⟨by rw [← HST1.out]; exact Met.of HSE.out HBW.out⟩
      · go_wp2_with (go_at_call 34; refine (meets_calls wd B q (.pointer (some ⟨g, 0, none⟩)) V vn vc k lim A c l HSD.out HST.out HSZ.out hk1 hk2 id d).mono ?_; rintro e w9 ⟨rfl, hm⟩; have HM := Aside0.mk hm; clear hm)
        go_meet
        exact ⟨by rw [← HST1.out]; exact Met.trans (Turns.of_below HBW.out) (fun j h => .inl h) HM.out⟩
    case rest =>
      have HMET := hcut
      clear hcut lk z0 z3 n0
      have HSO1 : Aside0 (Sorted st1.1) := ⟨by rw [← HST1.out]; exact part_sorted HST.out (fun s hs => meetL_sorted hs _)⟩
      go_upto_region 4 with (fail)
      have HSM := Aside0.mk (met_same HSE.out HMET.out hbq)
      have hnb2 := (HSM.out ng hng).trans HNB.out
      have n2 : wc.cell? ⟨ng, 2, none⟩ = some (.int .i64 r) := (blk_cell hnb2 2).trans rfl
      have n3 : wc.cell? ⟨ng, 3, none⟩ = some (.pointer pi) := (blk_cell hnb2 3).trans rfl
      have n4 : wc.cell? ⟨ng, 4, none⟩ = some (.pointer po) := (blk_cell hnb2 4).trans rfl
      clear hnb2
      go_quiet (fail)
      go_upto_region 5 with (fail)
      have n2' : (wc.drewN nq).cell? ⟨ng, 2, none⟩ = some (.int .i64 r) := n2
      have HMED : Aside0 (Met W B q (.pointer (some ⟨g, 0, none⟩)) V vn vc k A st1.2 st1.1 (wc.drewN nq)) := ⟨by
        obtain ⟨A1, c1, hs1, hn1⟩ := HMET.out.here
        exact Met.trans HMET.out.turns hn1 (Met.of hs1 (pw_below_drewN (Below.refl _ _) nq))⟩
      clear n2 n3 n4 HSM HMET
      generalize wc.drewN nq = w3 at *
      go_upto_if 55 with (fail)
      go_cut [5, 6] (fun u5 u6 w4 => w4 = w3 ∧ u5 = .pointer (if decide (r ≤ d) = true then po else pi) ∧ u6 = .pointer (if decide (r ≤ d) = true then pi else po))
      case first =>
        by_cases hrd : r ≤ d
        · go_wp2_with fail
          go_meet
          exact ⟨rfl, by rw [if_pos (decide_eq_true hrd)], by rw [if_pos (decide_eq_true hrd)]⟩
        · go_wp2_with fail
          go_meet
          exact ⟨rfl, by rw [if_neg (by simpa using hrd)], by rw [if_neg (by simpa using hrd)]⟩
      case rest =>
        obtain ⟨rfl, h5, h6⟩ := hcut
        obtain ⟨sd, hsd⟩ : ∃ sd, decide (r ≤ d) = sd := ⟨_, rfl⟩
        rw [hsd] at h5 h6
        have HSD := Aside0.mk hsd
        obtain ⟨x5, hx5⟩ : ∃ x5, (if sd = true then po else pi) = x5 := ⟨_, rfl⟩
        obtain ⟨x6, hx6⟩ : ∃ x6, (if sd = true then pi else po) = x6 := ⟨_, rfl⟩
        rw [hx5] at h5
        rw [hx6] at h6
        subst h5
        subst h6
        have HX5 := Aside0.mk hx5
        have HX6 := Aside0.mk hx6
        have HWCB : Aside0 (B ≤ wc.heap.size) := ⟨by have := HMED.out.turns.size; omega⟩
        have HFIN : Aside0 (Fm k inn v i o d r sd st1 2 = belowF k inn v (.node id nv r i o) (l, lim)) := ⟨by
          rw [belowF_node, HDE.out, hsd, HBB.out, HST1.out]; rfl⟩
        have HROW0 := Aside0.mk (blk_new wc (.cells #[.pointer x5, .pointer x6] 65))
        have HMT0 : Aside0 (Met W B q (.pointer (some ⟨g, 0, none⟩)) V vn vc k A st1.2 st1.1 (wc.alloc (.cells #[.pointer x5, .pointer x6] 65))) := ⟨by
          obtain ⟨A1, c1, hs1, hn1⟩ := HMED.out.here
          exact Met.trans HMED.out.turns hn1 (Met.of hs1 (below_alloc (Below.refl _ _) _))⟩
        clear hsd hx5 hx6 n2'
        go_wp2_with fail
        generalize wc.heap.size = rb at *
        go_loopw [62] (fun z wr => ∃ m : Nat, z = .int .i64 m ∧ m ≤ 2 ∧ Aside0 (wr.heap[rb]? = some (.cells #[.pointer x5, .pointer x6] 65 (0, 0))) ∧ Aside0 (Met W B q (.pointer (some ⟨g, 0, none⟩)) V vn vc k A (Fm k inn v i o d r sd st1 m).2 (Fm k inn v i o d r sd st1 m).1 wr)) (fun z _ => 2 - (intOf z).toNat)
        case atStart => exact ⟨0, rfl, by omega, HROW0, HMT0⟩
        case round =>
          obtain ⟨m, rfl, hm2, HROW, HMT⟩ := hrel
          by_cases hm : m < 2
          · have hmi : (m : Int) < 2 := by omega
            have hm0 : (0 : Int) ≤ (m : Int) := by omega
            obtain ⟨st, hst⟩ : ∃ st, Fm k inn v i o d r sd st1 m = st := ⟨_, rfl⟩
            obtain ⟨out, hout⟩ : ∃ out, (if m = 0 then sd else !sd) = out := ⟨_, rfl⟩
            have HFS : Aside0 (Fm k inn v i o d r sd st1 (m + 1) = stepB k inn v i o d r out st) := ⟨by rw [Fm_succ _ _ _ _ _ _ _ _ _ m hm, hst, hout]⟩
            have HSRT : Aside0 (Sorted st.1) := ⟨by rw [← hst]; exact Fm_sorted _ _ _ _ _ _ _ _ _ HSO1.out m⟩
            rw [hst] at HMT
            obtain ⟨A1, c1, hs2, hn1⟩ := HMT.out.here
            have HS2 := Aside0.mk hs2
            have HN1 := Aside0.mk hn1
            obtain ⟨x, hx, hxx⟩ : ∃ x, wr.cell? ⟨rb, m, none⟩ = some (.pointer x) ∧ x = if out = true then po else pi := by
              rcases Nat.eq_zero_or_pos m with h0 | h0
              · subst h0
                refine ⟨x5, (blk_cell HROW.out 0).trans rfl, ?_⟩
                rw [← HX5.out, ← hout]; rfl
              · obtain rfl : m = 1 := by omega
                refine ⟨x6, (blk_cell HROW.out 1).trans rfl, ?_⟩
                rw [← HX6.out, ← hout]; cases sd <;> rfl
            have HSM := Aside0.mk (met_same HSE.out HMT.out hbq)
            have hnb2 := (HSM.out ng hng).trans HNB.out
            have n2 : wr.cell? ⟨ng, 2, none⟩ = some (.int .i64 r) := (blk_cell hnb2 2).trans rfl
            have n3 : wr.cell? ⟨ng, 3, none⟩ = some (.pointer pi) := (blk_cell hnb2 3).trans rfl
            have n4 : wr.cell? ⟨ng, 4, none⟩ = some (.pointer po) := (blk_cell hnb2 4).trans rfl
            have x3 : wr.cell? ⟨q, 3, none⟩ = some (.int .i64 st.2) := (blk_cell hs2.box 3).trans rfl
            obtain ⟨lm, hlm⟩ : ∃ lm, st.2 = lm := ⟨_, rfl⟩
            have HLM := Aside0.mk hlm
            rw [hlm] at x3
            have HNIr := Aside0.mk (HNI.out.keep HSM.out.kp)
            have HNOr := Aside0.mk (HNO.out.keep HSM.out.kp)
            have HSIr := Aside0.mk (HSI.out.same HSM.out)
            have HBr : Aside0 (B ≤ wr.heap.size) := ⟨by have := HMT.out.turns.size; omega⟩
            have HSAME : Aside0 (∀ n, Same b0 wr (wr.drewN n)) := ⟨fun n j hj => rfl⟩
            clear hnb2 hlm hs2 hn1 hst hout
            by_cases hpp : pi = po
            · obtain ⟨rfl, rfl⟩ := HNE.out (by rw [hpp])
              have hpi : pi = none := by have := HNI.out; injection this
              subst hpi
              subst hpp
              have hxn : x = none := by rw [hxx]; cases out <;> rfl
              subst hxn
              have HST2 : Aside0 (stepB k inn v .nil .nil d r out st = st) := ⟨stepB_nil _ _ _ _ _ _ _⟩
              rw [HST2.out] at HFS
              have e3 := eql_none_none
              have HCALL : Aside0 (∀ n, Calls Try.prog 36 #[.pointer (some ⟨q, 0, none⟩), .pointer none] (wr.drewN n) (BelowPost (wr.drewN n) B q (.pointer (some ⟨g, 0, none⟩)) V vn vc k A1 st)) := ⟨fun n => (below_nil (wr.drewN n) _).mono fun e w' hh => ⟨hh.1, by
                rw [← hh.2]; exact Met.of (HS2.out.below (pw_below_drewN (Below.refl _ _) n)) (Below.refl _ _)⟩⟩
              clear hxx
              by_cases hA : d - r ≤ lm
              · skip
                go_wp2_with fail
                go_quiet (fail)
                go_wp2_with (go_at_call 36; refine (HCALL.out _).mono ?_; rintro e w9 ⟨rfl, hm⟩; have HMM := Aside0.mk hm; clear hm)
                go_roundw
                case rel => exact ⟨m + 1, by go_num, by omega, ⟨met_row (HS2.out.below (pw_below_drewN (Below.refl _ _) nq)) HMM.out (blk_drewN HROW.out nq)⟩, ⟨by rw [HFS.out]; exact Met.trans (HMT.out.turns.drewN nq) HN1.out HMM.out⟩⟩
                case measure => simp [intOf]; omega
              · have hA' : decide (d - r ≤ lm) = false := decide_eq_false hA
                by_cases hB2 : r - d ≤ lm
                · skip
                  go_wp2_with fail
                  go_quiet (fail)
                  go_wp2_with (go_at_call 36; refine (HCALL.out _).mono ?_; rintro e w9 ⟨rfl, hm⟩; have HMM := Aside0.mk hm; clear hm)
                  go_roundw
                  case rel => exact ⟨m + 1, by go_num, by omega, ⟨met_row (HS2.out.below (pw_below_drewN (Below.refl _ _) nq)) HMM.out (blk_drewN HROW.out nq)⟩, ⟨by rw [HFS.out]; exact Met.trans (HMT.out.turns.drewN nq) HN1.out HMM.out⟩⟩
                  case measure => simp [intOf]; omega
                · have hB3 : decide (r - d ≤ lm) = false := decide_eq_false hB2
                  go_wp2_with fail
                  go_quiet (fail)
                  go_wp2_with fail
                  go_roundw
                  case rel => exact ⟨m + 1, by go_num, by omega, ⟨blk_drewN HROW.out nq⟩, ⟨by rw [HFS.out]; exact Met.trans HMT.out.turns HN1.out (Met.of HS2.out (pw_below_drewN (Below.refl _ _) nq))⟩⟩
                  case measure => simp [intOf]; omega
            · cases out
              · rw [if_neg (by simp)] at hxx
                subst hxx
                have e3 : ∀ n, (binOp .eql 65 (.pointer x) (.pointer x)).run Try.prog (wr.drewN n) = .ok (.bool true) (wr.drewN n) := fun n => by
                  rcases eql_nodes (HNIr.out.keep (HSAME.out n).kp) (HNIr.out.keep (HSAME.out n).kp) with h | h
                  · exact h.2
                  · exact absurd rfl h.1
                have e4 : ∀ n, (binOp .eql 65 (.pointer x) (.pointer po)).run Try.prog (wr.drewN n) = .ok (.bool false) (wr.drewN n) := fun n => by
                  rcases eql_nodes (HNIr.out.keep (HSAME.out n).kp) (HNOr.out.keep (HSAME.out n).kp) with h | h
                  · exact absurd (by have := h.1; injection this) hpp
                  · exact h.2
                clear hpp
                by_cases hA : d - r ≤ lm
                · have HST2 : Aside0 (stepB k inn v i o d r false st = belowF k inn v i st) := ⟨by unfold stepB part okIn; rw [if_neg (by simp), HLM.out, if_pos (decide_eq_true hA)]⟩
                  rw [HST2.out] at HFS
                  have HCALL : Aside0 (∀ n, Calls Try.prog 36 #[.pointer (some ⟨q, 0, none⟩), .pointer x] (wr.drewN n) (BelowPost (wr.drewN n) B q (.pointer (some ⟨g, 0, none⟩)) V vn vc k A1 (belowF k inn v i st))) := ⟨fun n => by
                    have := HIHI.out (wr.drewN n) (.pointer x) st.1 st.2 A1 c1 (HNIr.out.keep (HSAME.out n).kp) (HSIr.out.same (HSAME.out n)) (by rw [HVN.out]; exact HS2.out.below (pw_below_drewN (Below.refl _ _) n)) HSRT.out HBr.out
                    rw [HVN.out] at this
                    exact this⟩
                  go_wp2_with fail
                  go_quiet (fail)
                  go_wp2_with (go_at_call 36; refine (HCALL.out _).mono ?_; rintro e w9 ⟨rfl, hm⟩; have HMM := Aside0.mk hm; clear hm)
                  go_roundw
                  case rel => exact ⟨m + 1, by go_num, by omega, ⟨met_row (HS2.out.below (pw_below_drewN (Below.refl _ _) nq)) HMM.out (blk_drewN HROW.out nq)⟩, ⟨by rw [HFS.out]; exact Met.trans (HMT.out.turns.drewN nq) HN1.out HMM.out⟩⟩
                  case measure => simp [intOf]; omega
                · have HST2 : Aside0 (stepB k inn v i o d r false st = st) := ⟨by unfold stepB part okIn; rw [if_neg (by simp), HLM.out, if_neg (by simpa using hA)]⟩
                  rw [HST2.out] at HFS
                  have hA' := decide_eq_false hA
                  go_wp2_with fail
                  go_quiet (fail)
                  go_wp2_with fail
                  go_roundw
                  case rel => exact ⟨m + 1, by go_num, by omega, ⟨blk_drewN HROW.out nq⟩, ⟨by rw [HFS.out]; exact Met.trans HMT.out.turns HN1.out (Met.of HS2.out (pw_below_drewN (Below.refl _ _) nq))⟩⟩
                  case measure => simp [intOf]; omega
              · rw [if_pos rfl] at hxx
                subst hxx
                have e3 : ∀ n, (binOp .eql 65 (.pointer x) (.pointer pi)).run Try.prog (wr.drewN n) = .ok (.bool false) (wr.drewN n) := fun n => by
                  rcases eql_nodes (HNOr.out.keep (HSAME.out n).kp) (HNIr.out.keep (HSAME.out n).kp) with h | h
                  · exact absurd (by have := h.1; injection this with this; exact this.symm) hpp
                  · exact h.2
                have e4 : ∀ n, (binOp .eql 65 (.pointer x) (.pointer x)).run Try.prog (wr.drewN n) = .ok (.bool true) (wr.drewN n) := fun n => by
                  rcases eql_nodes (HNOr.out.keep (HSAME.out n).kp) (HNOr.out.keep (HSAME.out n).kp) with h | h
                  · exact h.2
                  · exact absurd rfl h.1
                clear hpp
                by_cases hA : r - d ≤ lm
                · have HST2 : Aside0 (stepB k inn v i o d r true st = belowF k inn v o st) := ⟨by unfold stepB part okOut; rw [if_pos rfl, HLM.out, if_pos (decide_eq_true hA)]⟩
                  rw [HST2.out] at HFS
                  have HCALL : Aside0 (∀ n, Calls Try.prog 36 #[.pointer (some ⟨q, 0, none⟩), .pointer x] (wr.drewN n) (BelowPost (wr.drewN n) B q (.pointer (some ⟨g, 0, none⟩)) V vn vc k A1 (belowF k inn v o st))) := ⟨fun n => by
                    have := HIHO.out (wr.drewN n) (.pointer x) st.1 st.2 A1 c1 (HNOr.out.keep (HSAME.out n).kp) (HSIr.out.same (HSAME.out n)) (by rw [HVN.out]; exact HS2.out.below (pw_below_drewN (Below.refl _ _) n)) HSRT.out HBr.out
                    rw [HVN.out] at this
                    exact this⟩
                  go_wp2_with fail
                  go_quiet (fail)
                  go_wp2_with (go_at_call 36; refine (HCALL.out _).mono ?_; rintro e w9 ⟨rfl, hm⟩; have HMM := Aside0.mk hm; clear hm)
                  go_roundw
                  case rel => exact ⟨m + 1, by go_num, by omega, ⟨met_row (HS2.out.below (pw_below_drewN (Below.refl _ _) nq)) HMM.out (blk_drewN HROW.out nq)⟩, ⟨by rw [HFS.out]; exact Met.trans (HMT.out.turns.drewN nq) HN1.out HMM.out⟩⟩
                  case measure => simp [intOf]; omega
                · have HST2 : Aside0 (stepB k inn v i o d r true st = st) := ⟨by unfold stepB part okOut; rw [if_pos rfl, HLM.out, if_neg (by simpa using hA)]⟩
                  rw [HST2.out] at HFS
                  have hA' := decide_eq_false hA
                  go_wp2_with fail
                  go_quiet (fail)
                  go_wp2_with fail
                  go_roundw
                  case rel => exact ⟨m + 1, by go_num, by omega, ⟨blk_drewN HROW.out nq⟩, ⟨by rw [HFS.out]; exact Met.trans HMT.out.turns HN1.out (Met.of HS2.out (pw_below_drewN (Below.refl _ _) nq))⟩⟩
                  case measure => simp [intOf]; omega
          · obtain rfl : m = 2 := by omega
            have hmi : ¬ ((2 : Nat) : Int) < 2 := by omega
            go_wp2_with fail
            refine bodyPost_end (results_none rfl _ _ _) rfl ?_
            refine ⟨rfl, ?_⟩
            rw [← HFIN.out]
            exact HMT.out

theorem below_calls (b0 B q g mi k : Nat) (V : Option Addr) (vc : Nat) (v : List Int) (inn : Int → Bool) (hk1 : 1 ≤ k) (hk2 : k ≤ 64) (hv : isV v = true) (hbq : b0 ≤ q) (hqB : q < B) :
    ∀ (T : VT), VOK v.length T → ∀ (W : World) (p : Value) (l : List (Int × Int)) (lim : Int) (A : Option Addr) (c : Nat), NodeAt W b0 T p → Sight W b0 g mi V v inn → SearchAt W B q (.pointer (some ⟨g, 0, none⟩)) V v.length vc k lim A c l → Sorted l → B ≤ W.heap.size →
      Calls Try.prog 36 #[.pointer (some ⟨q, 0, none⟩), p] W (BelowPost W B q (.pointer (some ⟨g, 0, none⟩)) V v.length vc k A (belowF k inn v T (l, lim)))
  | .nil, _, W, p, l, lim, A, c, hN, hS, hs, hst, hB => by
    have hp : p = .pointer none := hN
    subst hp
    exact (below_nil W _).mono fun e w' hh => ⟨hh.1, by rw [← hh.2]; exact Met.of hs (Below.refl _ _)⟩
  | .node id nv r i o, hO, W, p, l, lim, A, c, hN, hS, hs, hst, hB =>
    below_node b0 B q g mi k V vc v inn hk1 hk2 hv hbq hqB id nv r i o hO.2.2.2.1 hO
      (fun W p l lim A c => below_calls b0 B q g mi k V vc v inn hk1 hk2 hv hbq hqB i hO.2.2.2.2.1 W p l lim A c)
      (fun W p l lim A c => below_calls b0 B q g mi k V vc v inn hk1 hk2 hv hbq hqB o hO.2.2.2.2.2 W p l lim A c) W p l lim A c hN hS hs hst hB
end Go.Proofs.Ytealiaafdkhonaa.Vp
