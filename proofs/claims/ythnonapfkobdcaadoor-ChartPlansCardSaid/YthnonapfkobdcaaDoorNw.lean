/- A ring is made: New. -/
import Derived.Test.YthnonapfkobdcaaDoorSr
namespace Go.Proofs.YthnonapfkobdcaaDoor.Ri
open Go.RowKit Cr Rg Mb Go.Proofs.YthnonapfkobdcaaDoorW.PrintWords Go.Proofs.YthnonapfkobdcaaDoorW.PrintLast Go.Proofs.YthnonapfkobdcaaDoorW.PrintMore
set_option linter.unusedVariables false
set_option linter.unusedSimpArgs false
noncomputable def nw13.T : Bool × List (List Nat × List Nat) := rtab .any (opsOf Tryd.f16 13)
def nw13.B : List Nat := [0, 0, 2, 6, 14, 0, 0, 96, 0, 480, 992, 2046, 4095, 8191, 16383]
theorem nw13.tab : rtab .any (opsOf Tryd.f16 13) = nw13.T := rfl
theorem nw13.bits : waitsOk nw13.T.2 nw13.B = true := by kernel_rfl

theorem step_append_mine {P : Program} {ops : Array Oper} {o : Oper} {a : Act} {w : World} {K : Act → World → Prop} {Q : Exit → Act → World → Prop} {E : Prop}
    (hgd : o.guard = none) (s x : Operand) (t : TypeId) (ho : o.op = Op.call { callee := Callee.builtin Builtin.append, args := #[s, x], argTypes := #[t, t] })
    (base : Nat) (e : TypeId) (i : TypeInfo) (z : Value) (size bytes : Nat) (ht : P.underlying t = some (.slice e)) (hi : P.info? e = some i) (hz : i.zero = some z) (hsize : i.size = size) (hby : i.bytes = bytes) (hzs : z.cells.size = size) (hsz : 0 < size)
    (v : Value) (n : Nat) (xs : List Value) (hs : a.eval s = v) (hown : w.ownsRow base e size v n xs)
    (ad : Addr) (m c : Nat) (news : List Value) (hx : a.eval x = .slice (some ad) m c) (hl : news.length = m * size) (hnews : ∀ j u, news[j]? = some u → w.cell? (ad.add j) = some u) (h1 : ∀ u ∈ news, u.oneCell' = true)
    (N : Nat) (hN : n + m = N) (h63 : N ≤ maxLen) (hbytes : N * bytes ≤ 140737488355328) (hbase : base ≤ w.heap.size)
    (hK : ∀ A' c' w', w'.ownsRow base e size (.slice A' N c') N (xs ++ news) → w.grownBy w' v.ownBlock → ((Value.slice A' N c').ownBlock = v.ownBlock ∨ (Value.slice A' N c').ownBlock = some w.heap.size) → K (a.put o.dst (.slice A' N c')) w') :
    if Region.wanted o (yielded ops a.tmps) = true then Oper.wp P o a w K Q else E := by
  subst hN
  have hw : Region.wanted o (yielded ops a.tmps) = true := by simp [Region.wanted, hgd]
  rw [if_pos hw]
  obtain ⟨v', w', hrun, r1, r2, _, r4⟩ := run_append_own_at (P := P) (w := w) base t o.type e i z size bytes ht hi hz hsize hby hzs hsz v n xs hown ad m c news hl hnews h1 h63 hbytes hbase
  obtain ⟨A', c', rfl⟩ := own_slice r1
  unfold Oper.wp
  simp [execOp, ho, resolve, invoke, builtin, hs, hx, hrun, Result.andThen]
  exact hK A' c' w' r1 r2 r4

theorem law3 : Maps.Keyed Tryd.prog 3 := Maps.int_keyed Tryd.underlying3
theorem zero4 (w : World) : (zeroValue 4).run Tryd.prog w = .ok (.bool false) w := by kernel_rfl
theorem info74 : (Tryd.prog.info? 74).map (fun i => (i.zero, i.size, i.bytes)) = some (some (.agg #[.int .i64 0, .int .i64 0]), 2, 16) := by kernel_rfl
theorem wf_of {x : Int} (h1 : -9223372036854775808 ≤ x) (h2 : x ≤ 9223372036854775807) : (Lit.int .i64 x).wf = true := by
  unfold Lit.wf
  rw [Bool.and_eq_true, decide_eq_true_eq, decide_eq_true_eq]
  exact ⟨h1, h2⟩

def marks (ns : List Int) : Int → Option Value := fun x => if x ∈ ns then some (.bool true) else none
def spN (n : Int) (k : Nat) : Int := spot kNode n.toNat k
def part (a j : Nat) : List (Int × Int) := (List.range j).map fun k => (spot kNode a k, (a : Int))
theorem part_len (a j : Nat) : (part a j).length = j := by simp [part]
theorem part_succ (a j : Nat) : part a (j + 1) = part a j ++ [(spot kNode a j, (a : Int))] := by simp [part, List.range_succ]
theorem prs_step (l : List (Int × Int)) (a j : Nat) : prs (l ++ part a j) ++ [.int .i64 (spot kNode a j), .int .i64 (a : Int)] = prs (l ++ part a (j + 1)) := by
  rw [part_succ, ← List.append_assoc, prs_app (l ++ part a j)]; rfl
theorem raw_take {xs : List Int} {i : Nat} (hi : i < xs.length) (a : Nat) (ha : xs[i] = (a : Int)) (places : Nat) : raw spN (xs.take (i + 1)) places = raw spN (xs.take i) places ++ part a places := by
  rw [← List.take_append_getElem hi, raw_app, ha]; rfl
/-- Nodes that a ring takes: each from 0 to 7, none twice. -/
structure Nodes (ns : List Int) : Prop where
  range : ∀ n ∈ ns, 0 ≤ n ∧ n < 8
  nodup : ns.Nodup
theorem Nodes.take {ns : List Int} (h : Nodes ns) (i : Nat) : Nodes (ns.take i) := ⟨fun n hn => h.range n (List.mem_of_mem_take hn), h.nodup.sublist (List.take_sublist _ _)⟩
theorem nodup_len : ∀ (m : Nat) (ns : List Int), ns.Nodup → (∀ n ∈ ns, 0 ≤ n ∧ n < (m : Int)) → ns.length ≤ m
  | 0, ns, _, h => by
    cases ns with
    | nil => simp
    | cons a t => have := h a (by simp); omega
  | m + 1, ns, hd, h => by
    by_cases hm : (m : Int) ∈ ns
    · have h1 := nodup_len m (ns.erase (m : Int)) (hd.erase _) (fun n hn => by
        have h2 := (hd.mem_erase_iff).1 hn
        have h3 := h n h2.2
        have h4 := h2.1
        omega)
      rw [List.length_erase_of_mem hm] at h1
      omega
    · have := nodup_len m ns hd (fun n hn => by
        have h1 := h n hn
        have h2 : n ≠ (m : Int) := fun e => hm (e ▸ hn)
        omega)
      omega
theorem Nodes.len {ns : List Int} (h : Nodes ns) : ns.length ≤ 8 := nodup_len 8 ns h.nodup h.range

/-- A ring under way. -/
structure NewAt (base : Nat) (W : World) (p bm : Nat) (ns : List Int) (A : Option Addr) (cap : Nat) (l : List (Int × Int)) : Prop where
  box : W.heap[p]? = some (.cells #[.bool true, .map (some bm), .slice A l.length cap] 56 (0, 0))
  mp : IMap Tryd.prog 3 W bm (marks ns) ns.length
  own : W.ownsRow base 74 2 (.slice A l.length cap) l.length (prs l)
  bp : base ≤ p
  bbm : base ≤ bm
  pbm : p ≠ bm
  ap : ∀ k, (Value.slice A l.length cap).ownBlock = some k → k ≠ p ∧ k ≠ bm
theorem NewAt.same {base : Nat} {W W' : World} {p bm : Nat} {ns : List Int} {A : Option Addr} {cap : Nat} {l : List (Int × Int)} (h : NewAt base W p bm ns A cap l) (hb : Below W.heap.size W W') : NewAt base W' p bm ns A cap l :=
  ⟨(hb.block p (blk_lt h.box)).trans h.box, h.mp.below hb, own_move h.own (fun k hk => hb.block k (own_lt h.own k hk)), h.bp, h.bbm, h.pbm, h.ap⟩
theorem NewAt.c0 {base : Nat} {W : World} {p bm : Nat} {ns : List Int} {A : Option Addr} {cap : Nat} {l : List (Int × Int)} (h : NewAt base W p bm ns A cap l) : W.cell? ⟨p, 0, none⟩ = some (.bool true) := (blk_cell h.box 0).trans rfl
theorem NewAt.c1 {base : Nat} {W : World} {p bm : Nat} {ns : List Int} {A : Option Addr} {cap : Nat} {l : List (Int × Int)} (h : NewAt base W p bm ns A cap l) : W.cell? ⟨p, 1, none⟩ = some (.map (some bm)) := (blk_cell h.box 1).trans rfl
theorem NewAt.c2 {base : Nat} {W : World} {p bm : Nat} {ns : List Int} {A : Option Addr} {cap : Nat} {l : List (Int × Int)} (h : NewAt base W p bm ns A cap l) : W.cell? ⟨p, 2, none⟩ = some (.slice A l.length cap) := (blk_cell h.box 2).trans rfl
theorem NewAt.mark {base : Nat} {W W' : World} {p bm : Nat} {ns : List Int} {A : Option Addr} {cap : Nat} {l : List (Int × Int)} (h : NewAt base W p bm ns A cap l) {n : Int} (hn : n ∉ ns) {m : Nat} (hm : IMap Tryd.prog 3 W' bm (upd (marks ns) n (some (.bool true))) m) (hmm : m = if (marks ns n).isSome then ns.length else ns.length + 1) (ht : W.mapTurned W' bm) : NewAt base W' p bm (ns ++ [n]) A cap l := by
  have hg := ht.grown
  have e : m = (ns ++ [n]).length := by rw [hmm]; unfold marks; rw [if_neg hn]; simp
  subst e
  refine ⟨(hg.block p (blk_lt h.box) (fun e => h.pbm (by injection e))).trans h.box, hm.congr (fun x _ => ?_), own_move h.own (fun k hk => hg.block k (own_lt h.own k hk) (fun e => (h.ap k hk).2 (by injection e))), h.bp, h.bbm, h.pbm, h.ap⟩
  unfold marks upd
  show (if x ∈ ns ++ [n] then some (Value.bool true) else none) = if x = n then some (Value.bool true) else (if x ∈ ns then some (Value.bool true) else none)
  by_cases e : x = n
  · rw [if_pos (by rw [e]; simp), if_pos e]
  · rw [if_neg e]
    by_cases h2 : x ∈ ns
    · rw [if_pos (by simp [h2]), if_pos h2]
    · rw [if_neg (by simp [h2, e]), if_neg h2]
/-- A place has been added, and the row stored back. -/
theorem NewAt.put {base : Nat} {W W' : World} {p bm : Nat} {ns : List Int} {A A' : Option Addr} {cap cap' : Nat} {l l' : List (Int × Int)} (h : NewAt base W p bm ns A cap l)
    (hg : W.grownBy W' (Value.slice A l.length cap).ownBlock) (ho : W'.ownsRow base 74 2 (.slice A' l'.length cap') l'.length (prs l')) (hl : (Value.slice A' l'.length cap').ownBlock = (Value.slice A l.length cap).ownBlock ∨ (Value.slice A' l'.length cap').ownBlock = some W.heap.size) :
    NewAt base (W'.setCell ⟨p, 2, none⟩ (.slice A' l'.length cap')) p bm ns A' cap' l' := by
  have hnp : some p ≠ (Value.slice A l.length cap).ownBlock := fun e => (h.ap p e.symm).1 rfl
  have hnb : some bm ≠ (Value.slice A l.length cap).ownBlock := fun e => (h.ap bm e.symm).2 rfl
  have hp := blk_lt h.box
  have hbm := h.mp.lt
  have hbox : W'.heap[p]? = some (.cells #[.bool true, .map (some bm), .slice A l.length cap] 56 (0, 0)) := (hg.block p hp hnp).trans h.box
  have hap : ∀ k, (Value.slice A' l'.length cap').ownBlock = some k → k ≠ p ∧ k ≠ bm := by
    intro k hk
    rcases hl with e | e
    · exact h.ap k (by rw [← e]; exact hk)
    · rw [e] at hk; injection hk with hk; omega
  refine ⟨blk_put hbox 2 _ rfl, (h.mp.kept hg hnb).setCell (fun e => h.pbm e.symm) _, own_setCell ho (fun e => (hap p e.symm).1 rfl) _, h.bp, h.bbm, h.pbm, hap⟩
theorem NewAt.begin (W : World) (ns : List Int) (w' : World) (p bm : Nat) (hbox : w'.heap[p]? = some (.cells #[.bool true, .map (some bm), .slice none 0 0] 56 (0, 0))) (hm : IMap Tryd.prog 3 w' bm (fun _ => none) 0) (h1 : W.heap.size ≤ p) (h2 : W.heap.size ≤ bm) (h3 : p ≠ bm) (places : Nat) : NewAt W.heap.size w' p bm (ns.take 0) none 0 (raw spN (ns.take 0) places) :=
  ⟨hbox, hm.congr (fun x _ => rfl), own_nil _ _ _ _, h1, h2, h3, fun k hk => by cases hk⟩

/-- What New leaves and tells. -/
structure NewDone (xs : List Int) (places : Nat) (W : World) (e : Ending) (w' : World) : Prop where
  ex : (Nodes xs ∧ ∃ p, e = .returned (.tuple #[.pointer (some ⟨p, 0, none⟩), .int .i64 0]) ∧ RingIs w' p (ring spN xs places) ∧ W.heap.size ≤ p) ∨ (¬ Nodes xs ∧ e = .returned (.tuple #[.pointer none, .int .i64 1]))
  below : Below W.heap.size W w'
theorem not_nodes_bad {xs : List Int} {i : Nat} (hi : i < xs.length) (h : xs[i] < 0 ∨ 8 ≤ xs[i]) : ¬ Nodes xs := fun hn => by have := hn.range _ (List.getElem_mem hi); omega
theorem not_nodes_dup {xs : List Int} {i : Nat} (hi : i < xs.length) (h : xs[i] ∈ xs.take i) : ¬ Nodes xs := fun hn => by
  have h1 := (hn.take (i + 1)).nodup
  rw [← List.take_append_getElem hi, List.nodup_append] at h1
  exact h1.2.2 _ h _ (by simp) rfl
theorem nodes_more {xs : List Int} {i : Nat} (hi : i < xs.length) (h : Nodes (xs.take i)) (h0 : 0 ≤ xs[i]) (h8 : xs[i] < 8) (hn : xs[i] ∉ xs.take i) : Nodes (xs.take (i + 1)) := by
  rw [← List.take_append_getElem hi]
  refine ⟨fun n hm => ?_, ?_⟩
  · rcases List.mem_append.1 hm with h1 | h1
    · exact h.range n h1
    · have : n = xs[i] := by simpa using h1
      omega
  · rw [List.nodup_append]
    exact ⟨h.nodup, by simp, fun a ha b hb e => hn (by have : b = xs[i] := by simpa using hb
                                                       rw [← this, ← e]; exact ha)⟩

theorem new_bad (A : Option Addr) (cap : Nat) (n : Nat) (places : Int) (W : World) (h : places < 1 ∨ 64 < places) : Calls Tryd.prog 16 #[.slice A n cap, .int .i64 places] W fun e w' => e = .returned (.tuple #[.pointer none, .int .i64 1]) ∧ W = w' := by
  by_cases h1 : places < 1
  · clear h
    go_enter Tryd.func16, Tryd.ntmps16
    go_wp2
    go_ret2
    exact ⟨rfl, rfl⟩
  · have h2 : 64 < places := by omega
    clear h
    go_enter Tryd.func16, Tryd.ntmps16
    go_wp2
    go_ret2
    exact ⟨rfl, rfl⟩

set_option maxRecDepth 100000 in
set_option maxHeartbeats 2000000 in
theorem new_calls (A : Option Addr) (cap : Nat) (xs : List Int) (places : Nat) (W : World) (hr : Kd.C (Kd.int .i64) W A xs.length xs) (h1 : 1 ≤ places) (h2 : places ≤ 64) :
    Calls Tryd.prog 16 #[.slice A xs.length cap, .int .i64 places] W (NewDone xs places W) := by
  have h1' : (1 : Int) ≤ (places : Int) := by omega
  have h2' : (places : Int) ≤ 64 := by omega
  have HR := Aside0.mk hr
  have hxl : xs.length ≤ 9223372036854775807 := hr.2.1
  obtain ⟨i0, hi, hz0, hz1, hz2⟩ := info_parts info74
  have HI := Aside0.mk hi
  have HZ0 := Aside0.mk hz0
  have HZ1 := Aside0.mk hz1
  have HZ2 := Aside0.mk hz2
  have hmm := @run_makeMap Tryd.prog
  clear hr hi hz0 hz1 hz2
  go_enter Tryd.func16, Tryd.ntmps16
  go_wp2_with fail
  have hbox0 := blk_new (W.alloc (Obj.map #[] 0)) (.cells #[.bool true, .map (some W.heap.size), .slice none 0 0] 56)
  have hmap0 := (IMap.made (P := Tryd.prog) (k := 3) W).alloc (.cells #[.bool true, .map (some W.heap.size), .slice none 0 0] 56)
  have hb0 := below_alloc (below_alloc (Below.refl W.heap.size W) (Obj.map #[] 0)) (.cells #[.bool true, .map (some W.heap.size), .slice none 0 0] 56)
  have HNB := Aside0.mk (NewAt.begin W xs _ (W.heap.size + 1) W.heap.size (by simpa using hbox0) hmap0 (by omega) (Nat.le_refl _) (by omega) places)
  have HB0 := Aside0.mk hb0
  clear hbox0 hmap0 hb0 hmm
  generalize (W.alloc (Obj.map #[] 0)).alloc (.cells #[.bool true, .map (some W.heap.size), .slice none 0 0] 56) = W1 at *
  generalize hp : W.heap.size + 1 = p at *
  have HPB : Aside0 (W.heap.size ≤ p) := ⟨by omega⟩
  have HPB2 : Aside0 (p ≠ W.heap.size) := ⟨by omega⟩
  clear hp
  go_loopw [21] (fun ii wr => ∃ (i : Nat) (A2 : Option Addr) (c2 : Nat), ii = .int .i64 i ∧ i ≤ xs.length ∧ Aside0 (Nodes (xs.take i)) ∧ Aside0 (NewAt W.heap.size wr p W.heap.size (xs.take i) A2 c2 (raw spN (xs.take i) places)) ∧ Aside0 (Below W.heap.size W wr)) (fun ii _ => xs.length - (intOf ii).toNat)
  case atStart => exact ⟨0, none, 0, rfl, Nat.zero_le _, ⟨⟨fun n h => by simp at h, by simp⟩⟩, HNB, HB0⟩
  case round =>
    obtain ⟨i, A2, c2, rfl, hil, HG, HN, HB⟩ := hrel
    clear HNB HB0
    by_cases hlt : i < xs.length
    · have hlt' : (i : Int) < (xs.length : Int) := by omega
      obtain ⟨ad, ea, hc⟩ := Kd.at_int HR.out (i : Int) (by omega) (by omega)
      rw [Int.toNat_natCast, rd, Int.toNat_natCast, List.getD_eq_getElem?_getD, List.getElem?_eq_getElem hlt] at hc
      change W.cell? (ad.add i) = some (.int .i64 xs[i]) at hc
      cases ea
      replace hc := (HB.out.cell (World.block_lt_of_cell? W _ hc)).trans hc
      have hbad := @not_nodes_bad xs i hlt
      have hdup := @not_nodes_dup xs i hlt
      have hmore := @nodes_more xs i hlt HG.out
      obtain ⟨n, hn⟩ : ∃ n, xs[i] = n := ⟨_, rfl⟩
      rw [hn] at hc hbad hdup hmore
      have HNN := Aside0.mk hn
      have HBAD := Aside0.mk hbad
      have HDUP := Aside0.mk hdup
      have HMORE := Aside0.mk hmore
      have c0 := HN.out.c0
      have c1 := HN.out.c1
      clear hn hbad hdup hmore
      by_cases hn0 : n < 0
      · go_wp2_with fail
        go_ret2
        exact ⟨.inr ⟨HBAD.out (.inl hn0), rfl⟩, HB.out⟩
      by_cases hn8 : 8 ≤ n
      · go_wp2_with fail
        go_ret2
        exact ⟨.inr ⟨HBAD.out (.inr hn8), rfl⟩, HB.out⟩
      have hwf : (Lit.int .i64 n).wf = true := wf_of (by omega) (by omega)
      have hl := HN.out.mp.look law3 Tryd.underlying3 Tryd.underlying53 (zero4 wr) n hwf
      by_cases hin : n ∈ xs.take i
      · have hm : (marks (xs.take i) n).getD (.bool false) = .bool true := by unfold marks; rw [if_pos hin]; rfl
        rw [hm] at hl
        clear hm
        go_wp2_with fail
        go_ret2
        exact ⟨.inr ⟨HDUP.out hin, rfl⟩, HB.out⟩
      have hm : (marks (xs.take i) n).getD (.bool false) = .bool false := by unfold marks; rw [if_neg hin]; rfl
      rw [hm] at hl
      have HGN := Aside0.mk (HMORE.out (by omega) (by omega) hin)
      have HIN := Aside0.mk hin
      have HWF := Aside0.mk hwf
      clear hm hin hwf
      obtain ⟨a, rfl⟩ : ∃ a : Nat, n = (a : Int) := ⟨n.toNat, by omega⟩
      have ha8 : a < 8 := by omega
      have HA8 : Aside0 (a < 100) := ⟨by omega⟩
      have hl8 := HG.out.len
      go_wp2_with (at_mapUpdate; refine wpList_store_imap rfl _ _ _ rfl law3 Tryd.underlying3 Tryd.underlying53 rfl HN.out.mp (by unfold maxLen; omega) (a : Int) rfl HWF.out (.bool true) (by first | rfl | (simp [*]; done) | (go_simp; done)) ?_; intro w6 hm6 ht6)
      have HN6 := Aside0.mk (HN.out.mark HIN.out hm6 rfl ht6)
      have HB6 : Aside0 (Below W.heap.size W w6) := ⟨HB.out.grown ht6.grown (by have := HB.out.size; omega) (fun k hk => by injection hk with hk; omega)⟩
      rw [show xs.take i ++ [(a : Int)] = xs.take (i + 1) by rw [← HNN.out, List.take_append_getElem hlt]] at HN6
      have c2 := HN6.out.c2
      clear hm6 ht6 HN HB hl c0 c1 hc
      go_loopw [45] (fun jj wr2 => ∃ (j : Nat) (A2 : Option Addr) (c2 : Nat), jj = .int .i64 j ∧ j ≤ places ∧ Aside0 (NewAt W.heap.size wr2 p W.heap.size (xs.take (i + 1)) A2 c2 (raw spN (xs.take i) places ++ part a j)) ∧ Aside0 (Below W.heap.size W wr2)) (fun jj _ => places - (intOf jj).toNat)
      case atStart => exact ⟨0, _, _, rfl, Nat.zero_le _, by simpa [part] using HN6, HB6⟩
      case round =>
        obtain ⟨j, A2, c2, rfl, hjp, HN, HB⟩ := hrel
        clear HN6 HB6
        by_cases hjt : j < places
        · have hjt' : (j : Int) < (places : Int) := by omega
          have HJ8 : Aside0 (j < 100) := ⟨by omega⟩
          go_wp2_with fail
          obtain ⟨l, hle⟩ : ∃ l, raw spN (xs.take i) places ++ part a j = l := ⟨_, rfl⟩
          rw [hle] at HN
          obtain ⟨l2, hle2⟩ : ∃ l2, raw spN (xs.take i) places ++ part a (j + 1) = l2 := ⟨_, rfl⟩
          have HLE2 := Aside0.mk hle2
          have HPR := Aside0.mk (prs_step (raw spN (xs.take i) places) a j)
          rw [hle, hle2] at HPR
          have HLL : Aside0 (l.length + 1 = l2.length) := ⟨by rw [← hle, ← hle2]; simp [part_len]; omega⟩
          have HLN : Aside0 (l2.length ≤ 10000) := ⟨by
            rw [← hle2, List.length_append, raw_len, part_len]
            have : (xs.take i).length * places ≤ 8 * 64 := Nat.mul_le_mul hl8 h2
            omega⟩
          clear hle hle2
          have HND := Aside0.mk (HN.out.same (below_drew1 (Below.refl wr.heap.size wr)))
          have HBD := Aside0.mk (below_drew1 HB.out)
          have dd2 := HND.out.c2
          clear HN HB
          refine start_ (n := 15) (S := fun w' => w'.cell? ⟨p, 2, none⟩ = some (.slice A2 l.length c2)) (ds := [14]) #[false, false, false, false, false, false, false, false, false, false, false, false, false, false, false] (by kernel_rfl) rfl rfl dd2 (fun hHeld => ?_)
          refine with_tabW nw13.tab nw13.bits (fun HT_ HW_ => ?_)
          generalize wr.drew = wD at *
          refine pure_ (i := 0) (N := some 48) (v := ?_) (a' := ?_) #[true, false, false, false, false, false, false, false, false, false, false, false, false, false, false] rfl rfl (any_of HT_.out (by kernel_rfl)) (fun _ _ _ h => h) (Or.inl ⟨by rfl, ?_⟩) ?_ ?_
          rotate_left
          · intro w'
            go_simp
            with_reducible rfl
          rotate_left
          · simp only [Act.put, List.setIfInBounds_toArray, List.set_cons_zero, List.set_cons_succ, i64_w, i32_w]
            rfl
          refine pure_ (i := 1) (N := some 49) (v := ?_) (a' := ?_) #[true, true, false, false, false, false, false, false, false, false, false, false, false, false, false] rfl rfl (any_of HT_.out (by kernel_rfl)) (fun _ _ _ h => h) (Or.inl ⟨by rfl, ?_⟩) ?_ ?_
          rotate_left
          · intro w'
            go_simp
            with_reducible rfl
          rotate_left
          · simp only [Act.put, List.setIfInBounds_toArray, List.set_cons_zero, List.set_cons_succ, i64_w, i32_w]
            rfl
          refine pure_ (i := 2) (N := some 50) (v := ?_) (a' := ?_) #[true, true, true, false, false, false, false, false, false, false, false, false, false, false, false] rfl rfl (any_of HT_.out (by kernel_rfl)) (fun _ _ _ h => h) (Or.inl ⟨by rfl, ?_⟩) ?_ ?_
          rotate_left
          · intro w'
            go_simp
            with_reducible rfl
          rotate_left
          · simp only [Act.put, List.setIfInBounds_toArray, List.set_cons_zero, List.set_cons_succ, i64_w, i32_w]
            rfl
          refine pure_ (i := 3) (N := some 51) (v := ?_) (a' := ?_) #[true, true, true, true, false, false, false, false, false, false, false, false, false, false, false] rfl rfl (any_of HT_.out (by kernel_rfl)) (fun _ _ _ h => h) (Or.inl ⟨by rfl, ?_⟩) ?_ ?_
          rotate_left
          · intro w'
            go_simp
            with_reducible rfl
          rotate_left
          · simp only [Act.put, List.setIfInBounds_toArray, List.set_cons_zero, List.set_cons_succ, i64_w, i32_w]
            rfl
          refine pure_ (i := 5) (N := some 53) (v := ?_) (a' := ?_) #[true, true, true, true, false, true, false, false, false, false, false, false, false, false, false] rfl rfl (any_of HT_.out (by kernel_rfl)) (fun _ _ _ h => h) (Or.inl ⟨by rfl, ?_⟩) ?_ ?_
          rotate_left
          · intro w'
            go_simp
            with_reducible rfl
          rotate_left
          · simp only [Act.put, List.setIfInBounds_toArray, List.set_cons_zero, List.set_cons_succ, i64_w, i32_w]
            rfl
          refine pure_ (i := 6) (N := some 54) (v := ?_) (a' := ?_) #[true, true, true, true, false, true, true, false, false, false, false, false, false, false, false] rfl rfl (any_of HT_.out (by kernel_rfl)) (fun _ _ _ h => h) (Or.inl ⟨by rfl, ?_⟩) ?_ ?_
          rotate_left
          · intro w'
            go_simp
            with_reducible rfl
          rotate_left
          · simp only [Act.put, List.setIfInBounds_toArray, List.set_cons_zero, List.set_cons_succ, i64_w, i32_w]
            rfl
          refine pure_ (i := 8) (N := some 56) (v := ?_) (a' := ?_) #[true, true, true, true, false, true, true, false, true, false, false, false, false, false, false] rfl rfl (any_of HT_.out (by kernel_rfl)) (fun _ _ _ h => h) (Or.inl ⟨by rfl, ?_⟩) ?_ ?_
          rotate_left
          · intro w'
            go_simp
            with_reducible rfl
          rotate_left
          · simp only [Act.put, List.setIfInBounds_toArray, List.set_cons_zero, List.set_cons_succ, i64_w, i32_w]
            rfl
          refine take_ (i := 4) (N := some 52) (v := ?_) (a' := ?_) #[true, true, true, true, true, true, true, false, true, false, false, false, false, false, false] rfl rfl (take_ofW HT_.out HW_.out (by kernel_rfl)) (fun _ _ _ h => h) (Or.inl ⟨by rfl, ?_⟩) hHeld ?_ ?_
          rotate_left
          · rintro w' s0
            go_simp
            with_reducible rfl
          rotate_left
          · simp only [Act.put, List.setIfInBounds_toArray, List.set_cons_zero, List.set_cons_succ, i64_w, i32_w]
            rfl
          refine one_ (i := 7) (N := some 55) #[true, true, true, true, true, true, true, true, true, false, false, false, false, false, false] rfl rfl (one_of HT_.out (by kernel_rfl)) (by decide) (fun K hK => ?_)
          refine goes_ Tryd.func40 (by kernel_rfl) rfl #[.string kNode, .int .i64 (a : Int), .int .i64 (j : Int)] (by rfl) rfl rfl (by (try simp only [List.map_toArray, List.map_cons, List.map_nil]); first | done | rfl) ?_
          refine (spot_small kNode a j _ (by decide) HA8.out HJ8.out).mono ?_
          rintro e w9 ⟨rfl, hb9⟩
          refine ⟨_, rfl, ?_⟩
          have HN9 := Aside0.mk (HND.out.same hb9)
          have HB9 := Aside0.mk (below_step HBD.out hb9)
          refine hK.out _ _ (pw_cell_below hb9 hHeld) (fun hH2 => ?_)
          clear hHeld hb9 hK K
          refine norm_ (a' := ?_) ?_ ?_
          rotate_left
          · simp only [Act.put, List.setIfInBounds_toArray, List.set_cons_zero, List.set_cons_succ, i64_w, i32_w]
            rfl
          refine pure_ (i := 9) (N := some 57) (v := ?_) (a' := ?_) #[true, true, true, true, true, true, true, true, true, true, false, false, false, false, false] rfl rfl (any_of HT_.out (by kernel_rfl)) (fun _ _ _ h => h) (Or.inl ⟨by rfl, ?_⟩) ?_ ?_
          rotate_left
          · intro w'
            go_simp
            with_reducible rfl
          rotate_left
          · simp only [Act.put, List.setIfInBounds_toArray, List.set_cons_zero, List.set_cons_succ, i64_w, i32_w]
            rfl
          refine one_ (i := 10) (N := some 58) #[true, true, true, true, true, true, true, true, true, true, true, false, false, false, false] rfl rfl (one_of HT_.out (by kernel_rfl)) (by decide) (fun K hK => ?_)
          refine value_ (w1 := ?_) (v := ?_) (by rfl) rfl ?_ ?_
          rotate_left 2
          · go_simp
            constructor
            · rfl
            · rfl
          have hbA := below_alloc (Below.refl w9.heap.size w9) (.cells #[.int .i64 (spot kNode a j), .int .i64 (a : Int)] 74)
          have HNA := Aside0.mk (HN9.out.same hbA)
          have HBA := Aside0.mk (below_step HB9.out hbA)
          have HN4 := Aside0.mk (World.news_of_block (blk_new w9 (.cells #[.int .i64 (spot kNode a j), .int .i64 (a : Int)] 74)))
          refine hK.out _ _ (pw_cell_below hbA hH2) (fun hH3 => ?_)
          clear hH2 hbA hK K
          refine norm_ (a' := ?_) ?_ ?_
          rotate_left
          · simp only [Act.put, List.setIfInBounds_toArray, List.set_cons_zero, List.set_cons_succ, i64_w, i32_w]
            rfl
          refine one_ (i := 11) (N := some 59) #[true, true, true, true, true, true, true, true, true, true, true, true, false, false, false] rfl rfl (one_of HT_.out (by kernel_rfl)) (by decide) (fun K hK => ?_)
          refine step_append_mine rfl _ _ 54 rfl W.heap.size 74 i0 _ 2 16 Tryd.underlying54 HI.out HZ0.out HZ1.out HZ2.out rfl (by decide) (.slice A2 l.length c2) l.length (prs l) (by rfl) HNA.out.own ⟨w9.heap.size, 0, none⟩ 1 1 [.int .i64 (spot kNode a j), .int .i64 (a : Int)] (by rfl) rfl HN4.out (fun u hu => by simp at hu; rcases hu with rfl | rfl <;> rfl) l2.length HLL.out (by have := HLN.out; unfold maxLen; omega) (by have := HLN.out; omega) (by have := HBA.out.size; simpa using this) ?_
          intro A5 c5 w5 hown5 hgrow5 hloc5
          have hnp5 : some p ≠ (Value.slice A2 l.length c2).ownBlock := fun e => (HNA.out.ap p e.symm).1 rfl
          rw [HPR.out] at hown5
          have HG5 := Aside0.mk hgrow5
          have HO5 := Aside0.mk hown5
          have HL5 := Aside0.mk hloc5
          have hfz5 : w5.frozen? ⟨p, 2, none⟩ = false := by
            have := (hgrow5.block p (blk_lt HNA.out.box) hnp5).trans HNA.out.box
            simp [World.frozen?, this]
          have HFZ := Aside0.mk hfz5
          refine hK.out _ _ (hgrow5.cell hH3 hnp5) (fun hH4 => ?_)
          clear hH3 hown5 hloc5 hgrow5 hfz5 hK K
          refine norm_ (a' := ?_) ?_ ?_
          rotate_left
          · simp only [Act.put, List.setIfInBounds_toArray, List.set_cons_zero, List.set_cons_succ, i64_w, i32_w]
            rfl
          refine pure_ (i := 12) (N := some 60) (v := ?_) (a' := ?_) #[true, true, true, true, true, true, true, true, true, true, true, true, true, false, false] rfl rfl (any_of HT_.out (by kernel_rfl)) (fun _ _ _ h => h) (Or.inl ⟨by rfl, ?_⟩) ?_ ?_
          rotate_left
          · intro w'
            go_simp
            with_reducible rfl
          rotate_left
          · simp only [Act.put, List.setIfInBounds_toArray, List.set_cons_zero, List.set_cons_succ, i64_w, i32_w]
            rfl
          refine pure_ (i := 13) (N := some 61) (v := ?_) (a' := ?_) #[true, true, true, true, true, true, true, true, true, true, true, true, true, true, false] rfl rfl (any_of HT_.out (by kernel_rfl)) (fun _ _ _ h => h) (Or.inl ⟨by rfl, ?_⟩) ?_ ?_
          rotate_left
          · intro w'
            go_simp
            with_reducible rfl
          rotate_left
          · simp only [Act.put, List.setIfInBounds_toArray, List.set_cons_zero, List.set_cons_succ, i64_w, i32_w]
            rfl
          refine last_ (i := 14) (N := none) #[true, true, true, true, true, true, true, true, true, true, true, true, true, true, true] rfl rfl (one_of HT_.out (by kernel_rfl)) (by decide) (fun K hK => ?_)
          have hfz5 := HFZ.out
          refine skip_ (w1 := ?_) (by rfl) rfl ?_ ?_
          rotate_left
          · go_simp
            rfl
          refine hK.out _ _ ?_
          clear hK K hfz5
          refine done_ (done_of HT_.out (by kernel_rfl)) ?_
          have HNX := Aside0.mk (HNA.out.put HG5.out HO5.out HL5.out)
          have HBX : Aside0 (Below W.heap.size W (w5.setCell ⟨p, 2, none⟩ (.slice A5 l2.length c5))) := ⟨(HBA.out.grown HG5.out HBA.out.size (fun k hk => own_base HNA.out.own k hk)).setCell HPB.out _⟩
          go_wp2
          go_roundw
          case rel => exact ⟨j + 1, A5, c5, by go_num, by omega, by rw [HLE2.out]; exact HNX, HBX⟩
          case measure => simp [intOf]; omega
        · have ej : j = places := by omega
          have hjt' : ¬ (j : Int) < (places : Int) := by omega
          go_wp2_with fail
          go_roundw
          case rel => exact ⟨i + 1, A2, c2, by go_num, by omega, HGN, ⟨by rw [raw_take hlt a HNN.out]; have h9 := HN.out; rw [ej] at h9; exact h9⟩, HB⟩
          case measure => simp [intOf]; omega
    · have ei : i = xs.length := by omega
      subst ei
      have hlt' : ¬ (xs.length : Int) < (xs.length : Int) := by omega
      rw [List.take_length] at HG HN
      have c2 := HN.out.c2
      go_wp2_with fail
      refine (sort_pl wr W.heap.size A2 _ (raw spN xs places) HN.out.own (by rw [raw_len]; have : xs.length * places ≤ 8 * 64 := Nat.mul_le_mul HG.out.len h2; omega)).mono ?_
      rintro e w7 ⟨rfl, hrow, ht⟩
      have HROW := Aside0.mk hrow
      have HT := Aside0.mk ht
      clear hrow ht
      go_wp2_with fail
      go_ret2
      exact ⟨.inl ⟨HG.out, p, rfl, ⟨HT.out.cell HN.out.c0 (fun e => (HN.out.ap p e).1 rfl), ⟨A2, _, by rw [ring, srt_len]; exact HT.out.cell HN.out.c2 (fun e => (HN.out.ap p e).1 rfl), HROW.out⟩, srt_sorted _, by rw [ring_len]; have : xs.length * places ≤ 8 * 64 := Nat.mul_le_mul HG.out.len h2; omega, Nat.lt_of_lt_of_le (blk_lt HN.out.box) HT.out.size⟩, HN.out.bp⟩, HB.out.trans (HT.out.below HB.out.size (fun k hk => own_base HN.out.own k hk))⟩
end Go.Proofs.YthnonapfkobdcaaDoor.Ri
