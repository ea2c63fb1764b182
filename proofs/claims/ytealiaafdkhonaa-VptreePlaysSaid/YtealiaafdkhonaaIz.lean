/- Several texts in one: Ic, Id, Ie, Ig, In. -/
import Derived.Test.YtealiaafdkhonaaHc1
import Derived.Laws.CopyRow
import Derived.Lib.Overlaps
import Derived.Laws.Externs
import Derived.Maps.AppendAt
import Derived.Shelf.RegionOpenPlain
import Derived.Lib.AppendZerosOnto
import Derived.Lib.AppendZeros
namespace Go.Proofs.Ytealiaafdkhonaa.Vp
open Go.RowKit Go.Sort Go.Proofs.YtealiaafdkhonaaW.PrintWords Go.Proofs.YtealiaafdkhonaaW.PrintLast Go.Proofs.YtealiaafdkhonaaW.PrintMore
set_option linter.unusedVariables false
set_option linter.unusedSimpArgs false

/-- Outside of F nothing that was there has turned. -/
structure Turns (F : Nat → Prop) (w w' : World) : Prop where
  os : w'.os = w.os
  tape : w'.tape = w.tape
  output : w'.output = w.output
  size : w.heap.size ≤ w'.heap.size
  block : ∀ k, k < w.heap.size → ¬ F k → w'.heap[k]? = w.heap[k]?
def encP (x : Int × Int) : List Value := [.int .i64 x.1, .int .i64 x.2]
def prs (l : List (Int × Int)) : List Value := l.flatMap encP
theorem prs_app (a b : List (Int × Int)) : prs (a ++ b) = prs a ++ prs b := by simp [prs]
theorem prs_cons (x : Int × Int) (b : List (Int × Int)) : prs (x :: b) = encP x ++ prs b := by simp [prs]
theorem prs_len (l : List (Int × Int)) : (prs l).length = l.length * 2 := by
  induction l with
  | nil => rfl
  | cons x l ih => simp only [prs, List.flatMap_cons, List.length_append, List.length_cons] at ih ⊢; rw [ih]; simp [encP]; omega
theorem prs_one (l : List (Int × Int)) : ∀ u ∈ prs l, u.oneCell' = true := by
  intro u hu
  obtain ⟨x, _, hx⟩ := List.mem_flatMap.1 hu
  simp [encP] at hx
  rcases hx with rfl | rfl <;> rfl

/-- A copy of elements of whatever size into a row that lies. -/
theorem run_copy_k {P : Program} (w : World) (dT sT ty elem : TypeId) (sz n : Nat) (g o dLen dCap : Nat) (a : Addr) (sLen sCap : Nat) (cur : Array Value) (t : TypeId) (cs : List Value)
    (hu : P.underlying dT = some (.slice elem)) (hs : (P.info? elem).map (·.size) = some sz)
    (hg : w.heap[g]? = some (.cells cur t (0, 0))) (hn : n = Nat.min sLen dLen) (hcl : cs.length = n * sz)
    (hsrc : ∀ j v, cs[j]? = some v → w.cell? (a.add j) = some v) (hfit : o + cs.length ≤ cur.size) (h1 : ∀ v ∈ cs, v.oneCell' = true) :
    (Builtin.copy_ #[dT, sT] ty #[.slice (some ⟨g, o, none⟩) dLen dCap, .slice (some a) sLen sCap]).run P w =
      .ok (goInt n) (w.setRow g (cur.toList.take o ++ cs ++ cur.toList.drop (o + cs.length)).toArray) := by
  have hl := run_loadCells_list (P := P) w a cs hsrc
  have hst := run_storeCells_at P g o t cs 0 cur w hg (by simpa using hfit) h1
  cases hq : P.info? elem with
  | none => simp [hq] at hs
  | some i =>
    have hi : i.size = sz := by simpa [hq] using hs
    simp [Builtin.copy_, run_underlying hu, Builtin.lenOf, Builtin.firstCells, sizeOf, typeInfo, hq, hi, ← hn, ← hcl, hl, hst]

theorem wpList_copy_run {P : Program} (w : World) {ops : Array Oper} {rest : List Oper} {o : Oper} {a : Act} {Q : Exit → Act → World → Prop} (hgd : o.guard = none) (d s : Operand) (t t' : TypeId)
    (ho : o.op = .call { callee := .builtin .copy, args := #[d, s], argTypes := #[t, t'] }) (v u : Value) (hd : a.eval d = v) (hs : a.eval s = u) {v' : Value} {w' : World}
    (hr : (Builtin.copy_ #[t, t'] o.type #[v, u]).run P w = .ok v' w') (h : wpList P ops Q rest (a.put o.dst v') w') : wpList P ops Q (o :: rest) a w :=
  wpList_plain hgd fun _ hK => by
    unfold Oper.wp execOp
    simp only [ho, resolve, invoke, builtin, Sem.run_bind, Sem.run_pure, Result.andThen_ok, List.map_toArray, List.map_cons, List.map_nil, hd, hs, hr]
    exact hK _ _ h
theorem step_copy_run {P : Program} {ops : Array Oper} {o : Oper} {a : Act} {w : World} {K : Act → World → Prop} {Q : Exit → Act → World → Prop} {E : Prop}
    (hg : o.guard = none) (d x : Operand) (dT sT : TypeId) (hop : o.op = Op.call { callee := Callee.builtin Builtin.copy, args := #[d, x], argTypes := #[dT, sT] })
    (v u : Value) (hd : a.eval d = v) (hx : a.eval x = u) {v' : Value} {w' : World} (hr : (Builtin.copy_ #[dT, sT] o.type #[v, u]).run P w = .ok v' w') (hK : K (a.put o.dst v') w') :
    if Region.wanted o (yielded ops a.tmps) = true then Oper.wp P o a w K Q else E := by
  have hw : Region.wanted o (yielded ops a.tmps) = true := by simp [Region.wanted, hg]
  rw [if_pos hw]
  unfold Oper.wp
  simp [execOp, hop, resolve, invoke, builtin, hd, hx, hr, Result.andThen]
  exact hK

theorem info49 : (Try.prog.info? 49).map (fun i => (i.zero, i.size, i.bytes)) = some (some (.agg #[.int .i64 0, .int .i64 0]), 2, 16) := by kernel_rfl
theorem size49 : (Try.prog.info? 49).map (·.size) = some 2 := by kernel_rfl
/-- A row's cells behind an insertion in place. -/
def shifted (cur : List Value) (i n : Nat) (h : List Value) : List Value := cur.take (i * 2) ++ h ++ (cur.drop (i * 2)).take ((n - i) * 2) ++ cur.drop ((n + 1) * 2)
theorem shift_lists (cur : List Value) (i n : Nat) (hi : i ≤ n) (hn : (n + 1) * 2 ≤ cur.length) (a b : Value) :
    let d := (cur.drop (i * 2)).take ((n - i) * 2)
    let c1 := cur.take ((i + 1) * 2) ++ d ++ cur.drop ((i + 1) * 2 + d.length)
    c1.take (i * 2) ++ [a, b] ++ c1.drop (i * 2 + 2) = shifted cur i n [a, b] := by
  intro d c1
  have hd : d.length = (n - i) * 2 := by simp only [d, List.length_take, List.length_drop]; omega
  have e1 : c1.take (i * 2) = cur.take (i * 2) := by
    simp only [c1, List.append_assoc]
    rw [List.take_append_of_le_length (by rw [List.length_take]; omega), List.take_take]
    congr 1; omega
  have e2 : c1.drop (i * 2 + 2) = d ++ cur.drop ((n + 1) * 2) := by
    have h9 : (cur.take ((i + 1) * 2)).length = i * 2 + 2 := by rw [List.length_take]; omega
    simp only [c1, List.append_assoc]
    rw [List.drop_append_of_le_length (by omega), List.drop_of_length_le (by omega), List.nil_append, hd]
    congr 2; omega
  rw [e1, e2]
  unfold shifted
  simp [d]
end Go.Proofs.Ytealiaafdkhonaa.Vp

namespace Go.Proofs.Ytealiaafdkhonaa.Vp
open Go.RowKit Go.Sort Go.Proofs.YtealiaafdkhonaaW.PrintWords Go.Proofs.YtealiaafdkhonaaW.PrintLast Go.Proofs.YtealiaafdkhonaaW.PrintMore
set_option linter.unusedVariables false
set_option linter.unusedSimpArgs false

/-- What Insert leaves and tells: the row with one more. -/
structure InsDone (B : Nat) (l : List (Int × Int)) (F : Nat → Prop) (w : World) (e : Ending) (w' : World) : Prop where
  ex : ∃ A c, e = .returned (.slice A l.length c) ∧ w'.ownsRow B 49 2 (.slice A l.length c) l.length (prs l) ∧ (∀ k, (Value.slice A l.length c).ownBlock = some k → F k ∨ w.heap.size ≤ k)
  turns : Turns F w w'

theorem prs_take (l : List (Int × Int)) (i : Nat) (hi : i ≤ l.length) : (prs l).take (i * 2) = prs (l.take i) := by
  have h := congrArg prs (List.take_append_drop i l)
  rw [prs_app] at h
  have hl : (prs (l.take i)).length = i * 2 := by rw [prs_len, List.length_take]; omega
  rw [← h, List.take_append_of_le_length (by omega), List.take_of_length_le (by omega)]
theorem prs_drop (l : List (Int × Int)) (i : Nat) (hi : i ≤ l.length) : (prs l).drop (i * 2) = prs (l.drop i) := by
  have h := congrArg prs (List.take_append_drop i l)
  rw [prs_app] at h
  have hl : (prs (l.take i)).length = i * 2 := by rw [prs_len, List.length_take]; omega
  rw [← h, List.drop_append_of_le_length (by omega), List.drop_of_length_le (by omega), List.nil_append]

set_option maxHeartbeats 4000000 in
set_option maxRecDepth 100000 in
theorem insert_shift (B g c : Nat) (l : List (Int × Int)) (i : Nat) (h : Int × Int) (vb vc : Nat) (w : World) (how : w.ownsRow B 49 2 (.slice (some ⟨g, 0, none⟩) l.length c) l.length (prs l)) (hroom : l.length + 1 ≤ c) (hi : i < l.length) (hl : l.length ≤ 1000)
    (hv : w.heap[vb]? = some (.cells #[.int .i64 h.1, .int .i64 h.2] 49 (0, 0))) (hne : vb ≠ g) :
    Calls Try.prog 50 #[.slice (some ⟨g, 0, none⟩) l.length c, .int .i64 i, .slice (some ⟨vb, 0, none⟩) 1 vc] w (InsDone B (l.take i ++ h :: l.drop i) (fun k => k = g) w) := by
  obtain ⟨hr1, hr2⟩ := how
  rcases hr2 with ⟨e1, _⟩ | ⟨g', cap, cur, e1, hB, hg, hcap, h63, hsz, htk⟩
  · cases e1
  cases e1
  have hc63 : c ≤ 9223372036854775807 := by unfold maxLen at h63; omega
  obtain ⟨n, hn⟩ : ∃ n, l.length = n := ⟨_, rfl⟩
  rw [hn] at hroom hi hl htk ⊢
  have hov : ∀ lb cb, (callFunc 62 #[.slice (some ⟨vb, 0, none⟩) 1 vc, .slice (some ⟨g, (i + 1) * 2, none⟩) lb cb]).run Try.prog w = .ok (.value (.bool false)) w := fun lb cb => by
    rw [run_callFunc_extern Try.func62 (by kernel_rfl) (by kernel_rfl) (by kernel_rfl) (e := Extern.SlicesOverlaps.overlaps #[40, 40] #[4]) (by kernel_rfl),
      Lib.run_overlaps_apart w 40 4 49 Try.underlying40 2 Try.sizeOf49 ⟨vb, 0, none⟩ ⟨g, (i + 1) * 2, none⟩ 1 vc lb cb hne 49 49 2 (c * 2) (by simp [World.shape?, hv]) (by simp [World.shape?, hg, hsz]) (by omega) (by simp [World.frozen?, hv]) (by simp [World.frozen?, hv])]
    rfl
  have hcl : cur.toList.length = c * 2 := by simpa using hsz
  obtain ⟨d, hd⟩ : ∃ d, (cur.toList.drop (i * 2)).take ((n - i) * 2) = d := ⟨_, rfl⟩
  have hdl : d.length = (n - i) * 2 := by rw [← hd, List.length_take, List.length_drop]; omega
  have hdp : d = prs (l.drop i) := by
    rw [← hd, ← prs_drop l i (by omega), ← htk, List.drop_take]
    congr 1; omega
  have hd1 : ∀ u ∈ d, u.oneCell' = true := by rw [hdp]; exact prs_one _
  have hcpre : cur.toList.take (i * 2) = prs (l.take i) := by
    rw [← prs_take l i (by omega), ← htk, List.take_take]
    congr 1; omega
  have hgw : g < w.heap.size := blk_lt hg
  have hvw : vb < w.heap.size := blk_lt hv
  obtain ⟨c1, hc1⟩ : ∃ c1 : List Value, cur.toList.take ((i + 1) * 2) ++ d ++ cur.toList.drop ((i + 1) * 2 + d.length) = c1 := ⟨_, rfl⟩
  have hc1l : c1.length = c * 2 := by rw [← hc1]; simp only [List.length_append, List.length_take, List.length_drop]; omega
  have hcp1 : ∀ ty dc sc, (Builtin.copy_ #[40, 40] ty #[.slice (some ⟨g, (i + 1) * 2, none⟩) (n - i) dc, .slice (some ⟨g, i * 2, none⟩) (n + 1 - i) sc]).run Try.prog w.drew = .ok (goInt ((n - i : Nat) : Int)) (w.drew.setRow g c1.toArray) := fun ty dc sc => by
    have := run_copy_k (P := Try.prog) w.drew 40 40 ty 49 2 (n - i) g ((i + 1) * 2) (n - i) dc ⟨g, i * 2, none⟩ (n + 1 - i) sc cur 49 d Try.underlying40 size49 hg (by simp only [Nat.min_def]; split <;> omega) hdl (fun j v hj => by
      have h9 : w.drew.cell? ⟨g, i * 2 + j, none⟩ = cur[i * 2 + j]? := blk_cell (w := w.drew) hg (i * 2 + j)
      rw [show (⟨g, i * 2, none⟩ : Addr).add j = ⟨g, i * 2 + j, none⟩ by unfold Addr.add; split <;> simp_all, h9]
      rw [← hd, List.getElem?_take] at hj
      split at hj
      · rw [List.getElem?_drop, Array.getElem?_toList] at hj; exact hj
      · cases hj) (by rw [hsz]; omega) hd1
    rw [hc1] at this
    exact this
  obtain ⟨W1, hW1⟩ : ∃ W1, W1 = w.drew.setRow g c1.toArray := ⟨_, rfl⟩
  have hg1 : W1.heap[g]? = some (.cells c1.toArray 49 (0, 0)) := by rw [hW1]; exact setRow_heap w.drew g cur _ 49 (0, 0) hg
  have hv1 : W1.heap[vb]? = some (.cells #[.int .i64 h.1, .int .i64 h.2] 49 (0, 0)) := by rw [hW1, setRow_other w.drew g vb _ hne]; exact hv
  obtain ⟨c2, hc2⟩ : ∃ c2 : List Value, c1.take (i * 2) ++ [.int .i64 h.1, .int .i64 h.2] ++ c1.drop (i * 2 + 2) = c2 := ⟨_, rfl⟩
  have hcp2 : ∀ ty dc, (Builtin.copy_ #[40, 40] ty #[.slice (some ⟨g, i * 2, none⟩) (n + 1 - i) dc, .slice (some ⟨vb, 0, none⟩) 1 vc]).run Try.prog W1 = .ok (goInt 1) (W1.setRow g c2.toArray) := fun ty dc => by
    have := run_copy_k (P := Try.prog) W1 40 40 ty 49 2 1 g (i * 2) (n + 1 - i) dc ⟨vb, 0, none⟩ 1 vc c1.toArray 49 [.int .i64 h.1, .int .i64 h.2] Try.underlying40 size49 hg1 (by simp only [Nat.min_def]; split <;> omega) rfl (World.news_of_block hv1) (by simp [hc1l]; omega) (by intro u hu; simp at hu; rcases hu with rfl | rfl <;> rfl)
    rw [show (c1.toArray.toList.take (i * 2) ++ [Value.int .i64 h.1, .int .i64 h.2] ++ c1.toArray.toList.drop (i * 2 + [Value.int .i64 h.1, .int .i64 h.2].length)) = c2 by simpa using hc2] at this
    exact this
  rw [← hW1] at hcp1
  have hsh := shift_lists cur.toList i n (by omega) (by omega) (.int .i64 h.1) (.int .i64 h.2)
  simp only [hd] at hsh
  rw [hc1, hc2] at hsh
  have hfin : c2.take ((n + 1) * 2) = prs (l.take i ++ h :: l.drop i) := by
    rw [hsh]
    unfold shifted
    rw [hd, hcpre, prs_app, prs_cons, hdp]
    have e1 : (prs (l.take i)).length = i * 2 := by rw [prs_len, List.length_take]; omega
    have e2 : (prs (l.drop i)).length = (n - i) * 2 := by rw [prs_len, List.length_drop]; omega
    rw [List.take_append_of_le_length (by simp only [List.length_append, e1, e2]; simp; omega), List.take_of_length_le (by simp only [List.length_append, e1, e2]; simp; omega)]
    simp [encP]
  have hc2l : c2.length = c * 2 := by rw [← hc2]; simp [hc1l]; omega
  have hlen : (l.take i ++ h :: l.drop i).length = n + 1 := by simp; omega
  have HF : Aside0 (InsDone B (l.take i ++ h :: l.drop i) (fun k => k = g) w (.returned (.slice (some ⟨g, 0, none⟩) (n + 1) c)) (W1.setRow g c2.toArray)) := ⟨by
    refine ⟨⟨some ⟨g, 0, none⟩, c, by rw [hlen], ⟨by rw [hlen, prs_len, hlen], .inr ⟨g, c, c2.toArray, by rw [hlen], hB, setRow_heap W1 g c1.toArray _ 49 (0, 0) hg1, by omega, h63, by simp [hc2l], by rw [hlen]; simpa using hfin⟩⟩, fun k hk => .inl (by rw [hlen] at hk; injection hk with hk; exact hk.symm)⟩, ?_⟩
    rw [hW1]
    refine ⟨rfl, rfl, rfl, by simp [World.setRow], fun k hk hn9 => ?_⟩
    rw [setRow_other _ g k _ hn9, setRow_other _ g k _ hn9]
    rfl⟩
  have mixed : Try.prog.follows Departure.mixedOrders = true := by kernel_rfl
  have hz2 : ¬ ((i : Int) = (n : Int)) := by omega
  have hz2' : ((i : Int) == (n : Int)) = false := by simpa using hz2
  have hw1 : IntKind.i64.wrap ((i : Int) + 1) = (i : Int) + 1 := by rw [IntKind.wrap_i64]; omega
  have hb1 : (0 : Int) ≤ (i : Int) + 1 := by omega
  have hin : i ≤ n := by omega
  have htn : ((i : Int) + 1).toNat = i + 1 := by omega
  have hb2 : ¬ (c = i + 1) := by omega
  have hb3 : (i : Int) ≤ (n : Int) + 1 := by omega
  have hb4 : ¬ (c = i) := by omega
  have hb5 : (n : Int) + 1 ≤ (c : Int) := by omega
  clear hr1 htk hd hdl hdp hd1 hcpre hc1 hc1l hc2 hsh hfin hc2l hlen hg1 hv1 hg hsz hcl h63 hv hW1
  subst hn
  go_enter Try.func50, Try.ntmps50
  go_wp2_with (simp only [hov])
  go_region_law_o (refine step_copy_run rfl _ _ 40 40 rfl _ _ (by simp [Act.eval, Act.put]) (by simp [Act.eval, Act.put]) (hcp1 _ _ _) ?_)

  go_wp2_with (at_builtin; go_loud (refine wpList_copy_run _ rfl _ _ 40 40 rfl _ _ rfl rfl (hcp2 _ _) ?_))
  go_ret
  exact HF.out
end Go.Proofs.Ytealiaafdkhonaa.Vp

namespace Go.Proofs.Ytealiaafdkhonaa.Vp
open Go.RowKit Go.Sort Go.Proofs.YtealiaafdkhonaaW.PrintWords Go.Proofs.YtealiaafdkhonaaW.PrintLast Go.Proofs.YtealiaafdkhonaaW.PrintMore
set_option linter.unusedVariables false
set_option linter.unusedSimpArgs false

theorem wpList_append_mine {P : Program} {ops : Array Oper} {rest : List Oper} {o : Oper} {a : Act} {w : World} {Q : Exit → Act → World → Prop}
    (hgd : o.guard = none) (s x : Operand) (t : TypeId) (ho : o.op = Op.call { callee := Callee.builtin Builtin.append, args := #[s, x], argTypes := #[t, t] })
    (base : Nat) (e : TypeId) (i : TypeInfo) (z : Value) (size bytes : Nat) (ht : P.underlying t = some (.slice e)) (hi : P.info? e = some i) (hz : i.zero = some z) (hsize : i.size = size) (hby : i.bytes = bytes) (hzs : z.cells.size = size) (hsz : 0 < size)
    (v : Value) (n : Nat) (xs : List Value) (hs : a.eval s = v) (hown : w.ownsRow base e size v n xs)
    (ad : Addr) (m c : Nat) (news : List Value) (hx : a.eval x = .slice (some ad) m c) (hl : news.length = m * size) (hnews : ∀ j u, news[j]? = some u → w.cell? (ad.add j) = some u) (h1 : ∀ u ∈ news, u.oneCell' = true)
    (N : Nat) (hN : n + m = N) (h63 : N ≤ maxLen) (hbytes : N * bytes ≤ 140737488355328) (hbase : base ≤ w.heap.size)
    (hK : ∀ A' c' w', w'.ownsRow base e size (.slice A' N c') N (xs ++ news) → w.grownBy w' v.ownBlock → ((Value.slice A' N c').ownBlock = v.ownBlock ∨ (Value.slice A' N c').ownBlock = some w.heap.size) → wpList P ops Q rest (a.put o.dst (.slice A' N c')) w') : wpList P ops Q (o :: rest) a w := by
  subst hN
  refine wpList_plain hgd fun K hK' => ?_
  obtain ⟨v', w', hrun, r1, r2, _, r4⟩ := run_append_own_at (P := P) (w := w) base t o.type e i z size bytes ht hi hz hsize hby hzs hsz v n xs hown ad m c news hl hnews h1 h63 hbytes hbase
  obtain ⟨A', c', rfl⟩ := own_slice r1
  unfold Oper.wp
  simp [execOp, ho, resolve, invoke, builtin, hs, hx, hrun, Result.andThen]
  exact hK' _ _ (hK A' c' w' r1 r2 r4)

theorem Turns.of_grown {a b : World} {row : Option Nat} (h : a.grownBy b row) : Turns (fun i => row = some i) a b := ⟨h.os, h.tape, h.output, h.size, fun i hi hn => h.block i hi (fun e => hn e.symm)⟩

set_option maxHeartbeats 1000000 in
set_option maxRecDepth 100000 in
theorem insert_end (B : Nat) (A : Option Addr) (c : Nat) (l : List (Int × Int)) (h : Int × Int) (vb vc : Nat) (w : World) (how : w.ownsRow B 49 2 (.slice A l.length c) l.length (prs l)) (hl : l.length ≤ 1000) (hB : B ≤ w.heap.size)
    (hv : w.heap[vb]? = some (.cells #[.int .i64 h.1, .int .i64 h.2] 49 (0, 0))) :
    Calls Try.prog 50 #[.slice A l.length c, .int .i64 l.length, .slice (some ⟨vb, 0, none⟩) 1 vc] w (InsDone B (l ++ [h]) (fun k => (Value.slice A l.length c).ownBlock = some k) w) := by
  obtain ⟨i0, hi, hz0, hz1, hz2⟩ := info_parts info49
  have HI := Aside0.mk hi
  have HZ0 := Aside0.mk hz0
  have HZ1 := Aside0.mk hz1
  have HZ2 := Aside0.mk hz2
  have HO := Aside0.mk how
  have HV := Aside0.mk (World.news_of_block hv)
  have hlc := own_le how
  have hlen : l.length + 1 = (l ++ [h]).length := by simp
  obtain ⟨l2, hl2⟩ : ∃ l2, l ++ [h] = l2 := ⟨_, rfl⟩
  rw [hl2] at hlen ⊢
  have HLE := Aside0.mk hlen
  have hpr : prs l ++ [.int .i64 h.1, .int .i64 h.2] = prs (l ++ [h]) := by rw [prs_app]; rfl
  rw [hl2] at hpr
  have HPR := Aside0.mk hpr
  have hA : A = none → l.length = 0 ∧ c = 0 := by
    intro e
    subst e
    rcases how.2 with ⟨e1, e2⟩ | ⟨g', cap, cur, e1, _⟩
    · injection e1 with _ h2 h3; exact ⟨h2, h3⟩
    · cases e1
  have HA := Aside0.mk hA
  obtain ⟨n, hn⟩ : ∃ n, l.length = n := ⟨_, rfl⟩
  have HN := Aside0.mk hn
  rw [hn] at hl hlc
  have hlc' : (n : Int) ≤ (c : Int) := by omega
  clear hi hz0 hz1 hz2 how hv hlen hpr hA hl2
  rw [hn]
  clear hn
  cases A with
  | none =>
    obtain ⟨e1, e2⟩ := HA.out rfl
    rw [HN.out] at e1
    subst e1; subst e2
    go_enter Try.func50, Try.ntmps50
    go_wp2_with (at_builtin; refine wpList_append_mine rfl _ _ 40 rfl B 49 i0 _ 2 16 Try.underlying40 HI.out HZ0.out HZ1.out HZ2.out rfl (by decide) (.slice none 0 0) 0 (prs l) rfl (by have := HO.out; rw [HN.out] at this; exact this) ⟨vb, 0, none⟩ 1 vc [.int .i64 h.1, .int .i64 h.2] rfl rfl HV.out (by intro u hu; simp at hu; rcases hu with rfl | rfl <;> rfl) l2.length (by have := HLE.out; have := HN.out; omega) (by have := HLE.out; have := HN.out; unfold maxLen; omega) (by have := HLE.out; have := HN.out; omega) hB ?_; intro A3 c3 w4 r1 r2 r3)
    go_ret
    rw [HPR.out] at r1
    refine ⟨⟨A3, c3, rfl, r1, fun k hk => ?_⟩, Turns.of_grown r2⟩
    rcases r3 with e3 | e3
    · exact .inl (e3.symm.trans hk)
    · rw [e3] at hk; injection hk with hk; exact .inr (by omega)
  | some ad =>
    go_enter Try.func50, Try.ntmps50
    go_wp2_with (at_builtin; refine wpList_append_mine rfl _ _ 40 rfl B 49 i0 _ 2 16 Try.underlying40 HI.out HZ0.out HZ1.out HZ2.out rfl (by decide) (.slice (some ad) n c) n (prs l) rfl (by have := HO.out; rw [HN.out] at this; exact this) ⟨vb, 0, none⟩ 1 vc [.int .i64 h.1, .int .i64 h.2] rfl rfl HV.out (by intro u hu; simp at hu; rcases hu with rfl | rfl <;> rfl) l2.length (by have := HLE.out; have := HN.out; omega) (by have := HLE.out; have := HN.out; unfold maxLen; omega) (by have := HLE.out; have := HN.out; omega) hB ?_; intro A3 c3 w4 r1 r2 r3)
    all_goals
      go_ret
      rw [HPR.out] at r1
      refine ⟨⟨A3, c3, rfl, r1, fun k hk => ?_⟩, Turns.of_grown r2⟩
      rcases r3 with e3 | e3
      · exact .inl (e3.symm.trans hk)
      · rw [e3] at hk; injection hk with hk; exact .inr (by omega)
end Go.Proofs.Ytealiaafdkhonaa.Vp

namespace Go.Proofs.Ytealiaafdkhonaa.Vp
open Go.RowKit Go.Sort Go.Proofs.YtealiaafdkhonaaW.PrintWords Go.Proofs.YtealiaafdkhonaaW.PrintLast Go.Proofs.YtealiaafdkhonaaW.PrintMore
set_option linter.unusedVariables false
set_option linter.unusedSimpArgs false

set_option maxHeartbeats 4000000 in
set_option maxRecDepth 100000 in
theorem insert_grow (B g c : Nat) (l : List (Int × Int)) (i : Nat) (h : Int × Int) (vb vc : Nat) (w : World) (how : w.ownsRow B 49 2 (.slice (some ⟨g, 0, none⟩) l.length c) l.length (prs l)) (hroom : c < l.length + 1) (hi : i < l.length) (hl : l.length ≤ 1000) (hBw : B ≤ w.heap.size)
    (hv : w.heap[vb]? = some (.cells #[.int .i64 h.1, .int .i64 h.2] 49 (0, 0))) :
    Calls Try.prog 50 #[.slice (some ⟨g, 0, none⟩) l.length c, .int .i64 i, .slice (some ⟨vb, 0, none⟩) 1 vc] w (InsDone B (l.take i ++ h :: l.drop i) (fun k => k = g) w) := by
  obtain ⟨hr1, hr2⟩ := how
  rcases hr2 with ⟨e1, _⟩ | ⟨g', cap, cur, e1, hB, hg, hcap, h63, hsz, htk⟩
  · cases e1
  cases e1
  obtain ⟨i0, hi0, hz0, hzs, hzb⟩ := info_parts info49
  obtain ⟨n, hn⟩ : ∃ n, l.length = n := ⟨_, rfl⟩
  rw [hn] at hroom hi hl htk hcap ⊢
  have hcn : c = n := by omega
  subst hcn
  have hcl : cur.toList.length = c * 2 := by simpa using hsz
  have hgw : g < w.heap.size := blk_lt hg
  have hvw : vb < w.heap.size := blk_lt hv
  have hcell : ∀ W : World, W.heap[g]? = w.heap[g]? → ∀ j v, (prs l)[j]? = some v → W.cell? ⟨g, j, none⟩ = some v := fun W hW j v hj => by
    have h9 : W.cell? ⟨g, j, none⟩ = cur[j]? := blk_cell (hW.trans hg) j
    rw [h9]
    rw [← htk, List.getElem?_take] at hj
    split at hj
    · rwa [Array.getElem?_toList] at hj
    · cases hj
  have hold : (Builtin.firstCells i0.size i (.slice (some ⟨g, 0, none⟩) i c)).run Try.prog w.drew = .ok (prs (l.take i)).toArray w.drew := by
    rw [hzs]
    refine run_firstCells_some w.drew 2 i ⟨g, 0, none⟩ i c (prs (l.take i)) (by rw [prs_len, List.length_take]; omega) (fun j v hj => ?_)
    rw [← prs_take l i (by omega), List.getElem?_take] at hj
    split at hj
    · have := hcell w.drew rfl j v hj
      rwa [show (⟨g, 0, none⟩ : Addr).add j = ⟨g, j, none⟩ by unfold Addr.add; split <;> simp_all]
    · cases hj
  obtain ⟨G, hG⟩ : ∃ G, grownCap w (c + 1) c 49 = G := ⟨_, rfl⟩
  obtain ⟨ROW, hROW⟩ : ∃ ROW : Array Value, (prs (l.take i)).toArray ++ Builtin.zeroCells (Value.agg #[.int .i64 0, .int .i64 0]).cells (c + 1 - i) ++ Builtin.zeroCells (Value.agg #[.int .i64 0, .int .i64 0]).cells (G - (c + 1)) = ROW := ⟨_, rfl⟩
  have hrz : ∀ ty, (Builtin.append_ #[40, 3] ty #[.slice (some ⟨g, 0, none⟩) i c, .int .i64 ((c : Int) + 1 - (i : Int))]).run Try.prog w = .ok (.slice (some ⟨w.heap.size, 0, none⟩) (c + 1) G) (w.drew.alloc (.cells ROW 49)) := fun ty => by
    have h := Lib.run_append_grow_zeros w 40 3 ty 49 i0 _ .i64 .i64 Try.underlying40 Try.underlying3 hi0 hz0 (some ⟨g, 0, none⟩) i c _ hold (c + 1 - i) (by omega) (by omega) (by omega) (by omega) (by rw [hzb]; omega) (by rw [hzb, show i + (c + 1 - i) = c + 1 by omega]; exact growslice_fits (by omega) (by omega))
    rw [show i + (c + 1 - i) = c + 1 by omega, hG, hROW] at h
    rw [show (c : Int) + 1 - (i : Int) = ((c + 1 - i : Nat) : Int) by omega]
    exact h
  have hGn : c + 1 ≤ G := by rw [← hG]; exact grownCap_ge w _ _ _
  have hG63 : G ≤ maxLen := by rw [← hG]; exact grownCap_le_maxLen w (c + 1) c 49 (by unfold maxLen; omega)
  have hpl : (prs (l.take i)).length = i * 2 := by rw [prs_len, List.length_take]; omega
  have hRl : ROW.toList.length = G * 2 := by
    rw [← hROW]
    simp [Builtin.zeroCells, Value.cells, hpl]
    omega
  have hRs : ROW.size = G * 2 := by simpa using hRl
  have hRt : ROW.toList.take (i * 2) = prs (l.take i) := by
    rw [← hROW]
    simp only [Array.toList_append, List.append_assoc]
    rw [List.take_append_of_le_length (by simp [hpl]), List.take_of_length_le (by simp [hpl])]
  obtain ⟨W1, hW1⟩ : ∃ W1, w.drew.alloc (.cells ROW 49) = W1 := ⟨_, rfl⟩
  have hb1 : W1.heap[w.heap.size]? = some (.cells ROW 49 (0, 0)) := by rw [← hW1]; exact blk_new w.drew _
  have hold1 : ∀ k, k < w.heap.size → W1.heap[k]? = w.heap[k]? := fun k hk => by rw [← hW1]; exact (below_alloc (Below.refl w.drew.heap.size w.drew) (.cells ROW 49)).block k hk
  obtain ⟨c1, hc1⟩ : ∃ c1 : List Value, ROW.toList.take (i * 2) ++ [.int .i64 h.1, .int .i64 h.2] ++ ROW.toList.drop (i * 2 + 2) = c1 := ⟨_, rfl⟩
  have hc1l : c1.length = G * 2 := by rw [← hc1]; simp only [List.length_append, List.length_take, List.length_drop, hRl]; simp; omega
  have hc1t : c1.take ((i + 1) * 2) = prs (l.take i) ++ [.int .i64 h.1, .int .i64 h.2] := by
    rw [← hc1, hRt, List.take_append_of_le_length (by simp [hpl]; omega), List.take_of_length_le (by simp [hpl]; omega)]
  have hdl : (prs (l.drop i)).length = (c - i) * 2 := by rw [prs_len, List.length_drop]; omega
  obtain ⟨c2, hc2⟩ : ∃ c2 : List Value, c1.take ((i + 1) * 2) ++ prs (l.drop i) ++ c1.drop ((i + 1) * 2 + (prs (l.drop i)).length) = c2 := ⟨_, rfl⟩
  have hc2l : c2.length = G * 2 := by rw [← hc2]; simp only [List.length_append, List.length_take, List.length_drop, hc1l, hdl]; omega
  have hfin : c2.take ((c + 1) * 2) = prs (l.take i ++ h :: l.drop i) := by
    rw [← hc2, hc1t, prs_app, prs_cons]
    rw [List.take_append_of_le_length (by simp [hpl, hdl]; omega), List.take_of_length_le (by simp [hpl, hdl]; omega)]
    simp [encP]
  have hcpA : ∀ W : World, W.heap = W1.heap → ∀ ty dc, (Builtin.copy_ #[40, 40] ty #[.slice (some ⟨w.heap.size, i * 2, none⟩) (c + 1 - i) dc, .slice (some ⟨vb, 0, none⟩) 1 vc]).run Try.prog W = .ok (goInt 1) (W.setRow w.heap.size c1.toArray) := fun W hW ty dc => by
    have hvW : W.heap[vb]? = some (.cells #[.int .i64 h.1, .int .i64 h.2] 49 (0, 0)) := by rw [hW, hold1 vb hvw]; exact hv
    have := run_copy_k (P := Try.prog) W 40 40 ty 49 2 1 w.heap.size (i * 2) (c + 1 - i) dc ⟨vb, 0, none⟩ 1 vc ROW 49 [.int .i64 h.1, .int .i64 h.2] Try.underlying40 size49 (by rw [hW]; exact hb1) (by simp only [Nat.min_def]; split <;> omega) rfl (World.news_of_block hvW) (by simp [hRs]; omega) (by intro u hu; simp at hu; rcases hu with rfl | rfl <;> rfl)
    rw [show (ROW.toList.take (i * 2) ++ [Value.int .i64 h.1, .int .i64 h.2] ++ ROW.toList.drop (i * 2 + [Value.int .i64 h.1, .int .i64 h.2].length)) = c1 by simpa using hc1] at this
    exact this
  have hb2 : ∀ W : World, W.heap = W1.heap → (W.setRow w.heap.size c1.toArray).heap[w.heap.size]? = some (.cells c1.toArray 49 (0, 0)) := fun W hW => setRow_heap W w.heap.size ROW _ 49 (0, 0) (by rw [hW]; exact hb1)
  have hcpB : ∀ W : World, W.heap = (W1.setRow w.heap.size c1.toArray).heap → ∀ ty dc sc, (Builtin.copy_ #[40, 40] ty #[.slice (some ⟨w.heap.size, (i + 1) * 2, none⟩) (c - i) dc, .slice (some ⟨g, i * 2, none⟩) (c - i) sc]).run Try.prog W = .ok (goInt ((c - i : Nat) : Int)) (W.setRow w.heap.size c2.toArray) := fun W hW ty dc sc => by
    have hgW : W.heap[g]? = w.heap[g]? := by rw [hW, setRow_other W1 w.heap.size g _ (by omega), hold1 g hgw]
    have := run_copy_k (P := Try.prog) W 40 40 ty 49 2 (c - i) w.heap.size ((i + 1) * 2) (c - i) dc ⟨g, i * 2, none⟩ (c - i) sc c1.toArray 49 (prs (l.drop i)) Try.underlying40 size49 (by rw [hW]; exact hb2 W1 rfl) (by simp only [Nat.min_def]; split <;> omega) hdl (fun j v hj => by
      rw [← prs_drop l i (by omega), List.getElem?_drop] at hj
      rw [show (⟨g, i * 2, none⟩ : Addr).add j = ⟨g, i * 2 + j, none⟩ by unfold Addr.add; split <;> simp_all]
      exact hcell W hgW _ v hj) (by rw [show c1.toArray.size = G * 2 by simpa using hc1l, hdl]; omega) (prs_one _)
    rw [show (c1.toArray.toList.take ((i + 1) * 2) ++ prs (l.drop i) ++ c1.toArray.toList.drop ((i + 1) * 2 + (prs (l.drop i)).length)) = c2 by simpa using hc2] at this
    exact this
  have hlen : (l.take i ++ h :: l.drop i).length = c + 1 := by simp; omega
  have HF : Aside0 (∀ W : World, W.heap = (W1.setRow w.heap.size c1.toArray).heap → W.os = w.os → W.tape = w.tape → W.output = w.output → InsDone B (l.take i ++ h :: l.drop i) (fun k => k = g) w (.returned (.slice (some ⟨w.heap.size, 0, none⟩) (c + 1) G)) (W.setRow w.heap.size c2.toArray)) := ⟨fun W hW o1 o2 o3 => by
    refine ⟨⟨some ⟨w.heap.size, 0, none⟩, G, by rw [hlen], ⟨by rw [hlen, prs_len, hlen], .inr ⟨w.heap.size, G, c2.toArray, by rw [hlen], hBw, setRow_heap W w.heap.size c1.toArray _ 49 (0, 0) (by rw [hW]; exact hb2 W1 rfl), by omega, hG63, by simp [hc2l], by rw [hlen]; simpa using hfin⟩⟩, fun k hk => .inr (by rw [hlen] at hk; injection hk with hk; exact Nat.le_of_eq hk)⟩, o1, o2, o3, ?_, fun k hk hn9 => ?_⟩
    · have e1 : (W.setRow w.heap.size c2.toArray).heap.size = W1.heap.size := by simp [World.setRow, hW]
      have e2 : W1.heap.size = w.heap.size + 1 := by rw [← hW1]; simp
      omega
    · rw [setRow_other W w.heap.size k _ (by omega), hW, setRow_other W1 w.heap.size k _ (by omega)]
      exact hold1 k hk⟩
  have mixed : Try.prog.follows Departure.mixedOrders = true := by kernel_rfl
  have hz2 : ¬ ((i : Int) = (c : Int)) := by omega
  have hz2' : ((i : Int) == (c : Int)) = false := by simpa using hz2
  have hz3 : (c : Int) < (c : Int) + 1 := by omega
  have hw1 : IntKind.i64.wrap ((i : Int) + 1) = (i : Int) + 1 := by rw [IntKind.wrap_i64]; omega
  have hb3 : (0 : Int) ≤ (i : Int) + 1 := by omega
  have hin : i ≤ c := by omega
  have htn : ((i : Int) + 1).toNat = i + 1 := by omega
  have hb4 : (i : Int) ≤ (c : Int) := by omega
  have hGi : ¬ (G = i) := by omega
  have hGim : ¬ (G = i + 1) := by omega
  have hci : ¬ (c = i) := by omega
  have HRZ : ∀ ty, (Builtin.append_ #[40, 3] ty #[.slice (some ⟨g, 0, none⟩) i c, .int .i64 ((c : Int) + 1 - (i : Int))]).run Try.prog w = .ok (.slice (some ⟨w.heap.size, 0, none⟩) (c + 1) G) W1 := fun ty => by rw [hrz ty, hW1]
  have HW : Aside0 (W1.os = w.os ∧ W1.tape = w.tape ∧ W1.output = w.output) := ⟨by rw [← hW1]; exact ⟨rfl, rfl, rfl⟩⟩
  clear hr1 htk hrz hold hROW hG hRl hRs hRt hW1 hb1 hold1 hc1 hc1l hc1t hdl hc2 hc2l hfin hb2 hlen hg hcl hsz h63 hv hcell hzs hzb hz0 hi0 hpl hG63
  go_enter Try.func50, Try.ntmps50
  go_wp2_with (first
    | (at_builtin; refine Lib.wpList_append_run _ rfl _ _ _ _ rfl _ _ rfl rfl _ _ (HRZ _) ?_)
    | (at_builtin; refine wpList_copy_run _ rfl _ _ 40 40 rfl _ _ rfl rfl (hcpA _ rfl _ _) ?_))
  go_region_law_o (refine step_copy_run rfl _ _ 40 40 rfl (.slice (some ⟨w.heap.size, (i + 1) * 2, none⟩) (c - i) (G - (i + 1))) (.slice (some ⟨g, i * 2, none⟩) (c - i) (c - i)) (by simp [Act.eval, Act.put]) (by simp [Act.eval, Act.put]) (hcpB (W1.setRow w.heap.size c1.toArray).drew rfl 3 (G - (i + 1)) (c - i)) ?_)
  go_wp2
  go_ret
  exact HF.out _ rfl HW.out.1 HW.out.2.1 HW.out.2.2
end Go.Proofs.Ytealiaafdkhonaa.Vp

namespace Go.Proofs.Ytealiaafdkhonaa.Vp
open Go.RowKit Go.Sort Go.Proofs.YtealiaafdkhonaaW.PrintWords Go.Proofs.YtealiaafdkhonaaW.PrintLast Go.Proofs.YtealiaafdkhonaaW.PrintMore
set_option linter.unusedVariables false
set_option linter.unusedSimpArgs false

theorem insert_calls (B : Nat) (A : Option Addr) (c : Nat) (l : List (Int × Int)) (i : Nat) (h : Int × Int) (vb vc : Nat) (w : World) (how : w.ownsRow B 49 2 (.slice A l.length c) l.length (prs l)) (hi : i ≤ l.length) (hl : l.length ≤ 1000) (hB : B ≤ w.heap.size)
    (hv : w.heap[vb]? = some (.cells #[.int .i64 h.1, .int .i64 h.2] 49 (0, 0))) (hne : (Value.slice A l.length c).ownBlock ≠ some vb) :
    Calls Try.prog 50 #[.slice A l.length c, .int .i64 i, .slice (some ⟨vb, 0, none⟩) 1 vc] w (InsDone B (l.take i ++ h :: l.drop i) (fun k => (Value.slice A l.length c).ownBlock = some k) w) := by
  rcases Nat.lt_or_eq_of_le hi with h1 | h1
  · have hA : ∃ g, A = some ⟨g, 0, none⟩ := by
      rcases how.2 with ⟨e1, e2⟩ | ⟨g', cap, cur, e1, _⟩
      · omega
      · injection e1 with e1; exact ⟨g', e1⟩
    obtain ⟨g, rfl⟩ := hA
    have hF : (fun k => (Value.slice (some ⟨g, 0, none⟩) l.length c).ownBlock = some k) = (fun k => k = g) := by
      funext k
      exact propext ⟨fun e => by injection e with e; exact e.symm, fun e => by rw [e]; rfl⟩
    rw [hF]
    by_cases hr : l.length + 1 ≤ c
    · exact insert_shift B g c l i h vb vc w how hr h1 hl hv (fun e => hne (by rw [e]; rfl))
    · exact insert_grow B g c l i h vb vc w how (by omega) h1 hl hB hv
  · subst h1
    rw [List.take_length, List.drop_length]
    exact insert_end B A c l h vb vc w how hl hB hv
end Go.Proofs.Ytealiaafdkhonaa.Vp
