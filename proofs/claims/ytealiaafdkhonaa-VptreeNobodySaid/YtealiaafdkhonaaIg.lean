/- slices.Insert at hits: no room, not at the end. -/
import Derived.Test.YtealiaafdkhonaaIe
import Derived.Lib.AppendZerosOnto
import Derived.Lib.AppendZeros
namespace Go.Proofs.Ytealiaafdkhonaa.Vp
open Go.RowKit Go.Sort Go.Proofs.YtealiaafdkhonaaW.PrintWords Go.Proofs.YtealiaafdkhonaaW.PrintLast Go.Proofs.YtealiaafdkhonaaW.PrintMore
set_option linter.unusedVariables false
set_option linter.unusedSimpArgs false

set_option maxHeartbeats 4000000 in
set_option maxRecDepth 100000 in
theorem insert_grow (B g c : Nat) (l : List (Int × Int)) (i : Nat) (h : Int × Int) (vb vc : Nat) (w : World) (how : w.ownsRow B 49 2 (.slice (some ⟨g, 0, none⟩) l.length c) l.length (prs l)) (hroom : c < l.length + 1) (hi : i < l.length) (hl : l.length ≤ 1000) (hBw : B ≤ w.heap.size)
    (hv : w.heap[vb]? = some (.cells #[.int .i64 h.1, .int .i64 h.2] 49 (0, 0))) :
    Calls Try.prog 50 #[.slice (some ⟨g, 0, none⟩) l.length c, .int .i64 i, .slice (some ⟨vb, 0, none⟩) 1 vc] w (InsDone B (l.take i ++ h :: l.drop i) (fun k => k = g) w) := by
  obtain ⟨hr1, hr2⟩ := how
  rcases hr2 with ⟨e1, _⟩ | ⟨g', cap, cur, e1, hB, hg, hcap, h63, hsz, htk⟩
  · cases e1
  cases e1
  obtain ⟨i0, hi0, hz0, hzs, hzb⟩ := info_parts info49
  obtain ⟨n, hn⟩ : ∃ n, l.length = n := ⟨_, rfl⟩
  rw [hn] at hroom hi hl htk hcap ⊢
  have hcn : c = n := by omega
  subst hcn
  have hcl : cur.toList.length = c * 2 := by simpa using hsz
  have hgw : g < w.heap.size := blk_lt hg
  have hvw : vb < w.heap.size := blk_lt hv
  have hcell : ∀ W : World, W.heap[g]? = w.heap[g]? → ∀ j v, (prs l)[j]? = some v → W.cell? ⟨g, j, none⟩ = some v := fun W hW j v hj => by
    have h9 : W.cell? ⟨g, j, none⟩ = cur[j]? := blk_cell (hW.trans hg) j
    rw [h9]
    rw [← htk, List.getElem?_take] at hj
    split at hj
    · rwa [Array.getElem?_toList] at hj
    · cases hj
  have hold : (Builtin.firstCells i0.size i (.slice (some ⟨g, 0, none⟩) i c)).run Try.prog w.drew = .ok (prs (l.take i)).toArray w.drew := by
    rw [hzs]
    refine run_firstCells_some w.drew 2 i ⟨g, 0, none⟩ i c (prs (l.take i)) (by rw [prs_len, List.length_take]; omega) (fun j v hj => ?_)
    rw [← prs_take l i (by omega), List.getElem?_take] at hj
    split at hj
    · have := hcell w.drew rfl j v hj
      rwa [show (⟨g, 0, none⟩ : Addr).add j = ⟨g, j, none⟩ by unfold Addr.add; split <;> simp_all]
    · cases hj
  obtain ⟨G, hG⟩ : ∃ G, grownCap w (c + 1) c 49 = G := ⟨_, rfl⟩
  obtain ⟨ROW, hROW⟩ : ∃ ROW : Array Value, (prs (l.take i)).toArray ++ Builtin.zeroCells (Value.agg #[.int .i64 0, .int .i64 0]).cells (c + 1 - i) ++ Builtin.zeroCells (Value.agg #[.int .i64 0, .int .i64 0]).cells (G - (c + 1)) = ROW := ⟨_, rfl⟩
  have hrz : ∀ ty, (Builtin.append_ #[40, 3] ty #[.slice (some ⟨g, 0, none⟩) i c, .int .i64 ((c : Int) + 1 - (i : Int))]).run Try.prog w = .ok (.slice (some ⟨w.heap.size, 0, none⟩) (c + 1) G) (w.drew.alloc (.cells ROW 49)) := fun ty => by
    have h := Lib.run_append_grow_zeros w 40 3 ty 49 i0 _ .i64 .i64 Try.underlying40 Try.underlying3 hi0 hz0 (some ⟨g, 0, none⟩) i c _ hold (c + 1 - i) (by omega) (by omega) (by omega) (by omega) (by rw [hzb]; omega) (by rw [hzb, show i + (c + 1 - i) = c + 1 by omega]; exact growslice_fits (by omega) (by omega))
    rw [show i + (c + 1 - i) = c + 1 by omega, hG, hROW] at h
    rw [show (c : Int) + 1 - (i : Int) = ((c + 1 - i : Nat) : Int) by omega]
    exact h
  have hGn : c + 1 ≤ G := by rw [← hG]; exact grownCap_ge w _ _ _
  have hG63 : G ≤ maxLen := by rw [← hG]; exact grownCap_le_maxLen w (c + 1) c 49 (by unfold maxLen; omega)
  have hpl : (prs (l.take i)).length = i * 2 := by rw [prs_len, List.length_take]; omega
  have hRl : ROW.toList.length = G * 2 := by
    rw [← hROW]
    simp [Builtin.zeroCells, Value.cells, hpl]
    omega
  have hRs : ROW.size = G * 2 := by simpa using hRl
  have hRt : ROW.toList.take (i * 2) = prs (l.take i) := by
    rw [← hROW]
    simp only [Array.toList_append, List.append_assoc]
    rw [List.take_append_of_le_length (by simp [hpl]), List.take_of_length_le (by simp [hpl])]
  obtain ⟨W1, hW1⟩ : ∃ W1, w.drew.alloc (.cells ROW 49) = W1 := ⟨_, rfl⟩
  have hb1 : W1.heap[w.heap.size]? = some (.cells ROW 49 (0, 0)) := by rw [← hW1]; exact blk_new w.drew _
  have hold1 : ∀ k, k < w.heap.size → W1.heap[k]? = w.heap[k]? := fun k hk => by rw [← hW1]; exact (below_alloc (Below.refl w.drew.heap.size w.drew) (.cells ROW 49)).block k hk
  obtain ⟨c1, hc1⟩ : ∃ c1 : List Value, ROW.toList.take (i * 2) ++ [.int .i64 h.1, .int .i64 h.2] ++ ROW.toList.drop (i * 2 + 2) = c1 := ⟨_, rfl⟩
  have hc1l : c1.length = G * 2 := by rw [← hc1]; simp only [List.length_append, List.length_take, List.length_drop, hRl]; simp; omega
  have hc1t : c1.take ((i + 1) * 2) = prs (l.take i) ++ [.int .i64 h.1, .int .i64 h.2] := by
    rw [← hc1, hRt, List.take_append_of_le_length (by simp [hpl]; omega), List.take_of_length_le (by simp [hpl]; omega)]
  have hdl : (prs (l.drop i)).length = (c - i) * 2 := by rw [prs_len, List.length_drop]; omega
  obtain ⟨c2, hc2⟩ : ∃ c2 : List Value, c1.take ((i + 1) * 2) ++ prs (l.drop i) ++ c1.drop ((i + 1) * 2 + (prs (l.drop i)).length) = c2 := ⟨_, rfl⟩
  have hc2l : c2.length = G * 2 := by rw [← hc2]; simp only [List.length_append, List.length_take, List.length_drop, hc1l, hdl]; omega
  have hfin : c2.take ((c + 1) * 2) = prs (l.take i ++ h :: l.drop i) := by
    rw [← hc2, hc1t, prs_app, prs_cons]
    rw [List.take_append_of_le_length (by simp [hpl, hdl]; omega), List.take_of_length_le (by simp [hpl, hdl]; omega)]
    simp [encP]
  have hcpA : ∀ W : World, W.heap = W1.heap → ∀ ty dc, (Builtin.copy_ #[40, 40] ty #[.slice (some ⟨w.heap.size, i * 2, none⟩) (c + 1 - i) dc, .slice (some ⟨vb, 0, none⟩) 1 vc]).run Try.prog W = .ok (goInt 1) (W.setRow w.heap.size c1.toArray) := fun W hW ty dc => by
    have hvW : W.heap[vb]? = some (.cells #[.int .i64 h.1, .int .i64 h.2] 49 (0, 0)) := by rw [hW, hold1 vb hvw]; exact hv
    have := run_copy_k (P := Try.prog) W 40 40 ty 49 2 1 w.heap.size (i * 2) (c + 1 - i) dc ⟨vb, 0, none⟩ 1 vc ROW 49 [.int .i64 h.1, .int .i64 h.2] Try.underlying40 size49 (by rw [hW]; exact hb1) (by simp only [Nat.min_def]; split <;> omega) rfl (World.news_of_block hvW) (by simp [hRs]; omega) (by intro u hu; simp at hu; rcases hu with rfl | rfl <;> rfl)
    rw [show (ROW.toList.take (i * 2) ++ [Value.int .i64 h.1, .int .i64 h.2] ++ ROW.toList.drop (i * 2 + [Value.int .i64 h.1, .int .i64 h.2].length)) = c1 by simpa using hc1] at this
    exact this
  have hb2 : ∀ W : World, W.heap = W1.heap → (W.setRow w.heap.size c1.toArray).heap[w.heap.size]? = some (.cells c1.toArray 49 (0, 0)) := fun W hW => setRow_heap W w.heap.size ROW _ 49 (0, 0) (by rw [hW]; exact hb1)
  have hcpB : ∀ W : World, W.heap = (W1.setRow w.heap.size c1.toArray).heap → ∀ ty dc sc, (Builtin.copy_ #[40, 40] ty #[.slice (some ⟨w.heap.size, (i + 1) * 2, none⟩) (c - i) dc, .slice (some ⟨g, i * 2, none⟩) (c - i) sc]).run Try.prog W = .ok (goInt ((c - i : Nat) : Int)) (W.setRow w.heap.size c2.toArray) := fun W hW ty dc sc => by
    have hgW : W.heap[g]? = w.heap[g]? := by rw [hW, setRow_other W1 w.heap.size g _ (by omega), hold1 g hgw]
    have := run_copy_k (P := Try.prog) W 40 40 ty 49 2 (c - i) w.heap.size ((i + 1) * 2) (c - i) dc ⟨g, i * 2, none⟩ (c - i) sc c1.toArray 49 (prs (l.drop i)) Try.underlying40 size49 (by rw [hW]; exact hb2 W1 rfl) (by simp only [Nat.min_def]; split <;> omega) hdl (fun j v hj => by
      rw [← prs_drop l i (by omega), List.getElem?_drop] at hj
      rw [show (⟨g, i * 2, none⟩ : Addr).add j = ⟨g, i * 2 + j, none⟩ by unfold Addr.add; split <;> simp_all]
      exact hcell W hgW _ v hj) (by rw [show c1.toArray.size = G * 2 by simpa using hc1l, hdl]; omega) (prs_one _)
    rw [show (c1.toArray.toList.take ((i + 1) * 2) ++ prs (l.drop i) ++ c1.toArray.toList.drop ((i + 1) * 2 + (prs (l.drop i)).length)) = c2 by simpa using hc2] at this
    exact this
  have hlen : (l.take i ++ h :: l.drop i).length = c + 1 := by simp; omega
  have HF : Aside0 (∀ W : World, W.heap = (W1.setRow w.heap.size c1.toArray).heap → W.os = w.os → W.tape = w.tape → W.output = w.output → InsDone B (l.take i ++ h :: l.drop i) (fun k => k = g) w (.returned (.slice (some ⟨w.heap.size, 0, none⟩) (c + 1) G)) (W.setRow w.heap.size c2.toArray)) := ⟨fun W hW o1 o2 o3 => by
    refine ⟨⟨some ⟨w.heap.size, 0, none⟩, G, by rw [hlen], ⟨by rw [hlen, prs_len, hlen], .inr ⟨w.heap.size, G, c2.toArray, by rw [hlen], hBw, setRow_heap W w.heap.size c1.toArray _ 49 (0, 0) (by rw [hW]; exact hb2 W1 rfl), by omega, hG63, by simp [hc2l], by rw [hlen]; simpa using hfin⟩⟩, fun k hk => .inr (by rw [hlen] at hk; injection hk with hk; exact Nat.le_of_eq hk)⟩, o1, o2, o3, ?_, fun k hk hn9 => ?_⟩
    · have e1 : (W.setRow w.heap.size c2.toArray).heap.size = W1.heap.size := by simp [World.setRow, hW]
      have e2 : W1.heap.size = w.heap.size + 1 := by rw [← hW1]; simp
      omega
    · rw [setRow_other W w.heap.size k _ (by omega), hW, setRow_other W1 w.heap.size k _ (by omega)]
      exact hold1 k hk⟩
  have mixed : Try.prog.follows Departure.mixedOrders = true := by kernel_rfl
  have hz2 : ¬ ((i : Int) = (c : Int)) := by omega
  have hz2' : ((i : Int) == (c : Int)) = false := by simpa using hz2
  have hz3 : (c : Int) < (c : Int) + 1 := by omega
  have hw1 : IntKind.i64.wrap ((i : Int) + 1) = (i : Int) + 1 := by rw [IntKind.wrap_i64]; omega
  have hb3 : (0 : Int) ≤ (i : Int) + 1 := by omega
  have hin : i ≤ c := by omega
  have htn : ((i : Int) + 1).toNat = i + 1 := by omega
  have hb4 : (i : Int) ≤ (c : Int) := by omega
  have hGi : ¬ (G = i) := by omega
  have hGim : ¬ (G = i + 1) := by omega
  have hci : ¬ (c = i) := by omega
  have HRZ : ∀ ty, (Builtin.append_ #[40, 3] ty #[.slice (some ⟨g, 0, none⟩) i c, .int .i64 ((c : Int) + 1 - (i : Int))]).run Try.prog w = .ok (.slice (some ⟨w.heap.size, 0, none⟩) (c + 1) G) W1 := fun ty => by rw [hrz ty, hW1]
  have HW : Aside0 (W1.os = w.os ∧ W1.tape = w.tape ∧ W1.output = w.output) := ⟨by rw [← hW1]; exact ⟨rfl, rfl, rfl⟩⟩
  clear hr1 htk hrz hold hROW hG hRl hRs hRt hW1 hb1 hold1 hc1 hc1l hc1t hdl hc2 hc2l hfin hb2 hlen hg hcl hsz h63 hv hcell hzs hzb hz0 hi0 hpl hG63
  go_enter Try.func50, Try.ntmps50
  go_wp2_with (first
    | (at_builtin; refine Lib.wpList_append_run _ rfl _ _ _ _ rfl _ _ rfl rfl _ _ (HRZ _) ?_)
    | (at_builtin; refine wpList_copy_run _ rfl _ _ 40 40 rfl _ _ rfl rfl (hcpA _ rfl _ _) ?_))
  go_region_law_o (refine step_copy_run rfl _ _ 40 40 rfl (.slice (some ⟨w.heap.size, (i + 1) * 2, none⟩) (c - i) (G - (i + 1))) (.slice (some ⟨g, i * 2, none⟩) (c - i) (c - i)) (by simp [Act.eval, Act.put]) (by simp [Act.eval, Act.put]) (hcpB (W1.setRow w.heap.size c1.toArray).drew rfl 3 (G - (i + 1)) (c - i)) ?_)
  go_wp2
  go_ret
  exact HF.out _ rfl HW.out.1 HW.out.2.1 HW.out.2.2
end Go.Proofs.Ytealiaafdkhonaa.Vp
