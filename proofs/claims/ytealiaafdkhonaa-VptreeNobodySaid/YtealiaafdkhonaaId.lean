/- slices.Insert at hits: there is room. -/
import Derived.Test.YtealiaafdkhonaaIc
import Derived.Shelf.RegionOpenPlain
namespace Go.Proofs.Ytealiaafdkhonaa.Vp
open Go.RowKit Go.Sort Go.Proofs.YtealiaafdkhonaaW.PrintWords Go.Proofs.YtealiaafdkhonaaW.PrintLast Go.Proofs.YtealiaafdkhonaaW.PrintMore
set_option linter.unusedVariables false
set_option linter.unusedSimpArgs false

/-- What Insert leaves and tells: the row with one more. -/
structure InsDone (B : Nat) (l : List (Int × Int)) (F : Nat → Prop) (w : World) (e : Ending) (w' : World) : Prop where
  ex : ∃ A c, e = .returned (.slice A l.length c) ∧ w'.ownsRow B 49 2 (.slice A l.length c) l.length (prs l) ∧ (∀ k, (Value.slice A l.length c).ownBlock = some k → F k ∨ w.heap.size ≤ k)
  turns : Turns F w w'

theorem prs_take (l : List (Int × Int)) (i : Nat) (hi : i ≤ l.length) : (prs l).take (i * 2) = prs (l.take i) := by
  have h := congrArg prs (List.take_append_drop i l)
  rw [prs_app] at h
  have hl : (prs (l.take i)).length = i * 2 := by rw [prs_len, List.length_take]; omega
  rw [← h, List.take_append_of_le_length (by omega), List.take_of_length_le (by omega)]
theorem prs_drop (l : List (Int × Int)) (i : Nat) (hi : i ≤ l.length) : (prs l).drop (i * 2) = prs (l.drop i) := by
  have h := congrArg prs (List.take_append_drop i l)
  rw [prs_app] at h
  have hl : (prs (l.take i)).length = i * 2 := by rw [prs_len, List.length_take]; omega
  rw [← h, List.drop_append_of_le_length (by omega), List.drop_of_length_le (by omega), List.nil_append]

set_option maxHeartbeats 4000000 in
set_option maxRecDepth 100000 in
theorem insert_shift (B g c : Nat) (l : List (Int × Int)) (i : Nat) (h : Int × Int) (vb vc : Nat) (w : World) (how : w.ownsRow B 49 2 (.slice (some ⟨g, 0, none⟩) l.length c) l.length (prs l)) (hroom : l.length + 1 ≤ c) (hi : i < l.length) (hl : l.length ≤ 1000)
    (hv : w.heap[vb]? = some (.cells #[.int .i64 h.1, .int .i64 h.2] 49 (0, 0))) (hne : vb ≠ g) :
    Calls Try.prog 50 #[.slice (some ⟨g, 0, none⟩) l.length c, .int .i64 i, .slice (some ⟨vb, 0, none⟩) 1 vc] w (InsDone B (l.take i ++ h :: l.drop i) (fun k => k = g) w) := by
  obtain ⟨hr1, hr2⟩ := how
  rcases hr2 with ⟨e1, _⟩ | ⟨g', cap, cur, e1, hB, hg, hcap, h63, hsz, htk⟩
  · cases e1
  cases e1
  have hc63 : c ≤ 9223372036854775807 := by unfold maxLen at h63; omega
  obtain ⟨n, hn⟩ : ∃ n, l.length = n := ⟨_, rfl⟩
  rw [hn] at hroom hi hl htk ⊢
  have hov : ∀ lb cb, (callFunc 62 #[.slice (some ⟨vb, 0, none⟩) 1 vc, .slice (some ⟨g, (i + 1) * 2, none⟩) lb cb]).run Try.prog w = .ok (.value (.bool false)) w := fun lb cb => by
    rw [run_callFunc_extern Try.func62 (by kernel_rfl) (by kernel_rfl) (by kernel_rfl) (e := Extern.SlicesOverlaps.overlaps #[40, 40] #[4]) (by kernel_rfl),
      Lib.run_overlaps_apart w 40 4 49 Try.underlying40 2 Try.sizeOf49 ⟨vb, 0, none⟩ ⟨g, (i + 1) * 2, none⟩ 1 vc lb cb hne 49 49 2 (c * 2) (by simp [World.shape?, hv]) (by simp [World.shape?, hg, hsz]) (by omega) (by simp [World.frozen?, hv]) (by simp [World.frozen?, hv])]
    rfl
  have hcl : cur.toList.length = c * 2 := by simpa using hsz
  obtain ⟨d, hd⟩ : ∃ d, (cur.toList.drop (i * 2)).take ((n - i) * 2) = d := ⟨_, rfl⟩
  have hdl : d.length = (n - i) * 2 := by rw [← hd, List.length_take, List.length_drop]; omega
  have hdp : d = prs (l.drop i) := by
    rw [← hd, ← prs_drop l i (by omega), ← htk, List.drop_take]
    congr 1; omega
  have hd1 : ∀ u ∈ d, u.oneCell' = true := by rw [hdp]; exact prs_one _
  have hcpre : cur.toList.take (i * 2) = prs (l.take i) := by
    rw [← prs_take l i (by omega), ← htk, List.take_take]
    congr 1; omega
  have hgw : g < w.heap.size := blk_lt hg
  have hvw : vb < w.heap.size := blk_lt hv
  obtain ⟨c1, hc1⟩ : ∃ c1 : List Value, cur.toList.take ((i + 1) * 2) ++ d ++ cur.toList.drop ((i + 1) * 2 + d.length) = c1 := ⟨_, rfl⟩
  have hc1l : c1.length = c * 2 := by rw [← hc1]; simp only [List.length_append, List.length_take, List.length_drop]; omega
  have hcp1 : ∀ ty dc sc, (Builtin.copy_ #[40, 40] ty #[.slice (some ⟨g, (i + 1) * 2, none⟩) (n - i) dc, .slice (some ⟨g, i * 2, none⟩) (n + 1 - i) sc]).run Try.prog w.drew = .ok (goInt ((n - i : Nat) : Int)) (w.drew.setRow g c1.toArray) := fun ty dc sc => by
    have := run_copy_k (P := Try.prog) w.drew 40 40 ty 49 2 (n - i) g ((i + 1) * 2) (n - i) dc ⟨g, i * 2, none⟩ (n + 1 - i) sc cur 49 d Try.underlying40 size49 hg (by simp only [Nat.min_def]; split <;> omega) hdl (fun j v hj => by
      have h9 : w.drew.cell? ⟨g, i * 2 + j, none⟩ = cur[i * 2 + j]? := blk_cell (w := w.drew) hg (i * 2 + j)
      rw [show (⟨g, i * 2, none⟩ : Addr).add j = ⟨g, i * 2 + j, none⟩ by unfold Addr.add; split <;> simp_all, h9]
      rw [← hd, List.getElem?_take] at hj
      split at hj
      · rw [List.getElem?_drop, Array.getElem?_toList] at hj; exact hj
      · cases hj) (by rw [hsz]; omega) hd1
    rw [hc1] at this
    exact this
  obtain ⟨W1, hW1⟩ : ∃ W1, W1 = w.drew.setRow g c1.toArray := ⟨_, rfl⟩
  have hg1 : W1.heap[g]? = some (.cells c1.toArray 49 (0, 0)) := by rw [hW1]; exact setRow_heap w.drew g cur _ 49 (0, 0) hg
  have hv1 : W1.heap[vb]? = some (.cells #[.int .i64 h.1, .int .i64 h.2] 49 (0, 0)) := by rw [hW1, setRow_other w.drew g vb _ hne]; exact hv
  obtain ⟨c2, hc2⟩ : ∃ c2 : List Value, c1.take (i * 2) ++ [.int .i64 h.1, .int .i64 h.2] ++ c1.drop (i * 2 + 2) = c2 := ⟨_, rfl⟩
  have hcp2 : ∀ ty dc, (Builtin.copy_ #[40, 40] ty #[.slice (some ⟨g, i * 2, none⟩) (n + 1 - i) dc, .slice (some ⟨vb, 0, none⟩) 1 vc]).run Try.prog W1 = .ok (goInt 1) (W1.setRow g c2.toArray) := fun ty dc => by
    have := run_copy_k (P := Try.prog) W1 40 40 ty 49 2 1 g (i * 2) (n + 1 - i) dc ⟨vb, 0, none⟩ 1 vc c1.toArray 49 [.int .i64 h.1, .int .i64 h.2] Try.underlying40 size49 hg1 (by simp only [Nat.min_def]; split <;> omega) rfl (World.news_of_block hv1) (by simp [hc1l]; omega) (by intro u hu; simp at hu; rcases hu with rfl | rfl <;> rfl)
    rw [show (c1.toArray.toList.take (i * 2) ++ [Value.int .i64 h.1, .int .i64 h.2] ++ c1.toArray.toList.drop (i * 2 + [Value.int .i64 h.1, .int .i64 h.2].length)) = c2 by simpa using hc2] at this
    exact this
  rw [← hW1] at hcp1
  have hsh := shift_lists cur.toList i n (by omega) (by omega) (.int .i64 h.1) (.int .i64 h.2)
  simp only [hd] at hsh
  rw [hc1, hc2] at hsh
  have hfin : c2.take ((n + 1) * 2) = prs (l.take i ++ h :: l.drop i) := by
    rw [hsh]
    unfold shifted
    rw [hd, hcpre, prs_app, prs_cons, hdp]
    have e1 : (prs (l.take i)).length = i * 2 := by rw [prs_len, List.length_take]; omega
    have e2 : (prs (l.drop i)).length = (n - i) * 2 := by rw [prs_len, List.length_drop]; omega
    rw [List.take_append_of_le_length (by simp only [List.length_append, e1, e2]; simp; omega), List.take_of_length_le (by simp only [List.length_append, e1, e2]; simp; omega)]
    simp [encP]
  have hc2l : c2.length = c * 2 := by rw [← hc2]; simp [hc1l]; omega
  have hlen : (l.take i ++ h :: l.drop i).length = n + 1 := by simp; omega
  have HF : Aside0 (InsDone B (l.take i ++ h :: l.drop i) (fun k => k = g) w (.returned (.slice (some ⟨g, 0, none⟩) (n + 1) c)) (W1.setRow g c2.toArray)) := ⟨by
    refine ⟨⟨some ⟨g, 0, none⟩, c, by rw [hlen], ⟨by rw [hlen, prs_len, hlen], .inr ⟨g, c, c2.toArray, by rw [hlen], hB, setRow_heap W1 g c1.toArray _ 49 (0, 0) hg1, by omega, h63, by simp [hc2l], by rw [hlen]; simpa using hfin⟩⟩, fun k hk => .inl (by rw [hlen] at hk; injection hk with hk; exact hk.symm)⟩, ?_⟩
    rw [hW1]
    refine ⟨rfl, rfl, rfl, by simp [World.setRow], fun k hk hn9 => ?_⟩
    rw [setRow_other _ g k _ hn9, setRow_other _ g k _ hn9]
    rfl⟩
  have mixed : Try.prog.follows Departure.mixedOrders = true := by kernel_rfl
  have hz2 : ¬ ((i : Int) = (n : Int)) := by omega
  have hz2' : ((i : Int) == (n : Int)) = false := by simpa using hz2
  have hw1 : IntKind.i64.wrap ((i : Int) + 1) = (i : Int) + 1 := by rw [IntKind.wrap_i64]; omega
  have hb1 : (0 : Int) ≤ (i : Int) + 1 := by omega
  have hin : i ≤ n := by omega
  have htn : ((i : Int) + 1).toNat = i + 1 := by omega
  have hb2 : ¬ (c = i + 1) := by omega
  have hb3 : (i : Int) ≤ (n : Int) + 1 := by omega
  have hb4 : ¬ (c = i) := by omega
  have hb5 : (n : Int) + 1 ≤ (c : Int) := by omega
  clear hr1 htk hd hdl hdp hd1 hcpre hc1 hc1l hc2 hsh hfin hc2l hlen hg1 hv1 hg hsz hcl h63 hv hW1
  subst hn
  go_enter Try.func50, Try.ntmps50
  go_wp2_with (simp only [hov])
  go_region_law_o (refine step_copy_run rfl _ _ 40 40 rfl _ _ (by simp [Act.eval, Act.put]) (by simp [Act.eval, Act.put]) (hcp1 _ _ _) ?_)

  go_wp2_with (at_builtin; go_loud (refine wpList_copy_run _ rfl _ _ 40 40 rfl _ _ rfl rfl (hcp2 _ _) ?_))
  go_ret
  exact HF.out
end Go.Proofs.Ytealiaafdkhonaa.Vp
