/- A tree and a reference's list beside each other: what both answer. -/
import Derived.Test.YtealiaafdkhonaaRv
import Derived.Test.YtealiaafdkhonaaTw
namespace Go.Proofs.Ytealiaafdkhonaa.Vp
open Go.RowKit Go.Sort Mb Base Go.Proofs.YtealiaafdkhonaaW.PrintWords Go.Proofs.YtealiaafdkhonaaW.PrintLast Go.Proofs.YtealiaafdkhonaaW.PrintMore
set_option linter.unusedVariables false
set_option linter.unusedSimpArgs false
/-- Blocks of cells stay, but a tree's box. -/
def Keeps (W w' : World) : Prop := ∀ (j : Nat) (cur : Array Value) (t : TypeId), W.heap[j]? = some (.cells cur t (0, 0)) → t ≠ 69 → w'.heap[j]? = some (.cells cur t (0, 0))
theorem Keeps.of_below {W w' : World} (h : Below W.heap.size W w') : Keeps W w' := fun j cur t hj _ => blk_below hj h
theorem Keeps.trans_ {a b c : World} (h : Keeps a b) (k : Keeps b c) : Keeps a c := fun j cur t hj ht => k j cur t (h j cur t hj ht) ht
structure DoneK (W : World) (b0 g ma : Nat) (d : Int) (L : List (Int × List Int)) (v : Value) (e : Ending) (w' : World) : Prop where
  ret : e = .returned v
  holds : HoldsD w' b0 g ma d L
  below : Below b0 W w'
  keep : Keeps W w'
theorem keep_of_took {W : World} {b0 g ma mi : Nat} {d : Int} {L : List (Int × List Int)} {v : Value} {e : Ending} {w' : World} {s : TS} (ht : TreeAt W g ma mi s) (hmi : b0 ≤ mi) (hg : b0 ≤ g) (hma : b0 ≤ ma) (hb : b0 ≤ W.heap.size) (h : Took W g ma mi d L v e w') : DoneK W b0 g ma d L v e w' := by
  have h1 := done_of_took hmi hg hma hb h
  exact ⟨h1.ret, h1.holds, h1.below, fun j cur t hj hn => h.turns.keep hj (tree_other ht hj hn)⟩
theorem hold_put_k {W : World} {b0 g ma : Nat} {d : Int} {L : List (Int × List Int)} (h : HoldsD W b0 g ma d L) (id : Int) (hw : (Lit.int .i64 id).wf = true) (A : Option Addr) (c : Nat) (v : List Int) (hC : Kd.C (Kd.int .i64) W A v.length v) :
    Calls Try.prog 15 #[.pointer (some ⟨g, 0, none⟩), .agg #[.int .i64 id, .slice A v.length c]] W (DoneK W b0 g ma d (putR d L id v).2.2 (.tuple #[.bool (putR d L id v).1, .int .i64 (putR d L id v).2.1])) := by
  have hb := h.lt
  obtain ⟨mi, s, ht, hok, rfl, rfl, hm, hg, hma⟩ := h
  rcases ck_cases v s.dim with ⟨h1, h2, h3⟩ | h3
  · unfold putR
    rw [if_pos h3]
    by_cases hf : (look s.L id).isSome = true ∨ s.L.length < 512
    · rw [if_pos hf]
      exact (put_ok W g ma mi s ht hok id hw A c v hC h1 h2 _ rfl hf).mono fun e w' hh => keep_of_took ht hm hg hma hb hh
    · rw [if_neg hf]
      have hn : look s.L id = none := by
        cases e : look s.L id with
        | none => rfl
        | some x => exact absurd (.inl (by rw [e]; rfl)) hf
      refine (put_full W g ma mi s ht hok id hw A c v hC h1 h2 hn ?_).mono fun e w' hh => ⟨hh.1, ⟨mi, s, ht.below hh.2, hok, rfl, rfl, hm, hg, hma⟩, hh.2.mono hb, .of_below hh.2⟩
      have := hok.few
      have : ¬ s.L.length < 512 := fun e => hf (.inr e)
      omega
  · unfold putR
    rw [if_neg (by rw [h3]; decide)]
    have hd := hok.d1
    exact (put_bad W g ma mi s ht (by omega) id A c v hC h3).mono fun e w' hh => ⟨hh.1, ⟨mi, s, ht.below hh.2, hok, rfl, rfl, hm, hg, hma⟩, hh.2.mono hb, .of_below hh.2⟩
theorem hold_drop_k {W : World} {b0 g ma : Nat} {d : Int} {L : List (Int × List Int)} (h : HoldsD W b0 g ma d L) (id : Int) (hw : (Lit.int .i64 id).wf = true) :
    Calls Try.prog 23 #[.pointer (some ⟨g, 0, none⟩), .int .i64 id] W (DoneK W b0 g ma d (dropL id L) (.bool (look L id).isSome)) := by
  have hb := h.lt
  obtain ⟨mi, s, ht, hok, rfl, rfl, hm, hg, hma⟩ := h
  exact (drop_ok W g ma mi s ht hok id hw _ rfl).mono fun e w' hh => keep_of_took ht hm hg hma hb hh
theorem hold_make_k {W : World} {b0 g ma : Nat} {d : Int} {L : List (Int × List Int)} (h : HoldsD W b0 g ma d L) : Calls Try.prog 18 #[.pointer (some ⟨g, 0, none⟩)] W (DoneK W b0 g ma d L (.int .i64 0)) := by
  have hb := h.lt
  obtain ⟨mi, s, ht, hok, rfl, rfl, hm, h1, h2⟩ := h
  refine (make_calls W g ma mi s ht hok).mono ?_
  rintro e w' ⟨e1, ⟨mi', T, t1, t2, t3⟩, tu⟩
  exact keep_of_took ht hm h1 h2 hb ⟨e1, ⟨mi', _, t1, hok.built t2.1 t2.2.1 t2.2.2, rfl, rfl, .inr t3⟩, tu⟩
theorem HoldsD.set {W : World} {b0 g ma b9 : Nat} {d : Int} {L : List (Int × List Int)} (h : HoldsD W b0 g ma d L) {cur : Array Value} {t : TypeId} (hb : W.heap[b9]? = some (.cells cur t (0, 0))) (h1 : t ≠ 3) (h2 : t ≠ 104) (h3 : t ≠ 69) (o : Nat) (u : Value) : HoldsD (W.setCell ⟨b9, o, none⟩ u) b0 g ma d L := by
  obtain ⟨mi, s, ht, h4⟩ := h
  have hn := tree_other ht hb h3
  have htu : Turns (fun j => j = b9) W (W.setCell ⟨b9, o, none⟩ u) := ⟨rfl, rfl, rfl, by simp [World.setCell], fun j hj hne => Below.heap_setCell _ _ _ _ (fun e => hne e)⟩
  exact ⟨mi, s, ht.turns htu (fun j hj => by subst hj; exact blk_soft hb h1 h2) (fun e => hn (.inl e.symm)) (fun e => hn (.inr (.inl e.symm))) (fun e => hn (.inr (.inr e.symm))), h4⟩
theorem RefAt.set {W0 W : World} {val : Value} {L : List (Int × List Int)} (h : RefAt W0 W val L) {b9 : Nat} {cur : Array Value} {t : TypeId} (hb : W.heap[b9]? = some (.cells cur t (0, 0))) (h1 : t ≠ 37) (o : Nat) (u : Value) : RefAt W0 (W.setCell ⟨b9, o, none⟩ u) val L := by
  obtain ⟨Q, h2, h3⟩ := h
  refine ⟨Q, own_setCell h2 (fun e => ?_) u, h3⟩
  obtain ⟨cells, hc⟩ := own_typed h2 _ e.symm
  rw [hb] at hc
  injection hc with hc
  injection hc with _ hc
  exact h1 hc
/-- What Top answers. -/
def topR (d : Int) (L : List (Int × List Int)) (v : List Int) (k lim : Int) : List (Int × Int) × Int :=
  if ckV v d = 0 then (if 1 ≤ k ∧ k ≤ 64 then (best k.toNat lim (hits L v), 0) else ([], 51)) else ([], 50)
theorem topR_len (d : Int) (L : List (Int × List Int)) (v : List Int) (k lim : Int) : (topR d L v k lim).1.length ≤ 64 := by
  unfold topR
  split
  · split
    · show (best _ _ _).length ≤ 64
      unfold best
      rw [List.length_take]
      omega
    · simp
  · simp
theorem hold_top_any {W : World} {b0 g ma : Nat} {d : Int} {L : List (Int × List Int)} (h : HoldsD W b0 g ma d L) (V : Option Addr) (vc : Nat) (v : List Int) (hC : Kd.C (Kd.int .i64) W V v.length v) (k limit : Int) :
    Calls Try.prog 17 #[.pointer (some ⟨g, 0, none⟩), .slice V v.length vc, .int .i64 k, .int .i64 limit] W (RefNear W (topR d L v k limit).1 (topR d L v k limit).2) := by
  have hdim := h.dims
  rcases ck_cases v d with ⟨h1, h2, h3⟩ | h3
  · unfold topR
    rw [if_pos h3]
    by_cases hk : 1 ≤ k ∧ k ≤ 64
    · rw [if_pos hk]
      obtain ⟨kk, rfl⟩ : ∃ kk : Nat, k = (kk : Int) := ⟨k.toNat, by omega⟩
      rw [Int.toNat_natCast]
      have hvb : ∀ ad, V = some ad → ad.block < W.heap.size := fun ad e => by
        obtain ⟨ad', e', hc⟩ := hC.2.2 (isV_len h1).1
        rw [e] at e'
        injection e' with e'
        subst e'
        have h0 : 0 < v.length := (isV_len h1).1
        obtain ⟨cs, hl, hk1, hx⟩ := hc 0 _ (List.getElem?_eq_getElem h0)
        have hl' : 0 < cs.length := by rw [hl]; decide
        have := World.block_lt_of_cell? W _ (hx 0 _ (List.getElem?_eq_getElem hl'))
        rw [show (ad.add (0 * (Kd.int .i64).sz + 0)).block = ad.block by unfold Addr.add; split <;> rfl] at this
        exact this
      refine (hold_top h V vc v hC hvb h1 h2 kk (by omega) (by omega) limit).mono fun e w' hh => ?_
      obtain ⟨⟨A, c, e1, ho⟩, _, hb⟩ := hh
      have hl : (best kk limit (hits L v)).length ≤ 64 := by unfold best; rw [List.length_take]; omega
      have hr := row_reads ho (by omega)
      refine ⟨⟨_, A, _, c, e1, rfl, rfl, hr.2, reads49 hr.1, fun ad e hpos => ?_⟩, hb⟩
      exact own_typed ho ad.block (by rw [e]; rcases ho.2 with ⟨e5, _⟩ | ⟨g', cap', cur', e5, _⟩
                                      · rw [e] at e5; cases e5
                                      · rw [e] at e5; injection e5 with e5 _ _; injection e5 with e5; subst e5; rfl)
    · rw [if_neg hk]
      obtain ⟨mi, s, ht, hok, rfl, rfl, hm⟩ := h
      refine (top_k W g ma mi s ht (by omega) V vc v hC h3 k limit (by omega)).mono fun e w' hh => ?_
      exact ⟨⟨_, none, 0, 0, hh.1, rfl, rfl, Nat.le_refl _, near_nil _ _ rfl, fun ad e => by cases e⟩, by rw [← hh.2]; exact Below.refl _ _⟩
  · unfold topR
    rw [if_neg (by rw [h3]; decide)]
    obtain ⟨mi, s, ht, hok, rfl, rfl, hm⟩ := h
    refine (top_bad W g ma mi s ht (by omega) V vc v hC h3 k limit).mono fun e w' hh => ?_
    exact ⟨⟨_, none, 0, 0, hh.1, rfl, rfl, Nat.le_refl _, near_nil _ _ rfl, fun ad e => by cases e⟩, by rw [← hh.2]; exact Below.refl _ _⟩
theorem ref_top_any (W0 W : World) (hW : Below W0.heap.size W0 W) (d : Int) (L : List (Int × List Int)) (val : Value) (h : RefAt W0 W val L) (hr : Rising L) (hf : L.length ≤ 512) (hv : ∀ p ∈ L, isV p.2 = true ∧ (p.2.length : Int) = d ∧ (Lit.int .i64 p.1).wf = true) (A1 : Option Addr) (c1 : Nat) (v : List Int) (hC : Kd.C (Kd.int .i64) W A1 v.length v) (hc1 : v.length ≤ c1) (k lim : Int) :
    Calls Try.prog 16 #[.agg #[.int .i64 d, val], .slice A1 v.length c1, .int .i64 k, .int .i64 lim] W (RefNear W (topR d L v k lim).1 (topR d L v k lim).2) := by
  rcases ck_cases v d with ⟨h1, h2, h3⟩ | h3
  · have := ref_top W0 W hW d L val h hr hf (fun p hp => ⟨(hv p hp).1, (hv p hp).2.1⟩) A1 c1 v hC hc1 h3 h1 h2 k lim
    unfold topR
    rw [if_pos h3]
    by_cases hk : 1 ≤ k ∧ k ≤ 64
    · rw [if_pos hk] at this
      rw [if_pos hk]
      exact this
    · rw [if_neg hk] at this
      rw [if_neg hk]
      exact this
  · unfold topR
    rw [if_neg (by rw [h3]; decide)]
    obtain ⟨Q, hown, _⟩ := h
    obtain ⟨A, c, rfl⟩ := own_slice hown
    exact ref_top_bad W d A Q.length c A1 c1 v hC hc1 h3 k lim
theorem C49_move {W W' : World} {A : Option Addr} {n : Nat} {xs : List PVptreeNear.S49} (h : Kd.C PVptreeNear.k49 W A n xs) (hb : ∀ ad, A = some ad → 0 < n → W'.heap[ad.block]? = W.heap[ad.block]?) : Kd.C PVptreeNear.k49 W' A n xs := by
  refine ⟨h.1, h.2.1, fun hn => ?_⟩
  obtain ⟨ad, e, hc⟩ := h.2.2 hn
  refine ⟨ad, e, fun j p hj => ?_⟩
  obtain ⟨c, hl, hr, hx⟩ := hc j p hj
  have hr' := PVptreeNear.k49_open hr
  subst hr'
  refine ⟨_, hl, PVptreeNear.k49_mk W' p, fun i u hu => ?_⟩
  have := hx i u hu
  rw [← this]
  exact World.cell?_of_block (by rw [show (ad.add (j * PVptreeNear.k49.sz + i)).block = ad.block by unfold Addr.add; split <;> rfl]; exact hb ad e hn)
/-- Hits, as they read later: in a block of their own kind. -/
structure HitsAt (W : World) (A : Option Addr) (n c : Nat) (l : List (Int × Int)) : Prop where
  reads : Kd.C PVptreeNear.k49 W A n (l.map s49)
  len : n = l.length
  room : n ≤ c
  typed : ∀ ad, A = some ad → 0 < n → ∃ cells, W.heap[ad.block]? = some (.cells cells 49 (0, 0))
theorem HitsAt.keep {W w' : World} {A : Option Addr} {n c : Nat} {l : List (Int × Int)} (h : HitsAt W A n c l) (hk : Keeps W w') : HitsAt w' A n c l := by
  refine ⟨C49_move h.reads (fun ad e hp => ?_), h.len, h.room, fun ad e hp => ?_⟩
  · obtain ⟨cells, hc⟩ := h.typed ad e hp
    rw [hk _ _ _ hc (by decide), hc]
  · obtain ⟨cells, hc⟩ := h.typed ad e hp
    exact ⟨cells, hk _ _ _ hc (by decide)⟩
theorem same49_calls {W : World} {A0 A1 : Option Addr} {n c0 c1 : Nat} {l : List (Int × Int)} (h0 : HitsAt W A0 n c0 l) (h1 : HitsAt W A1 n c1 l) (hm : l.length ≤ 1000) : Calls Try.prog 19 #[.slice A0 n c0, .slice A1 n c1] W fun e w' => e = .returned (.bool true) ∧ ∃ m, w' = W.drewN m := by
  have hn := h0.len
  subst hn
  have hh := PVptreeNear.ploverref05_Same.calls (l.length + 1) A0 c0 (l.map s49) A1 c1 (l.map s49) true W (by rw [List.length_map]; exact h0.reads) (by rw [List.length_map]; exact h0.room) (by rw [List.length_map]; exact h1.reads) (by rw [List.length_map]; exact h1.room) (by have := same_f l l (by omega); rw [decide_eq_true rfl] at this; exact this)
  rw [List.length_map] at hh
  exact hh.mono fun e w' hx => ⟨hx.1, hx.2.out⟩
end Go.Proofs.Ytealiaafdkhonaa.Vp
