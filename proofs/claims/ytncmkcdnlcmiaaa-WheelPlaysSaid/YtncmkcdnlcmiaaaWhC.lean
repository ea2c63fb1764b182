/- A wheel's Set: what it tells and leaves. -/
import Derived.Test.YtncmkcdnlcmiaaaWhB
import Derived.Maps.RangeWalk
namespace Go.Proofs.Ytncmkcdnlcmiaaa.Wh
open Go.RowKit Mb Go.Proofs.YtncmkcdnlcmiaaaW.PrintWords Go.Proofs.YtncmkcdnlcmiaaaW.PrintLast Go.Proofs.YtncmkcdnlcmiaaaW.PrintMore
set_option linter.unusedVariables false
set_option linter.unusedSimpArgs false
noncomputable def set9.T : Bool × List (List Nat × List Nat) := rtab .any (opsOf Try.f10 9)
def set9.B : List Nat := [0, 1, 3, 7, 0, 0, 32, 96, 224, 0, 992, 0, 2048, 8160, 16383]
theorem set9.tab : rtab .any (opsOf Try.f10 9) = set9.T := rfl
theorem set9.bits : waitsOk set9.T.2 set9.B = true := by kernel_rfl

theorem info3 : (Try.prog.info? 3).map (fun i => (i.zero, i.size, i.bytes)) = some (some (.int .i64 0), 1, 8) := by kernel_rfl

theorem set_bad (W : World) (F : Nat → Prop) (p : Nat) (now : Int) (D : Int → Option Int) (n : Nat) (A : Int → List Int) (c : Nat) (h : WheelAt W F p now D n A c) (id ticks : Int) (hb : ticks < 1 ∨ 1048576 < ticks) :
    Calls Try.prog 10 #[.pointer (some ⟨p, 0, none⟩), .int .i64 id, .int .i64 ticks] W fun e w' => e = .returned (.int .i64 1) ∧ W = w' := by
  obtain ⟨bd, ba, c0, c1, c2, hm⟩ := h.box
  clear hm h
  by_cases h1 : ticks < 1
  · clear hb
    go_enter Try.func10, Try.ntmps10
    go_wp2_with (go_at_call 22; refine (given_calls p bd _ c1).mono ?_; rintro e w' ⟨rfl, rfl⟩)
    go_ret
    exact ⟨rfl, rfl⟩
  · have h2 : 1048576 < ticks := by omega
    clear hb
    go_enter Try.func10, Try.ntmps10
    go_wp2_with (go_at_call 22; refine (given_calls p bd _ c1).mono ?_; rintro e w' ⟨rfl, rfl⟩)
    go_ret
    exact ⟨rfl, rfl⟩

theorem set_full (W : World) (F : Nat → Prop) (p : Nat) (now : Int) (D : Int → Option Int) (n : Nat) (A : Int → List Int) (c : Nat) (h : WheelAt W F p now D n A c) (id ticks : Int) (hw : (Lit.int .i64 id).wf = true) (h1 : 1 ≤ ticks) (h2 : ticks ≤ 1048576) (hd : D id = none) (hn : 4096 ≤ n) :
    Calls Try.prog 10 #[.pointer (some ⟨p, 0, none⟩), .int .i64 id, .int .i64 ticks] W fun e w' => e = .returned (.int .i64 2) ∧ W = w' := by
  obtain ⟨bd, ba, c0, c1, c2, hm⟩ := h.box
  have hl := hm.look_ok law Try.underlying3 Try.underlying54 (zero3 W) id hw
  rw [hd] at hl
  change (Instr.lookup 54 (.map (some bd)) (.int .i64 id) true).run Try.prog W = .ok (.tuple #[.int .i64 0, .bool false]) W at hl
  have hlen := fun ty => hm.len Try.underlying54 ty
  have hn' : (4096 : Int) ≤ (n : Int) := by omega
  clear hm h hd
  go_enter Try.func10, Try.ntmps10
  go_wp2_with (go_at_call 22; refine (given_calls p bd _ c1).mono ?_; rintro e w' ⟨rfl, rfl⟩)
  go_ret
  exact ⟨rfl, rfl⟩

theorem row_reads {W : World} {F : Nat → Prop} {f : Int → Option Value} {A : Int → List Int} {p bd ba : Nat} (g8 : ∀ t v, f t = some v → W.ownsRow 0 3 1 v (A t).length (nums .i64 (A t)) ∧ ∀ k, v.ownBlock = some k → F k ∧ k ≠ p ∧ k ≠ bd ∧ k ≠ ba) (g9 : ∀ t, f t = none → A t = []) (t : Int) :
    ∃ Av cv, (f t).getD (.slice none 0 0) = .slice Av (A t).length cv ∧ (A t).length ≤ cv ∧ Kd.C (Kd.int .i64) W Av (A t).length (A t) ∧ W.ownsRow 0 3 1 (.slice Av (A t).length cv) (A t).length (nums .i64 (A t)) := by
  cases e : f t with
  | none =>
    have := g9 t e
    exact ⟨none, 0, by rw [this]; rfl, by rw [this]; simp, by rw [this]; exact ⟨rfl, by simp, fun h => by simp at h⟩, by rw [this]; exact own_nil _ _ _ _⟩
  | some v =>
    obtain ⟨Av, cv, rfl⟩ := own_slice (g8 t v e).1
    exact ⟨Av, cv, rfl, own_le (g8 t _ e).1, Kd.C_of_reads (own_reads' (g8 t _ e).1), (g8 t _ e).1⟩

theorem wrap_succ {n m : Nat} (h : n < m) (hm : m ≤ 9223372036854775807) : wrap64 ((n : Int) + 1) = ((n + 1 : Nat) : Int) := by
  unfold wrap64
  omega
theorem index_l0 (l : List Int) (x : Int) (hm : l.length ≤ 9223372036854775807) (d : Nat) : ∀ (k n : Nat), n ≤ l.length → l.length - n = d → d < k →
    ∃ r, PWheelPlays.slices_Index_int_int.l0 k l x (l.length : Int) (n : Int) = some r ∧ (decide (r ≥ 0) = decide (x ∈ l.drop n)) := by
  induction d with
  | zero =>
    intro k n h1 h2 h3
    obtain ⟨k, rfl⟩ : ∃ m, k = m + 1 := ⟨k - 1, by omega⟩
    refine ⟨-1, ?_, ?_⟩
    · simp only [PWheelPlays.slices_Index_int_int.l0]; rw [if_neg (by omega)]
    · rw [List.drop_of_length_le (by omega)]; simp
  | succ d ih =>
    intro k n h1 h2 h3
    obtain ⟨k, rfl⟩ : ∃ m, k = m + 1 := ⟨k - 1, by omega⟩
    have hn : n < l.length := by omega
    have e0 : rd l (n : Int) = l[n] := by unfold rd; rw [Int.toNat_natCast, List.getD_eq_getElem?_getD, List.getElem?_eq_getElem hn]; rfl
    by_cases e : x = l[n]
    · refine ⟨(n : Int), ?_, ?_⟩
      · simp only [PWheelPlays.slices_Index_int_int.l0]; rw [if_pos (by omega), if_pos (by omega), if_pos (by omega), if_pos (by rw [e0]; exact e)]
      · rw [List.drop_eq_getElem_cons hn, e]; exact decide_eq_decide.2 ⟨fun _ => List.mem_cons_self, fun _ => by omega⟩
    · obtain ⟨r, h4, h5⟩ := ih k (n + 1) (by omega) (by omega) (by omega)
      refine ⟨r, ?_, ?_⟩
      · simp only [PWheelPlays.slices_Index_int_int.l0]; rw [if_pos (by omega), if_pos (by omega), if_pos (by omega), if_neg (by rw [e0]; exact e), wrap_succ hn hm, h4]
      · rw [h5, List.drop_eq_getElem_cons hn]; exact decide_eq_decide.2 ⟨fun h => List.mem_cons_of_mem _ h, fun h => (List.mem_cons.1 h).resolve_left e⟩
theorem contains_f (l : List Int) (x : Int) (hm : l.length ≤ 9223372036854775807) : PWheelPlays.slices_Contains_int_int.f (l.length + 1) l x = some (decide (x ∈ l)) := by
  obtain ⟨r, h1, h2⟩ := index_l0 l x hm l.length (l.length + 1) 0 (by omega) (by omega) (by omega)
  unfold PWheelPlays.slices_Contains_int_int.f PWheelPlays.slices_Index_int_int.f
  have h1' : PWheelPlays.slices_Index_int_int.l0 (l.length + 1) l x (l.length : Int) 0 = some r := h1
  rw [h1']
  simp only [Option.bind_some, h2, List.drop_zero]

def addN (D : Int → Option Int) (id : Int) (n : Nat) : Nat := if (D id).isSome then n else n + 1

/-- What Set leaves when it sets. -/
structure SetDone (W : World) (F : Nat → Prop) (p : Nat) (now : Int) (D : Int → Option Int) (n : Nat) (A' : Int → List Int) (c' : Nat) (id t : Int) (e : Ending) (w' : World) : Prop where
  ret : e = .returned (.int .i64 0)
  ex : ∃ F', WheelAt w' F' p now (upd D id (some t)) (addN D id n) A' c' ∧ ∀ k, F' k → F k ∨ W.heap.size ≤ k
  turns : Turns F W w'

theorem set_keep {W w6 : World} {F : Nat → Prop} {p : Nat} {now : Int} {D : Int → Option Int} {n : Nat} {A : Int → List Int} {c bd : Nat} {id t : Int} (HH : WheelAt W F p now D n A c) (c1 : W.cell? ⟨p, 1, none⟩ = some (.map (some bd)))
    (hm : IMap Try.prog 3 w6 bd (fun x => (upd D id (some t) x).map (Value.int .i64)) (addN D id n)) (hT : Turns (fun i => i = bd) W w6) (f2 : F bd) (m : Nat) : SetDone W F p now D n A c id t (.returned (.int .i64 0)) (w6.drewN m) :=
  ⟨rfl, ⟨F, (HH.due c1 hT hm).drewN m, fun k h => .inl h⟩, (hT.mono (fun i (h : i = bd) => h ▸ f2)).drewN m⟩

set_option maxRecDepth 100000 in
set_option maxHeartbeats 1000000 in
theorem set_yes (W : World) (F : Nat → Prop) (p : Nat) (now : Int) (D : Int → Option Int) (n : Nat) (A : Int → List Int) (c : Nat) (h : WheelAt W F p now D n A c) (id ticks t : Int) (hw : (Lit.int .i64 id).wf = true) (hwt : (Lit.int .i64 t).wf = true) (h1 : 1 ≤ ticks) (h2 : ticks ≤ 1048576) (hok : (D id).isSome = true ∨ n < 4096)
   (hnow : 0 ≤ now) (hnow' : now ≤ 1099511627776) (hn : n ≤ 4096) (hc : c ≤ 1048576) (ht : now + ticks = t) (b : Bool) (hin : decide (id ∈ A t) = b) (A' : Int → List Int) (c' : Nat) (hA' : (b = true ∧ A' = A ∧ c' = c) ∨ (b = false ∧ A' = putA A t (A t ++ [id]) ∧ c' = c + 1)) :
    Calls Try.prog 10 #[.pointer (some ⟨p, 0, none⟩), .int .i64 id, .int .i64 ticks] W (SetDone W F p now D n A' c' id t) := by
  have HH := Aside0.mk h
  obtain ⟨⟨bd, ba, na, f, g1, g2, g3, g4, g5, g6, g7, f1, f2, f3, g8, g9, ga, gc⟩, gl⟩ := h
  have c0 : W.cell? ⟨p, 0, none⟩ = some (.int .i64 now) := (blk_cell g1 0).trans rfl
  have c1 : W.cell? ⟨p, 1, none⟩ = some (.map (some bd)) := (blk_cell g1 1).trans rfl
  have c2 : W.cell? ⟨p, 2, none⟩ = some (.map (some ba)) := (blk_cell g1 2).trans rfl
  have hl := g2.look_ok law Try.underlying3 Try.underlying54 (zero3 W) id hw
  have hlen := fun ty => g2.len Try.underlying54 ty
  have eis : ((D id).map (Value.int .i64)).isSome = (D id).isSome := by cases D id <;> rfl
  rw [eis] at hl
  obtain ⟨v0, hv0⟩ : ∃ v0, ((D id).map (Value.int .i64)).getD (.int .i64 0) = .int .i64 v0 := by cases D id with | none => exact ⟨0, rfl⟩ | some y => exact ⟨y, rfl⟩
  rw [hv0] at hl
  have HEIS := Aside0.mk eis
  have HM2 := Aside0.mk g2
  have HM3 := Aside0.mk g3
  have HF : Aside0 (PWheelPlays.slices_Contains_int_int.f ((A t).length + 1) (A t) id = some b) := Aside0.mk (by rw [contains_f _ _ (by have := gc t; omega), hin])
  have HIN := Aside0.mk hin
  have HA' := Aside0.mk hA'
  clear hA'
  have HT := Aside0.mk ht
  have hwr : IntKind.i64.wrap (now + ticks) = t := by rw [IntWalk.i64_in (now + ticks) (by omega), ht]
  clear g2 g3 eis hv0 hin
  have hcase : ∀ y, (D id).isSome = y → Calls Try.prog 10 #[.pointer (some ⟨p, 0, none⟩), .int .i64 id, .int .i64 ticks] W (SetDone W F p now D n A' c' id t) := by
    intro y hy
    rw [hy] at hl hok
    have HY := Aside0.mk hy
    clear hy
    have hn1 : y = true ∨ (n : Int) < 4096 := hok.imp (fun h => h) (fun h => by omega)
    clear hok ht
    cases y <;> cases b
    all_goals
      (try have hn2 : (n : Int) < 4096 := by simpa using hn1)
      clear hn1
      go_enter Try.func10, Try.ntmps10
      go_upto_region 8 with (first | (go_at_call 22; refine (given_calls p bd _ c1).mono ?_; rintro e w' ⟨rfl, rfl⟩) | (at_mapUpdate; refine wpList_store_imap rfl _ _ _ rfl law Try.underlying3 Try.underlying54 rfl HM2.out (by unfold maxLen; omega) id rfl hw (.int .i64 t) (by first | rfl | (simp [*]; done) | (go_simp; done)) ?_; intro w6 hm6 ht6))
      go_frame
      have hT6 := turned_block ht6
      have d0 := hT6.cell c0 g5
      have d1 := hT6.cell c1 g5
      have d2 := hT6.cell c2 g5
      have HM6 := Aside0.mk (HM3.out.move (hT6.block ba (gl ba f3) (Ne.symm g7)))
      have hl8 := HM6.out.look law Try.underlying3 Try.underlying55 (zero22 w6) t hwt
      obtain ⟨Av, cv, ev, hcv, hCv, hOv⟩ := row_reads g8 g9 t
      have hov : ∀ k, (Value.slice Av (A t).length cv).ownBlock = some k → w6.heap[k]? = W.heap[k]? := by
        intro k hk
        rw [← ev] at hk
        cases e3 : f t with
        | none => rw [e3] at hk; cases hk
        | some v => rw [e3] at hk; exact hT6.block k (own_lt (g8 t v e3).1 k hk) ((g8 t v e3).2 k hk).2.2.1
      have HOW := Aside0.mk (own_move hOv hov)
      have HCV := Aside0.mk hcv
      have HEV := Aside0.mk ev
      rw [ev] at hl8
      have HM8 := Aside0.mk (show IMap Try.prog 3 w6 bd (fun x => (upd D id (some t) x).map (Value.int .i64)) (addN D id n) by
        have hu : upd (fun y => (D y).map (Value.int .i64)) id (some (Value.int .i64 t)) = fun y => (upd D id (some t) y).map (Value.int .i64) := upd_map D id (some t)
        rw [← hu]
        have h9 := hm6
        rw [HEIS.out] at h9
        exact h9)
      go_upto_region 9 with (go_at_call 23; go_loud (refine (PWheelPlays.slices_Contains_int_int.calls ((A t).length + 1) Av cv (A t) id _ _ (Kd.C_of_reads (own_reads' HOW.out)) HCV.out HF.out).mono ?_; rintro e w7 ⟨rfl, ⟨⟨m7, rfl⟩⟩⟩))
      try (
       obtain ⟨hb, rfl, rfl⟩ : true = true ∧ A' = A ∧ c' = c := HA'.out.elim (fun h => ⟨rfl, h.2.1, h.2.2⟩) (fun h => by cases h.1)
       go_ret
       exact set_keep HH.out c1 HM8.out hT6 f2 m7)
    all_goals
      obtain ⟨rfl, rfl⟩ : A' = putA A t (A t ++ [id]) ∧ c' = c + 1 := HA'.out.elim (fun h => by cases h.1) (fun h => h.2)
      clear d0 c0 c1 c2 hl hlen hl8 HA' HCV HF HIN
      have HHT := Aside0.mk (hT6.mono (fun i (h : i = bd) => h ▸ f2))
      have HBX : Aside0 ((w6.drewN m7).drew.heap[p]? = some (.cells #[.int .i64 now, .map (some bd), .map (some ba)] 57 (0, 0))) := Aside0.mk ((hT6.block p (gl p f1) g5).trans g1)
      have HMD : Aside0 (IMap Try.prog 3 (w6.drewN m7).drew bd (fun x => (upd D id (some t) x).map (Value.int .i64)) (addN D id n)) := Aside0.mk (HM8.out)
      have HMB : Aside0 (IMap Try.prog 3 (w6.drewN m7).drew ba f na) := Aside0.mk HM6.out
      have HG8 : Aside0 (∀ t v, f t = some v → (w6.drewN m7).drew.ownsRow 0 3 1 v (A t).length (nums .i64 (A t)) ∧ ∀ k, v.ownBlock = some k → F k ∧ k ≠ p ∧ k ≠ bd ∧ k ≠ ba) := Aside0.mk (fun t v hv => ⟨own_move (g8 t v hv).1 (fun k hk => hT6.block k (own_lt (g8 t v hv).1 k hk) ((g8 t v hv).2 k hk).2.2.1), (g8 t v hv).2⟩)
      have HTW : Aside0 (Turns F W (w6.drewN m7).drew) := Aside0.mk (HHT.out.drewN m7).drew
      have HG9 := Aside0.mk g9
      have HGA := Aside0.mk ga
      have HGC := Aside0.mk gc
      have HGL := Aside0.mk gl
      have HOWD : Aside0 ((w6.drewN m7).drew.ownsRow 0 3 1 (.slice Av (A t).length cv) (A t).length (nums .i64 (A t))) := Aside0.mk HOW.out
      have HOB : Aside0 (∀ k, (Value.slice Av (A t).length cv).ownBlock = some k → F k ∧ k ≠ p ∧ k ≠ bd ∧ k ≠ ba) := Aside0.mk (by
        intro k hk
        rw [← HEV.out] at hk
        cases e3 : f t with
        | none => rw [e3] at hk; cases hk
        | some v => rw [e3] at hk; exact (g8 t v e3).2 k hk)
      have HLK : Aside0 (∀ w', IMap Try.prog 3 w' ba f na → (Instr.lookup 55 (.map (some ba)) (.int .i64 t) false).run Try.prog w' = .ok (.slice Av (A t).length cv) w') := Aside0.mk (fun w' h => by have := h.look law Try.underlying3 Try.underlying55 (zero22 w') t hwt; rw [HEV.out] at this; exact this)
      clear ev
      obtain ⟨i0, hi0, hz0, hz1, hz2⟩ := info_parts info3
      have dd2 : (w6.drewN m7).drew.cell? ⟨p, 2, none⟩ = some (.map (some ba)) := d2
      have hgct : (A t).length ≤ 1048576 := Nat.le_trans (gc t) hc
      clear g1 g9 ga gc gl g8 hT6 ht6 hm6 hCv hov hOv d1 d2 HM8 HM6 HOW HHT HM2 HM3
      refine start_ (n := 15) (S := fun w' => w'.cell? ⟨p, 2, none⟩ = some (.map (some ba)) ∧ (Instr.lookup 55 (.map (some ba)) (.int .i64 t) false).run Try.prog w' = .ok (.slice Av (A t).length cv) w') (ds := [14]) #[false, false, false, false, false, false, false, false, false, false, false, false, false, false, false] (by kernel_rfl) rfl rfl ⟨dd2, (HLK.out _ HMB.out)⟩ (fun hHeld => ?_)
      refine with_tabW set9.tab set9.bits (fun HT_ HW_ => ?_)
      generalize (w6.drewN m7).drew = wD at *
      refine pure_ (i := 0) (N := some 61) (v := ?_) (a' := ?_) #[true, false, false, false, false, false, false, false, false, false, false, false, false, false, false] rfl rfl (any_of HT_.out (by kernel_rfl)) (fun _ _ _ h => h) (Or.inl ⟨by rfl, ?_⟩) ?_ ?_
      rotate_left
      · intro w'
        go_simp
        with_reducible rfl
      rotate_left
      · simp only [Act.put, List.setIfInBounds_toArray, List.set_cons_zero, List.set_cons_succ, i64_w, i32_w]
        rfl
      refine pure_ (i := 1) (N := some 62) (v := ?_) (a' := ?_) #[true, true, false, false, false, false, false, false, false, false, false, false, false, false, false] rfl rfl (any_of HT_.out (by kernel_rfl)) (fun _ _ _ h => h) (Or.inl ⟨by rfl, ?_⟩) ?_ ?_
      rotate_left
      · intro w'
        go_simp
        with_reducible rfl
      rotate_left
      · simp only [Act.put, List.setIfInBounds_toArray, List.set_cons_zero, List.set_cons_succ, i64_w, i32_w]
        rfl
      refine pure_ (i := 2) (N := some 63) (v := ?_) (a' := ?_) #[true, true, true, false, false, false, false, false, false, false, false, false, false, false, false] rfl rfl (any_of HT_.out (by kernel_rfl)) (fun _ _ _ h => h) (Or.inl ⟨by rfl, ?_⟩) ?_ ?_
      rotate_left
      · intro w'
        go_simp
        with_reducible rfl
      rotate_left
      · simp only [Act.put, List.setIfInBounds_toArray, List.set_cons_zero, List.set_cons_succ, i64_w, i32_w]
        rfl
      refine pure_ (i := 4) (N := some 65) (v := ?_) (a' := ?_) #[true, true, true, false, true, false, false, false, false, false, false, false, false, false, false] rfl rfl (any_of HT_.out (by kernel_rfl)) (fun _ _ _ h => h) (Or.inl ⟨by rfl, ?_⟩) ?_ ?_
      rotate_left
      · intro w'
        go_simp
        with_reducible rfl
      rotate_left
      · simp only [Act.put, List.setIfInBounds_toArray, List.set_cons_zero, List.set_cons_succ, i64_w, i32_w]
        rfl
      refine pure_ (i := 5) (N := some 66) (v := ?_) (a' := ?_) #[true, true, true, false, true, true, false, false, false, false, false, false, false, false, false] rfl rfl (any_of HT_.out (by kernel_rfl)) (fun _ _ _ h => h) (Or.inl ⟨by rfl, ?_⟩) ?_ ?_
      rotate_left
      · intro w'
        go_simp
        with_reducible rfl
      rotate_left
      · simp only [Act.put, List.setIfInBounds_toArray, List.set_cons_zero, List.set_cons_succ, i64_w, i32_w]
        rfl
      refine pure_ (i := 6) (N := some 67) (v := ?_) (a' := ?_) #[true, true, true, false, true, true, true, false, false, false, false, false, false, false, false] rfl rfl (any_of HT_.out (by kernel_rfl)) (fun _ _ _ h => h) (Or.inl ⟨by rfl, ?_⟩) ?_ ?_
      rotate_left
      · intro w'
        go_simp
        with_reducible rfl
      rotate_left
      · simp only [Act.put, List.setIfInBounds_toArray, List.set_cons_zero, List.set_cons_succ, i64_w, i32_w]
        rfl
      refine pure_ (i := 7) (N := some 68) (v := ?_) (a' := ?_) #[true, true, true, false, true, true, true, true, false, false, false, false, false, false, false] rfl rfl (any_of HT_.out (by kernel_rfl)) (fun _ _ _ h => h) (Or.inl ⟨by rfl, ?_⟩) ?_ ?_
      rotate_left
      · intro w'
        go_simp
        with_reducible rfl
      rotate_left
      · simp only [Act.put, List.setIfInBounds_toArray, List.set_cons_zero, List.set_cons_succ, i64_w, i32_w]
        rfl
      refine pure_ (i := 9) (N := some 70) (v := ?_) (a' := ?_) #[true, true, true, false, true, true, true, true, false, true, false, false, false, false, false] rfl rfl (any_of HT_.out (by kernel_rfl)) (fun _ _ _ h => h) (Or.inl ⟨by rfl, ?_⟩) ?_ ?_
      rotate_left
      · intro w'
        go_simp
        with_reducible rfl
      rotate_left
      · simp only [Act.put, List.setIfInBounds_toArray, List.set_cons_zero, List.set_cons_succ, i64_w, i32_w]
        rfl
      refine pure_ (i := 11) (N := some 72) (v := ?_) (a' := ?_) #[true, true, true, false, true, true, true, true, false, true, false, true, false, false, false] rfl rfl (any_of HT_.out (by kernel_rfl)) (fun _ _ _ h => h) (Or.inl ⟨by rfl, ?_⟩) ?_ ?_
      rotate_left
      · intro w'
        go_simp
        with_reducible rfl
      rotate_left
      · simp only [Act.put, List.setIfInBounds_toArray, List.set_cons_zero, List.set_cons_succ, i64_w, i32_w]
        rfl
      refine take_ (i := 3) (N := some 64) (v := ?_) (a' := ?_) #[true, true, true, true, true, true, true, true, false, true, false, true, false, false, false] rfl rfl (take_ofW HT_.out HW_.out (by kernel_rfl)) (fun _ _ _ h => h) (Or.inl ⟨by rfl, ?_⟩) hHeld ?_ ?_
      rotate_left
      · rintro w' ⟨s0, s1⟩
        go_simp
        with_reducible rfl
      rotate_left
      · simp only [Act.put, List.setIfInBounds_toArray, List.set_cons_zero, List.set_cons_succ, i64_w, i32_w]
        rfl
      refine take_ (i := 8) (N := some 69) (v := ?_) (a' := ?_) #[true, true, true, true, true, true, true, true, true, true, false, true, false, false, false] rfl rfl (take_ofW HT_.out HW_.out (by kernel_rfl)) (fun _ _ _ h => h) (Or.inl ⟨by rfl, ?_⟩) hHeld ?_ ?_
      rotate_left
      · rintro w' ⟨s0, s1⟩
        go_simp
        with_reducible rfl
      rotate_left
      · simp only [Act.put, List.setIfInBounds_toArray, List.set_cons_zero, List.set_cons_succ, i64_w, i32_w]
        rfl
      refine take_ (i := 10) (N := some 71) (v := ?_) (a' := ?_) #[true, true, true, true, true, true, true, true, true, true, true, true, false, false, false] rfl rfl (take_ofW HT_.out HW_.out (by kernel_rfl)) (fun _ _ _ h => h) (Or.inl ⟨by rfl, ?_⟩) hHeld ?_ ?_
      rotate_left
      · rintro w' ⟨s0, s1⟩
        go_simp
        with_reducible rfl
      rotate_left
      · simp only [Act.put, List.setIfInBounds_toArray, List.set_cons_zero, List.set_cons_succ, i64_w, i32_w]
        rfl
      refine one_ (i := 12) (N := some 73) #[true, true, true, true, true, true, true, true, true, true, true, true, true, false, false] rfl rfl (one_of HT_.out (by kernel_rfl)) (by decide) (fun K hK => ?_)
      refine value_ (w1 := ?_) (v := ?_) (by rfl) rfl ?_ ?_
      rotate_left 2
      · go_simp
        constructor
        · rfl
        · rfl
      have hbA := below_alloc (Below.refl wD.heap.size wD) (.cells #[.int .i64 id] 3)
      have HMA := Aside0.mk (HMB.out.alloc (.cells #[.int .i64 id] 3))
      have HOW2 := Aside0.mk (own_move HOWD.out (fun k hk => hbA.block k (own_lt HOWD.out k hk)))
      have HN4 := Aside0.mk (World.news_of_block (blk_new wD (.cells #[.int .i64 id] 3)))
      refine hK.out _ _ ⟨pw_cell_below hbA hHeld.1, HLK.out _ HMA.out⟩ (fun hH2 => ?_)
      clear hK K
      refine norm_ (a' := ?_) ?_ ?_
      rotate_left
      · simp only [Act.put, List.setIfInBounds_toArray, List.set_cons_zero, List.set_cons_succ, i64_w, i32_w]
        rfl
      refine one_ (i := 13) (N := some 74) #[true, true, true, true, true, true, true, true, true, true, true, true, true, true, false] rfl rfl (one_of HT_.out (by kernel_rfl)) (by decide) (fun K hK => ?_)
      refine step_append_lies _ rfl _ _ _ rfl 0 3 i0 _ 1 8 Try.underlying22 hi0 hz0 hz1 hz2 rfl (by omega) (.slice Av (A t).length cv) (A t).length (nums .i64 (A t)) (by rfl) HOW2.out ⟨wD.heap.size, 0, none⟩ 1 1 (nums .i64 [id]) (by rfl) rfl HN4.out (fun u hu => by obtain ⟨x, _, rfl⟩ := List.mem_map.1 hu; rfl) (by omega) (by unfold maxLen; omega) (by omega) (Nat.zero_le _) (wD.heap.size + 1) (by simp) ?_
      intro g cap w5 hown5 hgrow5 hloc5 hg5
      have hne5 : some ba ≠ (Value.slice Av (A t).length cv).ownBlock := fun e => by have := HOB.out ba e.symm; omega
      have hnp5 : some p ≠ (Value.slice Av (A t).length cv).ownBlock := fun e => by have := HOB.out p e.symm; omega
      have HM5 := Aside0.mk (HMA.out.kept hgrow5 hne5)
      refine hK.out _ _ ⟨hgrow5.cell hH2.1 hnp5, HLK.out _ HM5.out⟩ (fun hH3 => ?_)
      clear hK K
      refine norm_ (a' := ?_) ?_ ?_
      rotate_left
      · simp only [Act.put, List.setIfInBounds_toArray, List.set_cons_zero, List.set_cons_succ, i64_w, i32_w]
        rfl
      refine last_ (i := 14) (N := none) #[true, true, true, true, true, true, true, true, true, true, true, true, true, true, true] rfl rfl (one_of HT_.out (by kernel_rfl)) (by decide) (fun K hK => ?_)
      refine step_store_imap rfl _ _ _ rfl law Try.underlying3 Try.underlying55 (by rfl) HM5.out (by unfold maxLen; omega) t (by rfl) hwt _ (by rfl) ?_
      intro w9 hm9 ht9
      have HM9 := Aside0.mk hm9
      clear hm9
      refine hK.out _ _ ?_
      refine norm_ (a' := ?_) ?_ ?_
      rotate_left
      · simp only [Act.put, List.setIfInBounds_toArray, List.set_cons_zero, List.set_cons_succ, i64_w, i32_w]
        rfl
      refine done_ (done_of HT_.out (by kernel_rfl)) ?_
      go_wp2
      go_ret
      have hown6 : w5.ownsRow 0 3 1 (.slice (some ⟨g, 0, none⟩) (A t ++ [id]).length cap) (A t ++ [id]).length (nums .i64 (A t ++ [id])) := by
        have e : (A t ++ [id]).length = (A t).length + 1 := by simp
        rw [e, nums_append]
        exact hown5
      have hm10 : IMap Try.prog 3 w9 ba (upd f t (some (.slice (some ⟨g, 0, none⟩) (A t ++ [id]).length cap))) (if (f t).isSome then na else na + 1) := by
        have e : (A t ++ [id]).length = (A t).length + 1 := by simp
        rw [e]
        exact HM9.out
      have hloc6 : ((f t).getD (.slice none 0 0)).ownBlock = some g ∨ wD.heap.size ≤ g := by
        rw [HEV.out]
        exact hloc5.imp (fun h => h) (fun h => by omega)
      have hFg : F g ∨ W.heap.size ≤ g := by
        rcases hloc5 with h | h
        · exact .inl (HOB.out g h).1
        · have := HTW.out.size
          exact .inr (by omega)
      have hT5 : Turns (fun i => ((f t).getD (.slice none 0 0)).ownBlock = some i) wD w5 := by
        rw [HEV.out]
        exact ((Turns.refl _ wD).alloc _).trans (Turns.of_grown hgrow5) (fun i h => .inl h)
      obtain ⟨hR1, hR2⟩ := WheelAt.row HBX.out HMD.out HMB.out g4 g5 g6 g7 f1 f2 f3 HG8.out HG9.out HGA.out HGC.out (fun k hk => Nat.lt_of_lt_of_le (HGL.out k hk) HTW.out.size) t id hT5 hown6 hloc6 hg5 hm10 (turned_block ht9)
      refine ⟨rfl, ⟨_, hR1, fun k hk => ?_⟩, HTW.out.trans hR2 (fun i h => .inl h)⟩
      rcases hk with h | rfl
      · exact .inl h
      · exact hFg
  exact hcase _ rfl

end Go.Proofs.Ytncmkcdnlcmiaaa.Wh
