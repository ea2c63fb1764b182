/- Several texts in one: Mt, Mn, Mc. -/
import Derived.Test.YtealiaafdkhonaaIz
namespace Go.Proofs.Ytealiaafdkhonaa.Vp
open Go.RowKit Go.Sort Go.Proofs.YtealiaafdkhonaaW.PrintWords Go.Proofs.YtealiaafdkhonaaW.PrintLast Go.Proofs.YtealiaafdkhonaaW.PrintMore
set_option linter.unusedVariables false
set_option linter.unusedSimpArgs false

/-- A hit goes in where it stands. -/
def ins (l : List (Int × Int)) (h : Int × Int) : List (Int × Int) := l.takeWhile (fun x => hlt x h) ++ h :: l.dropWhile (fun x => hlt x h)
theorem take_while_at {α : Type} {p : α → Bool} : ∀ (l : List α) (i : Nat), i ≤ l.length → (∀ j (hj : j < l.length), j < i → p l[j] = true) → (∀ j (hj : j < l.length), i ≤ j → p l[j] = false) → l.takeWhile p = l.take i ∧ l.dropWhile p = l.drop i
  | [], i, h, _, _ => by simp at h; subst h; simp
  | a :: l, 0, h, _, h2 => by
    have := h2 0 (by simp) (Nat.le_refl _)
    simp at this
    simp [List.takeWhile_cons, List.dropWhile_cons, this]
  | a :: l, i + 1, h, h1, h2 => by
    have ha := h1 0 (by simp) (by omega)
    simp at ha
    obtain ⟨e1, e2⟩ := take_while_at l i (by simpa using h) (fun j hj hji => by have := h1 (j + 1) (by simpa using hj) (by omega); simpa using this) (fun j hj hij => by have := h2 (j + 1) (by simpa using hj) (by omega); simpa using this)
    simp [List.takeWhile_cons, List.dropWhile_cons, ha, e1, e2]
theorem ins_at (l : List (Int × Int)) (h : Int × Int) (i : Nat) (hi : i ≤ l.length) (h1 : ∀ j (hj : j < l.length), j < i → hlt l[j] h = true) (h2 : ∀ j (hj : j < l.length), i ≤ j → hlt l[j] h = false) : l.take i ++ h :: l.drop i = ins l h := by
  obtain ⟨e1, e2⟩ := take_while_at (p := fun x => hlt x h) l i hi h1 h2
  unfold ins; rw [e1, e2]
theorem ins_len (l : List (Int × Int)) (h : Int × Int) : (ins l h).length = l.length + 1 := by
  have := congrArg List.length (List.takeWhile_append_dropWhile (p := fun x => hlt x h) (l := l))
  rw [List.length_append] at this
  unfold ins
  rw [List.length_append, List.length_cons]
  omega
/-- What is known behind a point: the first k, and how far the farthest may be. -/
def meetL (k : Nat) (l : List (Int × Int)) (lim : Int) (h : Int × Int) : List (Int × Int) := if lim < h.2 then l else (ins l h).take k
def meetN (k : Nat) (l : List (Int × Int)) (lim : Int) (h : Int × Int) : Int := if lim < h.2 then lim else if (meetL k l lim h).length = k then ((meetL k l lim h).getD (k - 1) (0, 0)).2 else lim

/-- A search in memory. -/
structure SearchAt (W : World) (B q : Nat) (t : Value) (V : Option Addr) (vn vc : Nat) (k : Nat) (lim : Int) (A : Option Addr) (c : Nat) (l : List (Int × Int)) : Prop where
  box : W.heap[q]? = some (.cells #[t, .slice V vn vc, .int .i64 k, .int .i64 lim, .slice A l.length c] 84 (0, 0))
  own : W.ownsRow B 49 2 (.slice A l.length c) l.length (prs l)
  bq : q < B
  apart : (Value.slice A l.length c).ownBlock ≠ some q
  len : l.length ≤ k
theorem SearchAt.lt {W : World} {B q : Nat} {t : Value} {V : Option Addr} {vn vc k : Nat} {lim : Int} {A : Option Addr} {c : Nat} {l : List (Int × Int)} (h : SearchAt W B q t V vn vc k lim A c l) : q < W.heap.size := blk_lt h.box
theorem SearchAt.below {W W' : World} {B q : Nat} {t : Value} {V : Option Addr} {vn vc k : Nat} {lim : Int} {A : Option Addr} {c : Nat} {l : List (Int × Int)} (h : SearchAt W B q t V vn vc k lim A c l) (hb : Below W.heap.size W W') : SearchAt W' B q t V vn vc k lim A c l :=
  ⟨blk_below h.box hb, own_move h.own (fun j hj => hb.block j (own_lt h.own j hj)), h.bq, h.apart, h.len⟩

theorem meets_far (W : World) (B q : Nat) (t : Value) (V : Option Addr) (vn vc k : Nat) (lim : Int) (A : Option Addr) (c : Nat) (l : List (Int × Int)) (hs : SearchAt W B q t V vn vc k lim A c l) (id d : Int) (hd : lim < d) :
    Calls Try.prog 34 #[.pointer (some ⟨q, 0, none⟩), .int .i64 id, .int .i64 d] W fun e w' => e = .returned (.tuple #[]) ∧ W = w' := by
  have x3 : W.cell? ⟨q, 3, none⟩ = some (.int .i64 lim) := (blk_cell hs.box 3).trans rfl
  clear hs
  go_enter Try.func34, Try.ntmps34
  go_wp2
  (try simp only [Exit.inBlock, Exit.then])
  refine bodyPost_ret (results_none rfl _ _ _) rfl ?_
  exact ⟨rfl, rfl⟩
end Go.Proofs.Ytealiaafdkhonaa.Vp

namespace Go.Proofs.Ytealiaafdkhonaa.Vp
open Go.RowKit Go.Sort Go.Proofs.YtealiaafdkhonaaW.PrintWords Go.Proofs.YtealiaafdkhonaaW.PrintLast Go.Proofs.YtealiaafdkhonaaW.PrintMore
set_option linter.unusedVariables false
set_option linter.unusedSimpArgs false
noncomputable def mt3.T : Bool × List (List Nat × List Nat) := rtab .any (opsOf Try.f34 3)
def mt3.B : List Nat := [0, 0, 2, 6, 14, 0, 0, 64, 254, 511, 1023, 2047]
theorem mt3.tab : rtab .any (opsOf Try.f34 3) = mt3.T := rfl
theorem mt3.bits : waitsOk mt3.T.2 mt3.B = true := by kernel_rfl
noncomputable def mt4.T : Bool × List (List Nat × List Nat) := rtab .any (opsOf Try.f34 4)
def mt4.B : List Nat := [0, 1, 3, 7, 15, 0, 32, 96, 224, 511]
theorem mt4.tab : rtab .any (opsOf Try.f34 4) = mt4.T := rfl
theorem mt4.bits : waitsOk mt4.T.2 mt4.B = true := by kernel_rfl
noncomputable def mt5.T : Bool × List (List Nat × List Nat) := rtab .any (opsOf Try.f34 5)
def mt5.B : List Nat := [0, 0, 2, 6, 14, 0, 32, 96, 224, 510, 1023, 2047, 4095]
theorem mt5.tab : rtab .any (opsOf Try.f34 5) = mt5.T := rfl
theorem mt5.bits : waitsOk mt5.T.2 mt5.B = true := by kernel_rfl
noncomputable def mt6.T : Bool × List (List Nat × List Nat) := rtab .any (opsOf Try.f34 6)
def mt6.B : List Nat := [0, 1, 3, 7, 15, 0, 32, 96, 224, 511]
theorem mt6.tab : rtab .any (opsOf Try.f34 6) = mt6.T := rfl
theorem mt6.bits : waitsOk mt6.T.2 mt6.B = true := by kernel_rfl
noncomputable def mt7.T : Bool × List (List Nat × List Nat) := rtab .any (opsOf Try.f34 7)
def mt7.B : List Nat := [0, 0, 2, 6, 14, 0, 32, 96, 224, 480, 1022, 2046, 4094, 8191, 16383, 32767]
theorem mt7.tab : rtab .any (opsOf Try.f34 7) = mt7.T := rfl
theorem mt7.bits : waitsOk mt7.T.2 mt7.B = true := by kernel_rfl
theorem Turns.cell {F : Nat → Prop} {a b : World} (h : Turns F a b) {p : Addr} {v : Value} (hc : a.cell? p = some v) (hp : ¬ F p.block) : b.cell? p = some v := (World.cell?_of_block (h.block _ (World.block_lt_of_cell? a p hc) hp)).trans hc

theorem prs_at (l : List (Int × Int)) (j : Nat) (hj : j < l.length) (i : Nat) (hi : i < 2) : (prs l)[j * 2 + i]? = (encP l[j])[i]? := by
  have h := congrArg (fun z : List Value => z[i]?) (prs_drop l j (by omega))
  simp only [List.getElem?_drop] at h
  rw [h, List.drop_eq_getElem_cons hj, prs_cons, List.getElem?_append_left (by simpa [encP] using hi)]
theorem own_readsP {W : World} {B : Nat} {A : Option Addr} {c : Nat} {l : List (Int × Int)} (h : W.ownsRow B 49 2 (.slice A l.length c) l.length (prs l)) (hl : l.length ≤ 9223372036854775807) : ReadsRow P2 2 W A l.length l := by
  rcases h.2 with ⟨e1, e2⟩ | ⟨g, cap, cur, e1, hB, hg, hcap, h63, hsz, htk⟩
  · exact ⟨rfl, hl, fun hn => by omega⟩
  · injection e1 with e1 _ _
    subst e1
    refine ⟨rfl, hl, fun _ => ⟨_, rfl, fun j p hj => ⟨encP p, rfl, rfl, fun i u hu => ?_⟩⟩⟩
    have hj' := (List.getElem?_eq_some_iff.1 hj).1
    have hi : i < 2 := (List.getElem?_eq_some_iff.1 hu).1
    have hp : l[j] = p := (List.getElem?_eq_some_iff.1 hj).2
    have h1 : W.cell? ⟨g, j * 2 + i, none⟩ = cur[j * 2 + i]? := blk_cell hg (j * 2 + i)
    rw [show (⟨g, 0, none⟩ : Addr).add (j * 2 + i) = ⟨g, j * 2 + i, none⟩ by unfold Addr.add; split <;> simp_all, h1]
    have h2 := prs_at l j hj' i hi
    rw [hp, hu, ← htk, List.getElem?_take] at h2
    split at h2
    · rwa [Array.getElem?_toList] at h2
    · cases h2

theorem own_blk (A : Option Addr) (n c : Nat) : (Value.slice A n c).ownBlock = A.map (·.block) := by cases A <;> rfl
/-- What meeting points leaves: the search's box and its own row may have turned. -/
structure Met (W : World) (B q : Nat) (t : Value) (V : Option Addr) (vn vc k : Nat) (A : Option Addr) (lim : Int) (l : List (Int × Int)) (w' : World) : Prop where
  here : ∃ A' c', SearchAt w' B q t V vn vc k lim A' c' l ∧ ∀ j, A'.map (·.block) = some j → A.map (·.block) = some j ∨ W.heap.size ≤ j
  turns : Turns (fun j => j = q ∨ A.map (·.block) = some j) W w'
def MetPost (W : World) (B q : Nat) (t : Value) (V : Option Addr) (vn vc k : Nat) (A : Option Addr) (lim : Int) (l : List (Int × Int)) (h : Int × Int) (e : Ending) (w' : World) : Prop :=
  e = .returned (.tuple #[]) ∧ Met W B q t V vn vc k A (meetN k l lim h) (meetL k l lim h) w'
theorem met_turns {W wD wE : World} {q n c : Nat} {A : Option Addr} (h : Below W.heap.size W wD) (ht : Turns (fun j => j = q ∨ (Value.slice A n c).ownBlock = some j) wD wE) : Turns (fun j => j = q ∨ A.map (·.block) = some j) W wE :=
  ⟨ht.os.trans h.os, ht.tape.trans h.tape, ht.output.trans h.output, Nat.le_trans h.size ht.size, fun j hj hn => (ht.block j (by have := h.size; omega) (fun e => hn (e.imp (fun e => e) (fun e => by rw [← own_blk A n c]; exact e)))).trans (h.block j hj)⟩
theorem own_near {W wD : World} {A A9 : Option Addr} {n c m c9 : Nat} {o : Obj} (h : Below W.heap.size W wD) (ha : ∀ k, (Value.slice A9 m c9).ownBlock = some k → (Value.slice A n c).ownBlock = some k ∨ (wD.alloc o).heap.size ≤ k) : ∀ j, A9.map (·.block) = some j → A.map (·.block) = some j ∨ W.heap.size ≤ j := by
  intro j hj
  rw [← own_blk A9 m c9] at hj
  rcases ha j hj with e | e
  · exact .inl (by rw [← own_blk A n c]; exact e)
  · exact .inr (by have := h.size; simp at e; omega)
theorem own_prefix {W : World} {B : Nat} {A : Option Addr} {m c : Nat} {l : List (Int × Int)} (h : W.ownsRow B 49 2 (.slice A m c) m (prs l)) (k : Nat) (hk : k ≤ m) (h1 : 1 ≤ m) : W.ownsRow B 49 2 (.slice A k c) k (prs (l.take k)) := by
  have hl : l.length = m := by have := h.1; rw [prs_len] at this; omega
  refine ⟨by rw [prs_len, List.length_take]; omega, ?_⟩
  rcases h.2 with ⟨_, e⟩ | ⟨g, cap, cur, e1, hB, hg, hcap, h63, hsz, htk⟩
  · omega
  · injection e1 with e1 e2 e3
    subst e1; subst e3
    refine .inr ⟨g, c, cur, rfl, hB, hg, by omega, h63, hsz, ?_⟩
    rw [← prs_take l k (by omega), ← htk, List.take_take]
    congr 1
    omega
theorem met_done {W wE : World} {B q : Nat} {t : Value} {V : Option Addr} {vn vc k : Nat} {lim : Int} {l l2 : List (Int × Int)} {h : Int × Int} {A A9 : Option Addr} {c9 m : Nat} (hd : ¬ lim < h.2) (h2 : ins l h = l2) (hm : l2.length = m)
    (hmk : m < k) (hX : wE.heap[q]? = some (.cells #[t, .slice V vn vc, .int .i64 k, .int .i64 lim, .slice A9 m c9] 84 (0, 0))) (hO : wE.ownsRow B 49 2 (.slice A9 m c9) m (prs l2)) (hq : q < B)
    (ha : (Value.slice A9 m c9).ownBlock ≠ some q) (hb : Turns (fun j => j = q ∨ A.map (·.block) = some j) W wE) (hnr : ∀ j, A9.map (·.block) = some j → A.map (·.block) = some j ∨ W.heap.size ≤ j) : MetPost W B q t V vn vc k A lim l h (.returned (.tuple #[])) wE := by
  have e1 : meetL k l lim h = l2 := by unfold meetL; rw [if_neg hd, h2, List.take_of_length_le (by omega)]
  have e2 : meetN k l lim h = lim := by unfold meetN; rw [if_neg hd, e1, if_neg (by omega)]
  refine ⟨rfl, ?_⟩
  rw [e1, e2]
  subst hm
  exact ⟨⟨A9, c9, ⟨hX, hO, hq, ha, by omega⟩, hnr⟩, hb⟩
theorem met_full {W wE : World} {B q : Nat} {t : Value} {V : Option Addr} {vn vc k : Nat} {lim : Int} {l l2 : List (Int × Int)} {h : Int × Int} {A A9 : Option Addr} {c9 m : Nat} {fd : Int} (hd : ¬ lim < h.2) (h2 : ins l h = l2) (hm : l2.length = m)
    (hmk : k ≤ m) (hk : 1 ≤ k) (hfd : (l2[k - 1]'(by omega)).2 = fd) (hX : wE.heap[q]? = some (.cells #[t, .slice V vn vc, .int .i64 k, .int .i64 fd, .slice A9 k c9] 84 (0, 0))) (hO : wE.ownsRow B 49 2 (.slice A9 k c9) k (prs (l2.take k))) (hq : q < B)
    (ha : (Value.slice A9 k c9).ownBlock ≠ some q) (hb : Turns (fun j => j = q ∨ A.map (·.block) = some j) W wE) (hnr : ∀ j, A9.map (·.block) = some j → A.map (·.block) = some j ∨ W.heap.size ≤ j) : MetPost W B q t V vn vc k A lim l h (.returned (.tuple #[])) wE := by
  have e1 : meetL k l lim h = l2.take k := by unfold meetL; rw [if_neg hd, h2]
  have hl : (l2.take k).length = k := by rw [List.length_take]; omega
  have e2 : meetN k l lim h = fd := by
    unfold meetN; rw [if_neg hd, e1, if_pos hl, ← hfd, List.getD_eq_getElem?_getD, List.getElem?_take, if_pos (by omega), List.getElem?_eq_getElem (by omega)]; rfl
  refine ⟨rfl, ?_⟩
  rw [e1, e2]
  refine ⟨⟨A9, c9, ⟨?_, ?_, hq, ?_, by omega⟩, hnr⟩, hb⟩
  · rw [hl]; exact hX
  · rw [hl]; exact hO
  · rw [hl]; exact ha
theorem own_put {W : World} {B q : Nat} {A : Option Addr} {m c : Nat} {xs : List Value} (h : W.ownsRow B 49 2 (.slice A m c) m xs) (ha : (Value.slice A m c).ownBlock ≠ some q) (o : Nat) (u : Value) : (W.setCell ⟨q, o, none⟩ u).ownsRow B 49 2 (.slice A m c) m xs := own_setCell h (p := ⟨q, o, none⟩) (fun e => ha e.symm) u
theorem turns_put {F : Nat → Prop} {a b : World} (h : Turns F a b) {p : Addr} (hp : F p.block) (u : Value) : Turns F a (b.setCell p u) :=
  ⟨h.os, h.tape, h.output, by simpa [World.setCell] using h.size, fun j hj hn => (Below.heap_setCell _ _ _ _ (fun (e : j = p.block) => hn (by rw [e]; exact hp))).trans (h.block j hj hn)⟩

set_option maxHeartbeats 2000000 in
set_option maxRecDepth 100000 in
theorem meets_near (W : World) (B q : Nat) (t : Value) (V : Option Addr) (vn vc k : Nat) (lim : Int) (A : Option Addr) (c : Nat) (l : List (Int × Int)) (hs : SearchAt W B q t V vn vc k lim A c l) (hst : l.Pairwise (fun x y => hlt y x = false)) (hB : B ≤ W.heap.size) (hk1 : 1 ≤ k) (hk2 : k ≤ 64) (id d : Int) (hd : d ≤ lim) :
    Calls Try.prog 34 #[.pointer (some ⟨q, 0, none⟩), .int .i64 id, .int .i64 d] W (MetPost W B q t V vn vc k A lim l (id, d)) := by
  have x3 : W.cell? ⟨q, 3, none⟩ = some (.int .i64 lim) := (blk_cell hs.box 3).trans rfl
  have hd' : ¬ lim < d := by omega
  have HS0 := Aside0.mk hs
  have HST := Aside0.mk hst
  have hln := hs.len
  have hq := hs.lt
  clear hs hst
  go_enter Try.func34, Try.ntmps34
  go_upto_region 2 with (fail)
  have hb1 := below_alloc (Below.refl W.heap.size W) (.cells #[.int .i64 id, .int .i64 d] 49)
  have HS1 := Aside0.mk (HS0.out.below hb1)
  have HG1 := Aside0.mk (blk_new W (.cells #[.int .i64 id, .int .i64 d] 49))
  have HGQ : Aside0 (W.heap.size ≠ q) := ⟨by omega⟩
  have HGO : Aside0 ((Value.slice A l.length c).ownBlock ≠ some W.heap.size) := ⟨fun e => Nat.lt_irrefl _ (own_lt HS0.out.own _ e)⟩
  have HB1 := Aside0.mk hb1
  clear hb1 x3
  generalize hW1 : W.alloc (.cells #[.int .i64 id, .int .i64 d] 49) = W1 at *
  generalize hgg : W.heap.size = g at *
  clear hW1
  have HSR := Aside0.mk (fun (W' : World) (hb : Below W1.heap.size W1 W') => search_calls A c l (id, d) W' ((own_readsP HS1.out.own (by omega)).imp_ hb (fun _ _ hp => hp)) HST.out (by omega))
  have q4 : W1.cell? ⟨q, 4, none⟩ = some (.slice A l.length c) := (blk_cell HS1.out.box 4).trans rfl
  have g0 : W1.cell? ⟨g, 0, none⟩ = some (.int .i64 id) := (blk_cell HG1.out 0).trans rfl
  have g1 : W1.cell? ⟨g, 1, none⟩ = some (.int .i64 d) := (blk_cell HG1.out 1).trans rfl
  obtain ⟨n, hn⟩ : ∃ n, l.length = n := ⟨_, rfl⟩
  have HN := Aside0.mk hn
  rw [hn] at q4 HSR
  clear hn
  go_cut [7] (fun v7 wc => ∃ i : Nat, v7 = .int .i64 i ∧ i ≤ n ∧ Aside0 (l.take i ++ (id, d) :: l.drop i = ins l (id, d)) ∧ Aside0 (Below W1.heap.size W1 wc))
  case first =>
    go_region_held3 (fun w' => w'.cell? ⟨q, 4, none⟩ = some (.slice A n c) ∧ w'.cell? ⟨g, 0, none⟩ = some (.int .i64 id) ∧ w'.cell? ⟨g, 1, none⟩ = some (.int .i64 d))
      (first | (go_split_ands; refine ⟨?_, ?_, ?_⟩ <;> assumption) | (go_split_ands; refine ⟨?_, ?_, ?_⟩ <;> (refine pw_cell_below hb9 ?_; assumption)) | (go_keep; done))
      ((go_at_call 46; refine (HSR.out _ (by repeat (first | exact Below.refl _ _ | apply below_drew1))).mono ?_; rintro e w9 ⟨⟨i, b, rfl, hi, hx1, hx2⟩, hb9⟩; have HIX := Aside0.mk (ins_at l (id, d) i hi hx1 hx2); clear hx1 hx2))
    all_goals (go_wp2_with fail; go_meet; exact ⟨i, rfl, by rw [← HN.out]; exact hi, HIX, ⟨below_step (below_drew1 (Below.refl W1.heap.size W1)) hb9⟩⟩)
  case rest =>
    obtain ⟨i, rfl, hin, HIX, HBC⟩ := hcut
    obtain ⟨l2, hl2⟩ : ∃ l2, ins l (id, d) = l2 := ⟨_, rfl⟩
    have hl2n : l2.length = n + 1 := by rw [← hl2, ins_len, HN.out]
    rw [hl2] at HIX
    have HL2 := Aside0.mk hl2
    have HIN : Aside0 (∀ (W : World) (vb : Nat), W.ownsRow B 49 2 (.slice A n c) n (prs l) → W.heap[vb]? = some (.cells #[.int .i64 id, .int .i64 d] 49 (0, 0)) → (Value.slice A n c).ownBlock ≠ some vb → B ≤ W.heap.size →
        Calls Try.prog 50 #[.slice A n c, .int .i64 (i : Int), .slice (some ⟨vb, 0, none⟩) 1 1] W (InsDone B l2 (fun k => (Value.slice A n c).ownBlock = some k) W)) := ⟨fun W vb h1 h2 h3 h4 => by
      have := insert_calls B A c l i (id, d) vb 1 W (by rw [HN.out]; exact h1) (by rw [HN.out]; exact hin) (by omega) h4 h2 (by rw [HN.out]; exact h3)
      rw [HIX.out, HN.out] at this
      exact this⟩
    have HL2N := Aside0.mk hl2n
    clear hl2 hl2n
    have HSC := Aside0.mk (HS1.out.below HBC.out)
    have HGC := Aside0.mk (blk_below HG1.out HBC.out)
    have d0 : wc.drew.cell? ⟨q, 4, none⟩ = some (.slice A n c) := by have := (blk_cell (blk_drew HSC.out.box) 4).trans rfl; rw [HN.out] at this; exact this
    have d1 : wc.drew.cell? ⟨g, 0, none⟩ = some (.int .i64 id) := (blk_cell (blk_drew HGC.out) 0).trans rfl
    have d2 : wc.drew.cell? ⟨g, 1, none⟩ = some (.int .i64 d) := (blk_cell (blk_drew HGC.out) 1).trans rfl
    have HBW : Aside0 (RowKit.Below W.heap.size W wc.drew) := ⟨by rw [hgg]; exact (below_then HB1.out (by have := HB1.out.size; omega) HBC.out).drew⟩
    have HBQ := Aside0.mk HSC.out.bq
    have HOB : Aside0 (∀ j, (Value.slice A n c).ownBlock = some j → B ≤ j) := ⟨fun j hj => own_base HSC.out.own j (by rw [HN.out]; exact hj)⟩
    have HOD : Aside0 (wc.drew.ownsRow B 49 2 (.slice A n c) n (prs l)) := ⟨by have := HSC.out.own; rw [HN.out] at this; exact this⟩
    have HBD : Aside0 (B ≤ wc.drew.heap.size) := ⟨by have := HB1.out.size; have := HBC.out.size; show B ≤ wc.heap.size; omega⟩
    have HXD := Aside0.mk (blk_drew HSC.out.box)
    have HKE : Aside0 (∀ wa wb : World, Turns (fun k => (Value.slice A n c).ownBlock = some k) wa wb → wa.cell? ⟨q, 4, none⟩ = some (.slice A n c) → wb.cell? ⟨q, 4, none⟩ = some (.slice A n c)) := ⟨fun wa wb ht hc => ht.cell hc (fun e => HSC.out.apart (by rw [HN.out]; exact e))⟩
    have HKG : Aside0 (∀ (wa wb : World) (o : Nat) (v : Value), Turns (fun k => (Value.slice A n c).ownBlock = some k) wa wb → wa.cell? ⟨g, o, none⟩ = some v → wb.cell? ⟨g, o, none⟩ = some v) := ⟨fun wa wb o v ht hc => ht.cell hc (fun e => HGO.out (by rw [HN.out]; exact e))⟩
    clear q4 g0 g1 HSR
    go_wp2_with fail
    refine start_ (n := 12) (S := fun w' => w'.cell? ⟨q, 4, none⟩ = some (.slice A n c) ∧ w'.cell? ⟨g, 0, none⟩ = some (.int .i64 id) ∧ w'.cell? ⟨g, 1, none⟩ = some (.int .i64 d)) (ds := [11]) #[false, false, false, false, false, false, false, false, false, false, false, false] (by kernel_rfl) rfl rfl ⟨d0, d1, d2⟩ (fun hHeld => ?_)
    refine with_tabW mt3.tab mt3.bits (fun HT_ HW_ => ?_)
    generalize wc.drew = wD at *
    refine pure_ (i := 0) (N := some 27) (v := ?_) (a' := ?_) #[true, false, false, false, false, false, false, false, false, false, false, false] rfl rfl (any_of HT_.out (by kernel_rfl)) (fun _ _ _ h => h) (Or.inl ⟨by rfl, ?_⟩) ?_ ?_
    rotate_left
    · intro w'
      go_simp
      with_reducible rfl
    rotate_left
    · simp only [Act.put, List.setIfInBounds_toArray, List.set_cons_zero, List.set_cons_succ, i64_w, i32_w]
      rfl
    refine pure_ (i := 1) (N := some 28) (v := ?_) (a' := ?_) #[true, true, false, false, false, false, false, false, false, false, false, false] rfl rfl (any_of HT_.out (by kernel_rfl)) (fun _ _ _ h => h) (Or.inl ⟨by rfl, ?_⟩) ?_ ?_
    rotate_left
    · intro w'
      go_simp
      with_reducible rfl
    rotate_left
    · simp only [Act.put, List.setIfInBounds_toArray, List.set_cons_zero, List.set_cons_succ, i64_w, i32_w]
      rfl
    refine pure_ (i := 2) (N := some 29) (v := ?_) (a' := ?_) #[true, true, true, false, false, false, false, false, false, false, false, false] rfl rfl (any_of HT_.out (by kernel_rfl)) (fun _ _ _ h => h) (Or.inl ⟨by rfl, ?_⟩) ?_ ?_
    rotate_left
    · intro w'
      go_simp
      with_reducible rfl
    rotate_left
    · simp only [Act.put, List.setIfInBounds_toArray, List.set_cons_zero, List.set_cons_succ, i64_w, i32_w]
      rfl
    refine pure_ (i := 3) (N := some 30) (v := ?_) (a' := ?_) #[true, true, true, true, false, false, false, false, false, false, false, false] rfl rfl (any_of HT_.out (by kernel_rfl)) (fun _ _ _ h => h) (Or.inl ⟨by rfl, ?_⟩) ?_ ?_
    rotate_left
    · intro w'
      go_simp
      with_reducible rfl
    rotate_left
    · simp only [Act.put, List.setIfInBounds_toArray, List.set_cons_zero, List.set_cons_succ, i64_w, i32_w]
      rfl
    refine pure_ (i := 5) (N := some 32) (v := ?_) (a' := ?_) #[true, true, true, true, false, true, false, false, false, false, false, false] rfl rfl (any_of HT_.out (by kernel_rfl)) (fun _ _ _ h => h) (Or.inl ⟨by rfl, ?_⟩) ?_ ?_
    rotate_left
    · intro w'
      go_simp
      with_reducible rfl
    rotate_left
    · simp only [Act.put, List.setIfInBounds_toArray, List.set_cons_zero, List.set_cons_succ, i64_w, i32_w]
      rfl
    refine take_ (i := 4) (N := some 31) (v := ?_) (a' := ?_) #[true, true, true, true, true, true, false, false, false, false, false, false] rfl rfl (take_ofW HT_.out HW_.out (by kernel_rfl)) (fun _ _ _ h => h) (Or.inl ⟨by rfl, ?_⟩) hHeld ?_ ?_
    rotate_left
    · rintro w' ⟨s0, s1, s2⟩
      go_simp
      with_reducible rfl
    rotate_left
    · simp only [Act.put, List.setIfInBounds_toArray, List.set_cons_zero, List.set_cons_succ, i64_w, i32_w]
      rfl
    refine take_ (i := 6) (N := some 33) (v := ?_) (a' := ?_) #[true, true, true, true, true, true, true, false, false, false, false, false] rfl rfl (take_ofW HT_.out HW_.out (by kernel_rfl)) (fun _ _ _ h => h) (Or.inl ⟨by rfl, ?_⟩) hHeld ?_ ?_
    rotate_left
    · rintro w' ⟨s0, s1, s2⟩
      go_simp
      with_reducible rfl
    rotate_left
    · simp only [Act.put, List.setIfInBounds_toArray, List.set_cons_zero, List.set_cons_succ, i64_w, i32_w]
      rfl
    refine one_ (i := 7) (N := some 34) #[true, true, true, true, true, true, true, true, false, false, false, false] rfl rfl (one_of HT_.out (by kernel_rfl)) (by decide) (fun K hK => ?_)
    refine value_ (w1 := ?_) (v := ?_) (by rfl) rfl ?_ ?_
    rotate_left 2
    · go_simp
      constructor
      · rfl
      · rfl
    have hbA := below_alloc (Below.refl wD.heap.size wD) (.cells #[.int .i64 id, .int .i64 d] 49)
    have HNV := Aside0.mk (blk_new wD (.cells #[.int .i64 id, .int .i64 d] 49))
    have HOA := Aside0.mk (own_alloc HOD.out (.cells #[.int .i64 id, .int .i64 d] 49))
    refine hK.out _ _ ⟨pw_cell_below hbA hHeld.1, pw_cell_below hbA hHeld.2.1, pw_cell_below hbA hHeld.2.2⟩ (fun hH2 => ?_)
    clear hHeld hbA hK K
    refine norm_ (a' := ?_) ?_ ?_
    rotate_left
    · simp only [Act.put, List.setIfInBounds_toArray, List.set_cons_zero, List.set_cons_succ, i64_w, i32_w]
      rfl
    refine one_ (i := 8) (N := some 35) #[true, true, true, true, true, true, true, true, true, false, false, false] rfl rfl (one_of HT_.out (by kernel_rfl)) (by decide) (fun K hK => ?_)
    refine goes_ Try.func50 (by kernel_rfl) rfl #[.slice A n c, .int .i64 (i : Int), .slice (some ⟨wD.heap.size, 0, none⟩) 1 1] (by rfl) rfl rfl (by (try simp only [List.map_toArray, List.map_cons, List.map_nil]); first | done | rfl) ?_
    refine (HIN.out _ wD.heap.size HOA.out HNV.out (fun e => Nat.lt_irrefl _ (own_lt HOD.out _ e)) (by have := HBD.out; simp; omega)).mono ?_
    rintro e w9 ⟨⟨A9, c9, rfl, how9, hA9⟩, ht9⟩
    refine ⟨_, rfl, ?_⟩
    have hfz9 : w9.frozen? ⟨q, 4, none⟩ = false := by
      have hbx := (ht9.block q (by have := blk_lt HXD.out; simp; omega) (fun e => HSC.out.apart (by rw [HN.out]; exact e))).trans ((below_alloc (Below.refl wD.heap.size wD) (.cells #[.int .i64 id, .int .i64 d] 49)).block q (blk_lt HXD.out) |>.trans HXD.out)
      simp [World.frozen?, hbx]
    have HFZ := Aside0.mk hfz9
    have HT9 := Aside0.mk ht9
    have HO9 := Aside0.mk how9
    have HA9 := Aside0.mk hA9
    refine hK.out _ _ ⟨HKE.out _ _ ht9 hH2.1, HKG.out _ _ _ _ ht9 hH2.2.1, HKG.out _ _ _ _ ht9 hH2.2.2⟩ (fun hH3 => ?_)
    clear hH2 ht9 how9 hA9 hfz9 hK K
    refine norm_ (a' := ?_) ?_ ?_
    rotate_left
    · simp only [Act.put, List.setIfInBounds_toArray, List.set_cons_zero, List.set_cons_succ, i64_w, i32_w]
      rfl
    refine pure_ (i := 9) (N := some 36) (v := ?_) (a' := ?_) #[true, true, true, true, true, true, true, true, true, true, false, false] rfl rfl (any_of HT_.out (by kernel_rfl)) (fun _ _ _ h => h) (Or.inl ⟨by rfl, ?_⟩) ?_ ?_
    rotate_left
    · intro w'
      go_simp
      with_reducible rfl
    rotate_left
    · simp only [Act.put, List.setIfInBounds_toArray, List.set_cons_zero, List.set_cons_succ, i64_w, i32_w]
      rfl
    refine pure_ (i := 10) (N := some 37) (v := ?_) (a' := ?_) #[true, true, true, true, true, true, true, true, true, true, true, false] rfl rfl (any_of HT_.out (by kernel_rfl)) (fun _ _ _ h => h) (Or.inl ⟨by rfl, ?_⟩) ?_ ?_
    rotate_left
    · intro w'
      go_simp
      with_reducible rfl
    rotate_left
    · simp only [Act.put, List.setIfInBounds_toArray, List.set_cons_zero, List.set_cons_succ, i64_w, i32_w]
      rfl
    refine last_ (i := 11) (N := none) #[true, true, true, true, true, true, true, true, true, true, true, true] rfl rfl (one_of HT_.out (by kernel_rfl)) (by decide) (fun K hK => ?_)
    have hfz9 := HFZ.out
    refine skip_ (w1 := ?_) (by rfl) rfl ?_ ?_
    rotate_left
    · go_simp
      rfl
    refine hK.out _ _ ?_
    clear hK K hfz9
    refine done_ (done_of HT_.out (by kernel_rfl)) ?_
    have HX9 : Aside0 (w9.heap[q]? = some (.cells #[t, .slice V vn vc, .int .i64 k, .int .i64 lim, .slice A l.length c] 84 (0, 0))) := ⟨(HT9.out.block q (by have := blk_lt HXD.out; simp; omega) (fun e => HSC.out.apart (by rw [HN.out]; exact e))).trans ((below_alloc (Below.refl wD.heap.size wD) (.cells #[.int .i64 id, .int .i64 d] 49)).block q (blk_lt HXD.out) |>.trans HXD.out)⟩
    have HQ9 : Aside0 ((Value.slice A9 l2.length c9).ownBlock ≠ some q) := ⟨fun e => by
      rcases HA9.out q e with h1 | h1
      · exact HSC.out.apart (by rw [HN.out]; exact h1)
      · have := blk_lt HXD.out; simp at h1; omega⟩
    have HX3 := Aside0.mk (blk_put HX9.out 4 (.slice A9 l2.length c9) rfl)
    have HO3 := Aside0.mk (own_setCell HO9.out (p := ⟨q, 4, none⟩) (fun e => HQ9.out e.symm) (.slice A9 l2.length c9))
    have HT3 : Aside0 (Turns (fun j => j = q ∨ (Value.slice A n c).ownBlock = some j) wD (w9.setCell ⟨q, 4, none⟩ (.slice A9 l2.length c9))) := ⟨by
      have h1 := HT9.out
      refine ⟨h1.os, h1.tape, h1.output, by have := h1.size; simp at this; simpa [World.setCell] using (by omega : wD.heap.size ≤ w9.heap.size), fun j hj hn9 => ?_⟩
      rw [Below.heap_setCell _ _ _ _ (fun e => hn9 (.inl e)), h1.block j (by simp; omega) (fun e => hn9 (.inr e))]
      exact (below_alloc (Below.refl wD.heap.size wD) (.cells #[.int .i64 id, .int .i64 d] 49)).block j hj⟩
    clear HFZ HT9 HO9
    go_upto_region 4 with (fail)
    generalize w9.setCell ⟨q, 4, none⟩ (.slice A9 l2.length c9) = w3 at *
    have hkk : (k : Int) ≤ 64 := by omega
    obtain ⟨m, hm⟩ : ∃ m, l2.length = m := ⟨_, rfl⟩
    have HMN : Aside0 (m = n + 1) := ⟨by rw [← hm, HL2N.out]⟩
    rw [hm] at HX3 HO3
    have HM := Aside0.mk hm
    have HTD : Aside0 (Turns (fun j => j = q ∨ (Value.slice A n c).ownBlock = some j) wD w3.drew) := ⟨⟨HT3.out.os, HT3.out.tape, HT3.out.output, HT3.out.size, HT3.out.block⟩⟩
    have HX4 := Aside0.mk (blk_drew HX3.out)
    have HO4 : Aside0 (w3.drew.ownsRow B 49 2 (.slice A9 m c9) m (prs l2)) := ⟨HO3.out⟩
    have y4 : w3.drew.cell? ⟨q, 4, none⟩ = some (.slice A9 m c9) := (blk_cell HX4.out 4).trans rfl
    have y2 : w3.drew.cell? ⟨q, 2, none⟩ = some (.int .i64 k) := (blk_cell HX4.out 2).trans rfl
    rw [hm]
    clear hm HX3 HO3 HT3
    refine start_ (n := 10) (S := fun w' => w'.cell? ⟨q, 4, none⟩ = some (.slice A9 m c9) ∧ w'.cell? ⟨q, 2, none⟩ = some (.int .i64 k)) (ds := []) #[false, false, false, false, false, false, false, false, false, false] (by kernel_rfl) rfl rfl ⟨y4, y2⟩ (fun hHeld => ?_)
    refine with_tabW mt4.tab mt4.bits (fun HT_ HW_ => ?_)
    generalize w3.drew = wE at *
    refine pure_ (i := 0) (N := some 38) (v := ?_) (a' := ?_) #[true, false, false, false, false, false, false, false, false, false] rfl rfl (any_of HT_.out (by kernel_rfl)) (fun _ _ _ h => h) (Or.inl ⟨by rfl, ?_⟩) ?_ ?_
    rotate_left
    · intro w'
      go_simp
      with_reducible rfl
    rotate_left
    · simp only [Act.put, List.setIfInBounds_toArray, List.set_cons_zero, List.set_cons_succ, i64_w, i32_w]
      rfl
    refine pure_ (i := 1) (N := some 39) (v := ?_) (a' := ?_) #[true, true, false, false, false, false, false, false, false, false] rfl rfl (any_of HT_.out (by kernel_rfl)) (fun _ _ _ h => h) (Or.inl ⟨by rfl, ?_⟩) ?_ ?_
    rotate_left
    · intro w'
      go_simp
      with_reducible rfl
    rotate_left
    · simp only [Act.put, List.setIfInBounds_toArray, List.set_cons_zero, List.set_cons_succ, i64_w, i32_w]
      rfl
    refine pure_ (i := 2) (N := some 40) (v := ?_) (a' := ?_) #[true, true, true, false, false, false, false, false, false, false] rfl rfl (any_of HT_.out (by kernel_rfl)) (fun _ _ _ h => h) (Or.inl ⟨by rfl, ?_⟩) ?_ ?_
    rotate_left
    · intro w'
      go_simp
      with_reducible rfl
    rotate_left
    · simp only [Act.put, List.setIfInBounds_toArray, List.set_cons_zero, List.set_cons_succ, i64_w, i32_w]
      rfl
    refine pure_ (i := 5) (N := some 43) (v := ?_) (a' := ?_) #[true, true, true, false, false, true, false, false, false, false] rfl rfl (any_of HT_.out (by kernel_rfl)) (fun _ _ _ h => h) (Or.inl ⟨by rfl, ?_⟩) ?_ ?_
    rotate_left
    · intro w'
      go_simp
      with_reducible rfl
    rotate_left
    · simp only [Act.put, List.setIfInBounds_toArray, List.set_cons_zero, List.set_cons_succ, i64_w, i32_w]
      rfl
    refine pure_ (i := 6) (N := some 44) (v := ?_) (a' := ?_) #[true, true, true, false, false, true, true, false, false, false] rfl rfl (any_of HT_.out (by kernel_rfl)) (fun _ _ _ h => h) (Or.inl ⟨by rfl, ?_⟩) ?_ ?_
    rotate_left
    · intro w'
      go_simp
      with_reducible rfl
    rotate_left
    · simp only [Act.put, List.setIfInBounds_toArray, List.set_cons_zero, List.set_cons_succ, i64_w, i32_w]
      rfl
    refine pure_ (i := 7) (N := some 45) (v := ?_) (a' := ?_) #[true, true, true, false, false, true, true, true, false, false] rfl rfl (any_of HT_.out (by kernel_rfl)) (fun _ _ _ h => h) (Or.inl ⟨by rfl, ?_⟩) ?_ ?_
    rotate_left
    · intro w'
      go_simp
      with_reducible rfl
    rotate_left
    · simp only [Act.put, List.setIfInBounds_toArray, List.set_cons_zero, List.set_cons_succ, i64_w, i32_w]
      rfl
    refine take_ (i := 3) (N := some 41) (v := ?_) (a' := ?_) #[true, true, true, true, false, true, true, true, false, false] rfl rfl (take_ofW HT_.out HW_.out (by kernel_rfl)) (fun _ _ _ h => h) (Or.inl ⟨by rfl, ?_⟩) hHeld ?_ ?_
    rotate_left
    · rintro w' ⟨s0, s1⟩
      go_simp
      with_reducible rfl
    rotate_left
    · simp only [Act.put, List.setIfInBounds_toArray, List.set_cons_zero, List.set_cons_succ, i64_w, i32_w]
      rfl
    refine pure_ (i := 4) (N := some 42) (v := ?_) (a' := ?_) #[true, true, true, true, true, true, true, true, false, false] rfl rfl (any_of HT_.out (by kernel_rfl)) (fun _ _ _ h => h) (Or.inl ⟨by rfl, ?_⟩) ?_ ?_
    rotate_left
    · intro w'
      go_simp
      with_reducible rfl
    rotate_left
    · simp only [Act.put, List.setIfInBounds_toArray, List.set_cons_zero, List.set_cons_succ, i64_w, i32_w]
      rfl
    refine take_ (i := 8) (N := some 46) (v := ?_) (a' := ?_) #[true, true, true, true, true, true, true, true, true, false] rfl rfl (take_ofW HT_.out HW_.out (by kernel_rfl)) (fun _ _ _ h => h) (Or.inl ⟨by rfl, ?_⟩) hHeld ?_ ?_
    rotate_left
    · rintro w' ⟨s0, s1⟩
      go_simp
      with_reducible rfl
    rotate_left
    · simp only [Act.put, List.setIfInBounds_toArray, List.set_cons_zero, List.set_cons_succ, i64_w, i32_w]
      rfl
    refine pure_ (i := 9) (N := some 47) (v := ?_) (a' := ?_) #[true, true, true, true, true, true, true, true, true, true] rfl rfl (any_of HT_.out (by kernel_rfl)) (fun _ _ _ h => h) (Or.inl ⟨by rfl, ?_⟩) ?_ ?_
    rotate_left
    · intro w'
      go_simp
      with_reducible rfl
    rotate_left
    · simp only [Act.put, List.setIfInBounds_toArray, List.set_cons_zero, List.set_cons_succ, i64_w, i32_w]
      rfl
    refine done_ (done_of HT_.out (by kernel_rfl)) ?_
    by_cases hkn : k < m
    · have hk4 : (k : Int) < (m : Int) := by omega
      go_upto_region 5 with (fail)
      have HTF : Aside0 (Turns (fun j => j = q ∨ (Value.slice A n c).ownBlock = some j) wD wE.drew) := ⟨⟨HTD.out.os, HTD.out.tape, HTD.out.output, HTD.out.size, HTD.out.block⟩⟩
      have HX5 := Aside0.mk (blk_drew HX4.out)
      have HO5 : Aside0 (wE.drew.ownsRow B 49 2 (.slice A9 m c9) m (prs l2)) := ⟨HO4.out⟩
      have z4 : wE.drew.cell? ⟨q, 4, none⟩ = some (.slice A9 m c9) := (blk_cell HX5.out 4).trans rfl
      have z2 : wE.drew.cell? ⟨q, 2, none⟩ = some (.int .i64 k) := (blk_cell HX5.out 2).trans rfl
      have hfz5 : wE.drew.frozen? ⟨q, 4, none⟩ = false := by
        have := HX5.out
        simp [World.frozen?, this]
      have HFZ5 := Aside0.mk hfz5
      have hkc : k ≤ c9 := by
        rcases HO5.out.2 with ⟨e1, e2⟩ | ⟨g2, cap, cur, e1, hB2, hg2, hcap, h63, hsz, htk⟩
        · omega
        · injection e1 with _ _ e3
          omega
      clear y4 y2 hfz5 HX4 HO4 HTD
      refine start_ (n := 13) (S := fun w' => w'.cell? ⟨q, 4, none⟩ = some (.slice A9 m c9) ∧ w'.cell? ⟨q, 2, none⟩ = some (.int .i64 k)) (ds := [12]) #[false, false, false, false, false, false, false, false, false, false, false, false, false] (by kernel_rfl) rfl rfl ⟨z4, z2⟩ (fun hHeld => ?_)
      refine with_tabW mt5.tab mt5.bits (fun HT_ HW_ => ?_)
      generalize wE.drew = wF at *
      refine pure_ (i := 0) (N := some 48) (v := ?_) (a' := ?_) #[true, false, false, false, false, false, false, false, false, false, false, false, false] rfl rfl (any_of HT_.out (by kernel_rfl)) (fun _ _ _ h => h) (Or.inl ⟨by rfl, ?_⟩) ?_ ?_
      rotate_left
      · intro w'
        go_simp
        with_reducible rfl
      rotate_left
      · simp only [Act.put, List.setIfInBounds_toArray, List.set_cons_zero, List.set_cons_succ, i64_w, i32_w]
        rfl
      refine pure_ (i := 1) (N := some 49) (v := ?_) (a' := ?_) #[true, true, false, false, false, false, false, false, false, false, false, false, false] rfl rfl (any_of HT_.out (by kernel_rfl)) (fun _ _ _ h => h) (Or.inl ⟨by rfl, ?_⟩) ?_ ?_
      rotate_left
      · intro w'
        go_simp
        with_reducible rfl
      rotate_left
      · simp only [Act.put, List.setIfInBounds_toArray, List.set_cons_zero, List.set_cons_succ, i64_w, i32_w]
        rfl
      refine pure_ (i := 2) (N := some 50) (v := ?_) (a' := ?_) #[true, true, true, false, false, false, false, false, false, false, false, false, false] rfl rfl (any_of HT_.out (by kernel_rfl)) (fun _ _ _ h => h) (Or.inl ⟨by rfl, ?_⟩) ?_ ?_
      rotate_left
      · intro w'
        go_simp
        with_reducible rfl
      rotate_left
      · simp only [Act.put, List.setIfInBounds_toArray, List.set_cons_zero, List.set_cons_succ, i64_w, i32_w]
        rfl
      refine pure_ (i := 3) (N := some 51) (v := ?_) (a' := ?_) #[true, true, true, true, false, false, false, false, false, false, false, false, false] rfl rfl (any_of HT_.out (by kernel_rfl)) (fun _ _ _ h => h) (Or.inl ⟨by rfl, ?_⟩) ?_ ?_
      rotate_left
      · intro w'
        go_simp
        with_reducible rfl
      rotate_left
      · simp only [Act.put, List.setIfInBounds_toArray, List.set_cons_zero, List.set_cons_succ, i64_w, i32_w]
        rfl
      refine pure_ (i := 5) (N := some 53) (v := ?_) (a' := ?_) #[true, true, true, true, false, true, false, false, false, false, false, false, false] rfl rfl (any_of HT_.out (by kernel_rfl)) (fun _ _ _ h => h) (Or.inl ⟨by rfl, ?_⟩) ?_ ?_
      rotate_left
      · intro w'
        go_simp
        with_reducible rfl
      rotate_left
      · simp only [Act.put, List.setIfInBounds_toArray, List.set_cons_zero, List.set_cons_succ, i64_w, i32_w]
        rfl
      refine pure_ (i := 6) (N := some 54) (v := ?_) (a' := ?_) #[true, true, true, true, false, true, true, false, false, false, false, false, false] rfl rfl (any_of HT_.out (by kernel_rfl)) (fun _ _ _ h => h) (Or.inl ⟨by rfl, ?_⟩) ?_ ?_
      rotate_left
      · intro w'
        go_simp
        with_reducible rfl
      rotate_left
      · simp only [Act.put, List.setIfInBounds_toArray, List.set_cons_zero, List.set_cons_succ, i64_w, i32_w]
        rfl
      refine pure_ (i := 7) (N := some 55) (v := ?_) (a' := ?_) #[true, true, true, true, false, true, true, true, false, false, false, false, false] rfl rfl (any_of HT_.out (by kernel_rfl)) (fun _ _ _ h => h) (Or.inl ⟨by rfl, ?_⟩) ?_ ?_
      rotate_left
      · intro w'
        go_simp
        with_reducible rfl
      rotate_left
      · simp only [Act.put, List.setIfInBounds_toArray, List.set_cons_zero, List.set_cons_succ, i64_w, i32_w]
        rfl
      refine take_ (i := 4) (N := some 52) (v := ?_) (a' := ?_) #[true, true, true, true, true, true, true, true, false, false, false, false, false] rfl rfl (take_ofW HT_.out HW_.out (by kernel_rfl)) (fun _ _ _ h => h) (Or.inl ⟨by rfl, ?_⟩) hHeld ?_ ?_
      rotate_left
      · rintro w' ⟨s0, s1⟩
        go_simp
        with_reducible rfl
      rotate_left
      · simp only [Act.put, List.setIfInBounds_toArray, List.set_cons_zero, List.set_cons_succ, i64_w, i32_w]
        rfl
      refine take_ (i := 8) (N := some 56) (v := ?_) (a' := ?_) #[true, true, true, true, true, true, true, true, true, false, false, false, false] rfl rfl (take_ofW HT_.out HW_.out (by kernel_rfl)) (fun _ _ _ h => h) (Or.inl ⟨by rfl, ?_⟩) hHeld ?_ ?_
      rotate_left
      · rintro w' ⟨s0, s1⟩
        go_simp
        with_reducible rfl
      rotate_left
      · simp only [Act.put, List.setIfInBounds_toArray, List.set_cons_zero, List.set_cons_succ, i64_w, i32_w]
        rfl
      refine pure_ (i := 9) (N := some 57) (v := ?_) (a' := ?_) #[true, true, true, true, true, true, true, true, true, true, false, false, false] rfl rfl (any_of HT_.out (by kernel_rfl)) (fun _ _ _ h => h) (Or.inl ⟨by rfl, ?_⟩) ?_ ?_
      rotate_left
      · intro w'
        go_simp
        with_reducible rfl
      rotate_left
      · simp only [Act.put, List.setIfInBounds_toArray, List.set_cons_zero, List.set_cons_succ, i64_w, i32_w]
        rfl
      refine pure_ (i := 10) (N := some 58) (v := ?_) (a' := ?_) #[true, true, true, true, true, true, true, true, true, true, true, false, false] rfl rfl (any_of HT_.out (by kernel_rfl)) (fun _ _ _ h => h) (Or.inl ⟨by rfl, ?_⟩) ?_ ?_
      rotate_left
      · intro w'
        go_simp
        with_reducible rfl
      rotate_left
      · simp only [Act.put, List.setIfInBounds_toArray, List.set_cons_zero, List.set_cons_succ, i64_w, i32_w]
        rfl
      refine pure_ (i := 11) (N := some 59) (v := ?_) (a' := ?_) #[true, true, true, true, true, true, true, true, true, true, true, true, false] rfl rfl (any_of HT_.out (by kernel_rfl)) (fun _ _ _ h => h) (Or.inl ⟨by rfl, ?_⟩) ?_ ?_
      rotate_left
      · intro w'
        go_simp
        with_reducible rfl
      rotate_left
      · simp only [Act.put, List.setIfInBounds_toArray, List.set_cons_zero, List.set_cons_succ, i64_w, i32_w]
        rfl
      refine last_ (i := 12) (N := none) #[true, true, true, true, true, true, true, true, true, true, true, true, true] rfl rfl (one_of HT_.out (by kernel_rfl)) (by decide) (fun K hK => ?_)
      have hfz5 := HFZ5.out
      refine skip_ (w1 := ?_) (by rfl) rfl ?_ ?_
      rotate_left
      · go_simp
        rfl
      refine hK.out _ _ ?_
      clear hK K hfz5
      refine done_ (done_of HT_.out (by kernel_rfl)) ?_
      have HX6 := Aside0.mk (blk_put HX5.out 4 (.slice A9 k c9) rfl)
      have HO6 := Aside0.mk (own_put (own_prefix HO5.out k (by omega) (by omega)) (q := q) (by rw [show (Value.slice A9 k c9).ownBlock = (Value.slice A9 l2.length c9).ownBlock by cases A9 <;> rfl]; exact HQ9.out) 4 (.slice A9 k c9))
      have HT6 := Aside0.mk (turns_put (p := ⟨q, 4, none⟩) HTF.out (.inl rfl) (.slice A9 k c9))
      go_upto_region 6 with (fail)
      generalize wF.setCell ⟨q, 4, none⟩ (.slice A9 k c9) = w5 at *
      have HX7 := Aside0.mk (blk_drew HX6.out)
      have HO7 : Aside0 (w5.drew.ownsRow B 49 2 (.slice A9 k c9) k (prs (l2.take k))) := ⟨HO6.out⟩
      have HT7 : Aside0 (Turns (fun j => j = q ∨ (Value.slice A n c).ownBlock = some j) wD w5.drew) := ⟨⟨HT6.out.os, HT6.out.tape, HT6.out.output, HT6.out.size, HT6.out.block⟩⟩
      have z4 : w5.drew.cell? ⟨q, 4, none⟩ = some (.slice A9 k c9) := (blk_cell HX7.out 4).trans rfl
      have z2 : w5.drew.cell? ⟨q, 2, none⟩ = some (.int .i64 k) := (blk_cell HX7.out 2).trans rfl
      refine start_ (n := 10) (S := fun w' => w'.cell? ⟨q, 4, none⟩ = some (.slice A9 k c9) ∧ w'.cell? ⟨q, 2, none⟩ = some (.int .i64 k)) (ds := []) #[false, false, false, false, false, false, false, false, false, false] (by kernel_rfl) rfl rfl ⟨z4, z2⟩ (fun hHeld => ?_)
      refine with_tabW mt6.tab mt6.bits (fun HT_ HW_ => ?_)
      generalize w5.drew = wH at *
      refine pure_ (i := 0) (N := some 60) (v := ?_) (a' := ?_) #[true, false, false, false, false, false, false, false, false, false] rfl rfl (any_of HT_.out (by kernel_rfl)) (fun _ _ _ h => h) (Or.inl ⟨by rfl, ?_⟩) ?_ ?_
      rotate_left
      · intro w'
        go_simp
        with_reducible rfl
      rotate_left
      · simp only [Act.put, List.setIfInBounds_toArray, List.set_cons_zero, List.set_cons_succ, i64_w, i32_w]
        rfl
      refine pure_ (i := 1) (N := some 61) (v := ?_) (a' := ?_) #[true, true, false, false, false, false, false, false, false, false] rfl rfl (any_of HT_.out (by kernel_rfl)) (fun _ _ _ h => h) (Or.inl ⟨by rfl, ?_⟩) ?_ ?_
      rotate_left
      · intro w'
        go_simp
        with_reducible rfl
      rotate_left
      · simp only [Act.put, List.setIfInBounds_toArray, List.set_cons_zero, List.set_cons_succ, i64_w, i32_w]
        rfl
      refine pure_ (i := 2) (N := some 62) (v := ?_) (a' := ?_) #[true, true, true, false, false, false, false, false, false, false] rfl rfl (any_of HT_.out (by kernel_rfl)) (fun _ _ _ h => h) (Or.inl ⟨by rfl, ?_⟩) ?_ ?_
      rotate_left
      · intro w'
        go_simp
        with_reducible rfl
      rotate_left
      · simp only [Act.put, List.setIfInBounds_toArray, List.set_cons_zero, List.set_cons_succ, i64_w, i32_w]
        rfl
      refine pure_ (i := 5) (N := some 65) (v := ?_) (a' := ?_) #[true, true, true, false, false, true, false, false, false, false] rfl rfl (any_of HT_.out (by kernel_rfl)) (fun _ _ _ h => h) (Or.inl ⟨by rfl, ?_⟩) ?_ ?_
      rotate_left
      · intro w'
        go_simp
        with_reducible rfl
      rotate_left
      · simp only [Act.put, List.setIfInBounds_toArray, List.set_cons_zero, List.set_cons_succ, i64_w, i32_w]
        rfl
      refine pure_ (i := 6) (N := some 66) (v := ?_) (a' := ?_) #[true, true, true, false, false, true, true, false, false, false] rfl rfl (any_of HT_.out (by kernel_rfl)) (fun _ _ _ h => h) (Or.inl ⟨by rfl, ?_⟩) ?_ ?_
      rotate_left
      · intro w'
        go_simp
        with_reducible rfl
      rotate_left
      · simp only [Act.put, List.setIfInBounds_toArray, List.set_cons_zero, List.set_cons_succ, i64_w, i32_w]
        rfl
      refine pure_ (i := 7) (N := some 67) (v := ?_) (a' := ?_) #[true, true, true, false, false, true, true, true, false, false] rfl rfl (any_of HT_.out (by kernel_rfl)) (fun _ _ _ h => h) (Or.inl ⟨by rfl, ?_⟩) ?_ ?_
      rotate_left
      · intro w'
        go_simp
        with_reducible rfl
      rotate_left
      · simp only [Act.put, List.setIfInBounds_toArray, List.set_cons_zero, List.set_cons_succ, i64_w, i32_w]
        rfl
      refine take_ (i := 3) (N := some 63) (v := ?_) (a' := ?_) #[true, true, true, true, false, true, true, true, false, false] rfl rfl (take_ofW HT_.out HW_.out (by kernel_rfl)) (fun _ _ _ h => h) (Or.inl ⟨by rfl, ?_⟩) hHeld ?_ ?_
      rotate_left
      · rintro w' ⟨s0, s1⟩
        go_simp
        with_reducible rfl
      rotate_left
      · simp only [Act.put, List.setIfInBounds_toArray, List.set_cons_zero, List.set_cons_succ, i64_w, i32_w]
        rfl
      refine pure_ (i := 4) (N := some 64) (v := ?_) (a' := ?_) #[true, true, true, true, true, true, true, true, false, false] rfl rfl (any_of HT_.out (by kernel_rfl)) (fun _ _ _ h => h) (Or.inl ⟨by rfl, ?_⟩) ?_ ?_
      rotate_left
      · intro w'
        go_simp
        with_reducible rfl
      rotate_left
      · simp only [Act.put, List.setIfInBounds_toArray, List.set_cons_zero, List.set_cons_succ, i64_w, i32_w]
        rfl
      refine take_ (i := 8) (N := some 68) (v := ?_) (a' := ?_) #[true, true, true, true, true, true, true, true, true, false] rfl rfl (take_ofW HT_.out HW_.out (by kernel_rfl)) (fun _ _ _ h => h) (Or.inl ⟨by rfl, ?_⟩) hHeld ?_ ?_
      rotate_left
      · rintro w' ⟨s0, s1⟩
        go_simp
        with_reducible rfl
      rotate_left
      · simp only [Act.put, List.setIfInBounds_toArray, List.set_cons_zero, List.set_cons_succ, i64_w, i32_w]
        rfl
      refine pure_ (i := 9) (N := some 69) (v := ?_) (a' := ?_) #[true, true, true, true, true, true, true, true, true, true] rfl rfl (any_of HT_.out (by kernel_rfl)) (fun _ _ _ h => h) (Or.inl ⟨by rfl, ?_⟩) ?_ ?_
      rotate_left
      · intro w'
        go_simp
        with_reducible rfl
      rotate_left
      · simp only [Act.put, List.setIfInBounds_toArray, List.set_cons_zero, List.set_cons_succ, i64_w, i32_w]
        rfl
      refine done_ (done_of HT_.out (by kernel_rfl)) ?_
      have hk6 : (k : Int) = (k : Int) := rfl
      go_upto_region 7 with (fail)
      have HTG : Aside0 (Turns (fun j => j = q ∨ (Value.slice A n c).ownBlock = some j) wD wH.drew) := ⟨⟨HT7.out.os, HT7.out.tape, HT7.out.output, HT7.out.size, HT7.out.block⟩⟩
      have HX8 := Aside0.mk (blk_drew HX7.out)
      have HO8 : Aside0 (wH.drew.ownsRow B 49 2 (.slice A9 k c9) k (prs (l2.take k))) := ⟨HO7.out⟩
      have HQ7 : Aside0 ((Value.slice A9 k c9).ownBlock ≠ some q) := ⟨by rw [show (Value.slice A9 k c9).ownBlock = (Value.slice A9 l2.length c9).ownBlock by cases A9 <;> rfl]; exact HQ9.out⟩
      have v4 : wH.drew.cell? ⟨q, 4, none⟩ = some (.slice A9 k c9) := (blk_cell HX8.out 4).trans rfl
      have v2 : wH.drew.cell? ⟨q, 2, none⟩ = some (.int .i64 (k : Int)) := (blk_cell HX8.out 2).trans rfl
      have hidx : k - 1 < l2.length := by have := HM.out; omega
      obtain ⟨lt, hlt⟩ : ∃ lt, l2.take k = lt := ⟨_, rfl⟩
      have hltk : lt.length = k := by rw [← hlt, List.length_take]; have := HM.out; omega
      obtain ⟨r, hr, hjunk, v9⟩ := at_two (own_readsP (c := c9) (l := lt) (by rw [hltk, ← hlt]; exact HO8.out) (by omega)) (k - 1) (by omega)
      subst hr
      obtain ⟨fd, hfd⟩ : ∃ fd, (l2[k - 1]'hidx).2 = fd := ⟨_, rfl⟩
      have hfd2 : (lt[k - 1]'(by omega)).2 = fd := by rw [← hfd]; subst hlt; rw [List.getElem_take]
      rw [hfd2] at v9
      have HFD := Aside0.mk hfd
      clear hfd hfd2 hjunk hltk hlt
      have hfz7 : wH.drew.frozen? ⟨q, 3, none⟩ = false := by
        have := HX8.out
        simp [World.frozen?, this]
      have HFZ7 := Aside0.mk hfz7
      have HV3 : Aside0 (wH.drew.cell? ⟨q, 3, none⟩ = some (.int .i64 lim)) := ⟨(blk_cell HX8.out 3).trans rfl⟩
      have hm1 : ((k : Int) - 1).toNat = k - 1 := by omega
      have hm2 : (1 : Int) ≤ (k : Int) := by omega
      have hm3 : (k : Int) - 1 < (k : Int) := by omega
      have hm4 : wrap64 ((k : Int) - 1) = (k : Int) - 1 := by unfold wrap64; omega
      clear z4 z2 hfz7 HX7 HO7 HT7
      refine start_ (n := 16) (S := fun w' => w'.cell? ⟨q, 4, none⟩ = some (.slice (some r) k c9) ∧ w'.cell? ⟨q, 2, none⟩ = some (.int .i64 (k : Int)) ∧ w'.cell? ⟨(r.add ((k - 1) * 2)).block, (r.add ((k - 1) * 2)).off + 1, none⟩ = some (.int .i64 fd)) (ds := [15]) #[false, false, false, false, false, false, false, false, false, false, false, false, false, false, false, false] (by kernel_rfl) rfl rfl ⟨v4, v2, v9⟩ (fun hHeld => ?_)
      refine with_tabW mt7.tab mt7.bits (fun HT_ HW_ => ?_)
      generalize wH.drew = wJ at *
      refine pure_ (i := 0) (N := some 70) (v := ?_) (a' := ?_) #[true, false, false, false, false, false, false, false, false, false, false, false, false, false, false, false] rfl rfl (any_of HT_.out (by kernel_rfl)) (fun _ _ _ h => h) (Or.inl ⟨by rfl, ?_⟩) ?_ ?_
      rotate_left
      · intro w'
        go_simp
        with_reducible rfl
      rotate_left
      · simp only [Act.put, List.setIfInBounds_toArray, List.set_cons_zero, List.set_cons_succ, i64_w, i32_w]
        rfl
      refine pure_ (i := 1) (N := some 71) (v := ?_) (a' := ?_) #[true, true, false, false, false, false, false, false, false, false, false, false, false, false, false, false] rfl rfl (any_of HT_.out (by kernel_rfl)) (fun _ _ _ h => h) (Or.inl ⟨by rfl, ?_⟩) ?_ ?_
      rotate_left
      · intro w'
        go_simp
        with_reducible rfl
      rotate_left
      · simp only [Act.put, List.setIfInBounds_toArray, List.set_cons_zero, List.set_cons_succ, i64_w, i32_w]
        rfl
      refine pure_ (i := 2) (N := some 72) (v := ?_) (a' := ?_) #[true, true, true, false, false, false, false, false, false, false, false, false, false, false, false, false] rfl rfl (any_of HT_.out (by kernel_rfl)) (fun _ _ _ h => h) (Or.inl ⟨by rfl, ?_⟩) ?_ ?_
      rotate_left
      · intro w'
        go_simp
        with_reducible rfl
      rotate_left
      · simp only [Act.put, List.setIfInBounds_toArray, List.set_cons_zero, List.set_cons_succ, i64_w, i32_w]
        rfl
      refine pure_ (i := 3) (N := some 73) (v := ?_) (a' := ?_) #[true, true, true, true, false, false, false, false, false, false, false, false, false, false, false, false] rfl rfl (any_of HT_.out (by kernel_rfl)) (fun _ _ _ h => h) (Or.inl ⟨by rfl, ?_⟩) ?_ ?_
      rotate_left
      · intro w'
        go_simp
        with_reducible rfl
      rotate_left
      · simp only [Act.put, List.setIfInBounds_toArray, List.set_cons_zero, List.set_cons_succ, i64_w, i32_w]
        rfl
      refine pure_ (i := 5) (N := some 75) (v := ?_) (a' := ?_) #[true, true, true, true, false, true, false, false, false, false, false, false, false, false, false, false] rfl rfl (any_of HT_.out (by kernel_rfl)) (fun _ _ _ h => h) (Or.inl ⟨by rfl, ?_⟩) ?_ ?_
      rotate_left
      · intro w'
        go_simp
        with_reducible rfl
      rotate_left
      · simp only [Act.put, List.setIfInBounds_toArray, List.set_cons_zero, List.set_cons_succ, i64_w, i32_w]
        rfl
      refine pure_ (i := 6) (N := some 76) (v := ?_) (a' := ?_) #[true, true, true, true, false, true, true, false, false, false, false, false, false, false, false, false] rfl rfl (any_of HT_.out (by kernel_rfl)) (fun _ _ _ h => h) (Or.inl ⟨by rfl, ?_⟩) ?_ ?_
      rotate_left
      · intro w'
        go_simp
        with_reducible rfl
      rotate_left
      · simp only [Act.put, List.setIfInBounds_toArray, List.set_cons_zero, List.set_cons_succ, i64_w, i32_w]
        rfl
      refine pure_ (i := 7) (N := some 77) (v := ?_) (a' := ?_) #[true, true, true, true, false, true, true, true, false, false, false, false, false, false, false, false] rfl rfl (any_of HT_.out (by kernel_rfl)) (fun _ _ _ h => h) (Or.inl ⟨by rfl, ?_⟩) ?_ ?_
      rotate_left
      · intro w'
        go_simp
        with_reducible rfl
      rotate_left
      · simp only [Act.put, List.setIfInBounds_toArray, List.set_cons_zero, List.set_cons_succ, i64_w, i32_w]
        rfl
      refine take_ (i := 4) (N := some 74) (v := ?_) (a' := ?_) #[true, true, true, true, true, true, true, true, false, false, false, false, false, false, false, false] rfl rfl (take_ofW HT_.out HW_.out (by kernel_rfl)) (fun _ _ _ h => h) (Or.inl ⟨by rfl, ?_⟩) hHeld ?_ ?_
      rotate_left
      · rintro w' ⟨s0, s1, s2⟩
        go_simp
        with_reducible rfl
      rotate_left
      · simp only [Act.put, List.setIfInBounds_toArray, List.set_cons_zero, List.set_cons_succ, i64_w, i32_w]
        rfl
      refine take_ (i := 8) (N := some 78) (v := ?_) (a' := ?_) #[true, true, true, true, true, true, true, true, true, false, false, false, false, false, false, false] rfl rfl (take_ofW HT_.out HW_.out (by kernel_rfl)) (fun _ _ _ h => h) (Or.inl ⟨by rfl, ?_⟩) hHeld ?_ ?_
      rotate_left
      · rintro w' ⟨s0, s1, s2⟩
        go_simp
        with_reducible rfl
      rotate_left
      · simp only [Act.put, List.setIfInBounds_toArray, List.set_cons_zero, List.set_cons_succ, i64_w, i32_w]
        rfl
      refine pure_ (i := 9) (N := some 79) (v := ?_) (a' := ?_) #[true, true, true, true, true, true, true, true, true, true, false, false, false, false, false, false] rfl rfl (any_of HT_.out (by kernel_rfl)) (fun _ _ _ h => h) (Or.inl ⟨by rfl, ?_⟩) ?_ ?_
      rotate_left
      · intro w'
        go_simp
        with_reducible rfl
      rotate_left
      · simp only [Act.put, List.setIfInBounds_toArray, List.set_cons_zero, List.set_cons_succ, i64_w, i32_w]
        rfl
      refine pure_ (i := 10) (N := some 80) (v := ?_) (a' := ?_) #[true, true, true, true, true, true, true, true, true, true, true, false, false, false, false, false] rfl rfl (any_of HT_.out (by kernel_rfl)) (fun _ _ _ h => h) (Or.inl ⟨by rfl, ?_⟩) ?_ ?_
      rotate_left
      · intro w'
        go_simp
        with_reducible rfl
      rotate_left
      · simp only [Act.put, List.setIfInBounds_toArray, List.set_cons_zero, List.set_cons_succ, i64_w, i32_w]
        rfl
      refine pure_ (i := 11) (N := some 81) (v := ?_) (a' := ?_) #[true, true, true, true, true, true, true, true, true, true, true, true, false, false, false, false] rfl rfl (any_of HT_.out (by kernel_rfl)) (fun _ _ _ h => h) (Or.inl ⟨by rfl, ?_⟩) ?_ ?_
      rotate_left
      · intro w'
        go_simp
        with_reducible rfl
      rotate_left
      · simp only [Act.put, List.setIfInBounds_toArray, List.set_cons_zero, List.set_cons_succ, i64_w, i32_w]
        rfl
      refine take_ (i := 12) (N := some 82) (v := ?_) (a' := ?_) #[true, true, true, true, true, true, true, true, true, true, true, true, true, false, false, false] rfl rfl (take_ofW HT_.out HW_.out (by kernel_rfl)) (fun _ _ _ h => h) (Or.inl ⟨by rfl, ?_⟩) hHeld ?_ ?_
      rotate_left
      · rintro w' ⟨s0, s1, s2⟩
        go_simp
        with_reducible rfl
      rotate_left
      · simp only [Act.put, List.setIfInBounds_toArray, List.set_cons_zero, List.set_cons_succ, i64_w, i32_w]
        rfl
      refine pure_ (i := 13) (N := some 83) (v := ?_) (a' := ?_) #[true, true, true, true, true, true, true, true, true, true, true, true, true, true, false, false] rfl rfl (any_of HT_.out (by kernel_rfl)) (fun _ _ _ h => h) (Or.inl ⟨by rfl, ?_⟩) ?_ ?_
      rotate_left
      · intro w'
        go_simp
        with_reducible rfl
      rotate_left
      · simp only [Act.put, List.setIfInBounds_toArray, List.set_cons_zero, List.set_cons_succ, i64_w, i32_w]
        rfl
      refine pure_ (i := 14) (N := some 84) (v := ?_) (a' := ?_) #[true, true, true, true, true, true, true, true, true, true, true, true, true, true, true, false] rfl rfl (any_of HT_.out (by kernel_rfl)) (fun _ _ _ h => h) (Or.inl ⟨by rfl, ?_⟩) ?_ ?_
      rotate_left
      · intro w'
        go_simp
        with_reducible rfl
      rotate_left
      · simp only [Act.put, List.setIfInBounds_toArray, List.set_cons_zero, List.set_cons_succ, i64_w, i32_w]
        rfl
      refine last_ (i := 15) (N := none) #[true, true, true, true, true, true, true, true, true, true, true, true, true, true, true, true] rfl rfl (one_of HT_.out (by kernel_rfl)) (by decide) (fun K hK => ?_)
      have hfz7 := HFZ7.out
      have hv3 := HV3.out
      refine skip_ (w1 := ?_) (by rfl) rfl ?_ ?_
      rotate_left
      · go_simp
        rfl
      refine hK.out _ _ ?_
      clear hK K hfz7 hv3
      refine done_ (done_of HT_.out (by kernel_rfl)) ?_
      go_wp2_with fail
      refine bodyPost_end (results_none rfl _ _ _) rfl ?_
      exact met_full (Int.not_lt.2 hd) HL2.out HM.out (by omega) hk1 HFD.out (blk_put HX8.out 3 (.int .i64 fd) rfl) (own_put HO8.out HQ7.out 3 _) HBQ.out HQ7.out (met_turns HBW.out (turns_put HTG.out (.inl rfl) _)) (own_near HBW.out HA9.out)
    · have hk4 : ¬ (k : Int) < (m : Int) := by omega
      go_upto_region 6 with (fail)
      have HTF : Aside0 (Turns (fun j => j = q ∨ (Value.slice A n c).ownBlock = some j) wD wE.drew) := ⟨⟨HTD.out.os, HTD.out.tape, HTD.out.output, HTD.out.size, HTD.out.block⟩⟩
      have HX5 := Aside0.mk (blk_drew HX4.out)
      have HO5 : Aside0 (wE.drew.ownsRow B 49 2 (.slice A9 m c9) m (prs l2)) := ⟨HO4.out⟩
      have z4 : wE.drew.cell? ⟨q, 4, none⟩ = some (.slice A9 m c9) := (blk_cell HX5.out 4).trans rfl
      have z2 : wE.drew.cell? ⟨q, 2, none⟩ = some (.int .i64 k) := (blk_cell HX5.out 2).trans rfl
      clear y4 y2 HX4 HO4 HTD
      refine start_ (n := 10) (S := fun w' => w'.cell? ⟨q, 4, none⟩ = some (.slice A9 m c9) ∧ w'.cell? ⟨q, 2, none⟩ = some (.int .i64 k)) (ds := []) #[false, false, false, false, false, false, false, false, false, false] (by kernel_rfl) rfl rfl ⟨z4, z2⟩ (fun hHeld => ?_)
      refine with_tabW mt6.tab mt6.bits (fun HT_ HW_ => ?_)
      generalize wE.drew = wF at *
      refine pure_ (i := 0) (N := some 60) (v := ?_) (a' := ?_) #[true, false, false, false, false, false, false, false, false, false] rfl rfl (any_of HT_.out (by kernel_rfl)) (fun _ _ _ h => h) (Or.inl ⟨by rfl, ?_⟩) ?_ ?_
      rotate_left
      · intro w'
        go_simp
        with_reducible rfl
      rotate_left
      · simp only [Act.put, List.setIfInBounds_toArray, List.set_cons_zero, List.set_cons_succ, i64_w, i32_w]
        rfl
      refine pure_ (i := 1) (N := some 61) (v := ?_) (a' := ?_) #[true, true, false, false, false, false, false, false, false, false] rfl rfl (any_of HT_.out (by kernel_rfl)) (fun _ _ _ h => h) (Or.inl ⟨by rfl, ?_⟩) ?_ ?_
      rotate_left
      · intro w'
        go_simp
        with_reducible rfl
      rotate_left
      · simp only [Act.put, List.setIfInBounds_toArray, List.set_cons_zero, List.set_cons_succ, i64_w, i32_w]
        rfl
      refine pure_ (i := 2) (N := some 62) (v := ?_) (a' := ?_) #[true, true, true, false, false, false, false, false, false, false] rfl rfl (any_of HT_.out (by kernel_rfl)) (fun _ _ _ h => h) (Or.inl ⟨by rfl, ?_⟩) ?_ ?_
      rotate_left
      · intro w'
        go_simp
        with_reducible rfl
      rotate_left
      · simp only [Act.put, List.setIfInBounds_toArray, List.set_cons_zero, List.set_cons_succ, i64_w, i32_w]
        rfl
      refine pure_ (i := 5) (N := some 65) (v := ?_) (a' := ?_) #[true, true, true, false, false, true, false, false, false, false] rfl rfl (any_of HT_.out (by kernel_rfl)) (fun _ _ _ h => h) (Or.inl ⟨by rfl, ?_⟩) ?_ ?_
      rotate_left
      · intro w'
        go_simp
        with_reducible rfl
      rotate_left
      · simp only [Act.put, List.setIfInBounds_toArray, List.set_cons_zero, List.set_cons_succ, i64_w, i32_w]
        rfl
      refine pure_ (i := 6) (N := some 66) (v := ?_) (a' := ?_) #[true, true, true, false, false, true, true, false, false, false] rfl rfl (any_of HT_.out (by kernel_rfl)) (fun _ _ _ h => h) (Or.inl ⟨by rfl, ?_⟩) ?_ ?_
      rotate_left
      · intro w'
        go_simp
        with_reducible rfl
      rotate_left
      · simp only [Act.put, List.setIfInBounds_toArray, List.set_cons_zero, List.set_cons_succ, i64_w, i32_w]
        rfl
      refine pure_ (i := 7) (N := some 67) (v := ?_) (a' := ?_) #[true, true, true, false, false, true, true, true, false, false] rfl rfl (any_of HT_.out (by kernel_rfl)) (fun _ _ _ h => h) (Or.inl ⟨by rfl, ?_⟩) ?_ ?_
      rotate_left
      · intro w'
        go_simp
        with_reducible rfl
      rotate_left
      · simp only [Act.put, List.setIfInBounds_toArray, List.set_cons_zero, List.set_cons_succ, i64_w, i32_w]
        rfl
      refine take_ (i := 3) (N := some 63) (v := ?_) (a' := ?_) #[true, true, true, true, false, true, true, true, false, false] rfl rfl (take_ofW HT_.out HW_.out (by kernel_rfl)) (fun _ _ _ h => h) (Or.inl ⟨by rfl, ?_⟩) hHeld ?_ ?_
      rotate_left
      · rintro w' ⟨s0, s1⟩
        go_simp
        with_reducible rfl
      rotate_left
      · simp only [Act.put, List.setIfInBounds_toArray, List.set_cons_zero, List.set_cons_succ, i64_w, i32_w]
        rfl
      refine pure_ (i := 4) (N := some 64) (v := ?_) (a' := ?_) #[true, true, true, true, true, true, true, true, false, false] rfl rfl (any_of HT_.out (by kernel_rfl)) (fun _ _ _ h => h) (Or.inl ⟨by rfl, ?_⟩) ?_ ?_
      rotate_left
      · intro w'
        go_simp
        with_reducible rfl
      rotate_left
      · simp only [Act.put, List.setIfInBounds_toArray, List.set_cons_zero, List.set_cons_succ, i64_w, i32_w]
        rfl
      refine take_ (i := 8) (N := some 68) (v := ?_) (a' := ?_) #[true, true, true, true, true, true, true, true, true, false] rfl rfl (take_ofW HT_.out HW_.out (by kernel_rfl)) (fun _ _ _ h => h) (Or.inl ⟨by rfl, ?_⟩) hHeld ?_ ?_
      rotate_left
      · rintro w' ⟨s0, s1⟩
        go_simp
        with_reducible rfl
      rotate_left
      · simp only [Act.put, List.setIfInBounds_toArray, List.set_cons_zero, List.set_cons_succ, i64_w, i32_w]
        rfl
      refine pure_ (i := 9) (N := some 69) (v := ?_) (a' := ?_) #[true, true, true, true, true, true, true, true, true, true] rfl rfl (any_of HT_.out (by kernel_rfl)) (fun _ _ _ h => h) (Or.inl ⟨by rfl, ?_⟩) ?_ ?_
      rotate_left
      · intro w'
        go_simp
        with_reducible rfl
      rotate_left
      · simp only [Act.put, List.setIfInBounds_toArray, List.set_cons_zero, List.set_cons_succ, i64_w, i32_w]
        rfl
      refine done_ (done_of HT_.out (by kernel_rfl)) ?_
      by_cases hmk : m = k
      · have hk6 : (m : Int) = (k : Int) := by omega
        go_upto_region 7 with (fail)
        have HTG : Aside0 (Turns (fun j => j = q ∨ (Value.slice A n c).ownBlock = some j) wD wF.drew) := ⟨⟨HTF.out.os, HTF.out.tape, HTF.out.output, HTF.out.size, HTF.out.block⟩⟩
        have HX6 := Aside0.mk (blk_drew HX5.out)
        have HO6 : Aside0 (wF.drew.ownsRow B 49 2 (.slice A9 m c9) m (prs l2)) := ⟨HO5.out⟩
        subst hmk
        have v4 : wF.drew.cell? ⟨q, 4, none⟩ = some (.slice A9 m c9) := (blk_cell HX6.out 4).trans rfl
        have v2 : wF.drew.cell? ⟨q, 2, none⟩ = some (.int .i64 (m : Int)) := (blk_cell HX6.out 2).trans rfl
        obtain ⟨r, hr, _, v9⟩ := at_two (own_readsP (c := c9) (by have := HM.out; rw [this]; exact HO6.out) (by have := HM.out; omega)) (m - 1) (by have := HM.out; omega)
        subst hr
        obtain ⟨fd, hfd⟩ : ∃ fd, (l2[m - 1]'(by have := HM.out; omega)).2 = fd := ⟨_, rfl⟩
        rw [hfd] at v9
        have HFD := Aside0.mk hfd
        clear hfd
        have hfz7 : wF.drew.frozen? ⟨q, 3, none⟩ = false := by
          have := HX6.out
          simp [World.frozen?, this]
        have HFZ7 := Aside0.mk hfz7
        have HV3 : Aside0 (wF.drew.cell? ⟨q, 3, none⟩ = some (.int .i64 lim)) := ⟨(blk_cell HX6.out 3).trans rfl⟩
        have hm1 : ((m : Int) - 1).toNat = m - 1 := by omega
        have hm2 : (1 : Int) ≤ (m : Int) := by omega
        have hm3 : (m : Int) - 1 < (m : Int) := by omega
        have hm4 : wrap64 ((m : Int) - 1) = (m : Int) - 1 := by unfold wrap64; omega
        clear z4 z2 hfz7 HX5 HO5 HTF
        refine start_ (n := 16) (S := fun w' => w'.cell? ⟨q, 4, none⟩ = some (.slice (some r) m c9) ∧ w'.cell? ⟨q, 2, none⟩ = some (.int .i64 (m : Int)) ∧ w'.cell? ⟨(r.add ((m - 1) * 2)).block, (r.add ((m - 1) * 2)).off + 1, none⟩ = some (.int .i64 fd)) (ds := [15]) #[false, false, false, false, false, false, false, false, false, false, false, false, false, false, false, false] (by kernel_rfl) rfl rfl ⟨v4, v2, v9⟩ (fun hHeld => ?_)
        refine with_tabW mt7.tab mt7.bits (fun HT_ HW_ => ?_)
        generalize wF.drew = wG at *
        refine pure_ (i := 0) (N := some 70) (v := ?_) (a' := ?_) #[true, false, false, false, false, false, false, false, false, false, false, false, false, false, false, false] rfl rfl (any_of HT_.out (by kernel_rfl)) (fun _ _ _ h => h) (Or.inl ⟨by rfl, ?_⟩) ?_ ?_
        rotate_left
        · intro w'
          go_simp
          with_reducible rfl
        rotate_left
        · simp only [Act.put, List.setIfInBounds_toArray, List.set_cons_zero, List.set_cons_succ, i64_w, i32_w]
          rfl
        refine pure_ (i := 1) (N := some 71) (v := ?_) (a' := ?_) #[true, true, false, false, false, false, false, false, false, false, false, false, false, false, false, false] rfl rfl (any_of HT_.out (by kernel_rfl)) (fun _ _ _ h => h) (Or.inl ⟨by rfl, ?_⟩) ?_ ?_
        rotate_left
        · intro w'
          go_simp
          with_reducible rfl
        rotate_left
        · simp only [Act.put, List.setIfInBounds_toArray, List.set_cons_zero, List.set_cons_succ, i64_w, i32_w]
          rfl
        refine pure_ (i := 2) (N := some 72) (v := ?_) (a' := ?_) #[true, true, true, false, false, false, false, false, false, false, false, false, false, false, false, false] rfl rfl (any_of HT_.out (by kernel_rfl)) (fun _ _ _ h => h) (Or.inl ⟨by rfl, ?_⟩) ?_ ?_
        rotate_left
        · intro w'
          go_simp
          with_reducible rfl
        rotate_left
        · simp only [Act.put, List.setIfInBounds_toArray, List.set_cons_zero, List.set_cons_succ, i64_w, i32_w]
          rfl
        refine pure_ (i := 3) (N := some 73) (v := ?_) (a' := ?_) #[true, true, true, true, false, false, false, false, false, false, false, false, false, false, false, false] rfl rfl (any_of HT_.out (by kernel_rfl)) (fun _ _ _ h => h) (Or.inl ⟨by rfl, ?_⟩) ?_ ?_
        rotate_left
        · intro w'
          go_simp
          with_reducible rfl
        rotate_left
        · simp only [Act.put, List.setIfInBounds_toArray, List.set_cons_zero, List.set_cons_succ, i64_w, i32_w]
          rfl
        refine pure_ (i := 5) (N := some 75) (v := ?_) (a' := ?_) #[true, true, true, true, false, true, false, false, false, false, false, false, false, false, false, false] rfl rfl (any_of HT_.out (by kernel_rfl)) (fun _ _ _ h => h) (Or.inl ⟨by rfl, ?_⟩) ?_ ?_
        rotate_left
        · intro w'
          go_simp
          with_reducible rfl
        rotate_left
        · simp only [Act.put, List.setIfInBounds_toArray, List.set_cons_zero, List.set_cons_succ, i64_w, i32_w]
          rfl
        refine pure_ (i := 6) (N := some 76) (v := ?_) (a' := ?_) #[true, true, true, true, false, true, true, false, false, false, false, false, false, false, false, false] rfl rfl (any_of HT_.out (by kernel_rfl)) (fun _ _ _ h => h) (Or.inl ⟨by rfl, ?_⟩) ?_ ?_
        rotate_left
        · intro w'
          go_simp
          with_reducible rfl
        rotate_left
        · simp only [Act.put, List.setIfInBounds_toArray, List.set_cons_zero, List.set_cons_succ, i64_w, i32_w]
          rfl
        refine pure_ (i := 7) (N := some 77) (v := ?_) (a' := ?_) #[true, true, true, true, false, true, true, true, false, false, false, false, false, false, false, false] rfl rfl (any_of HT_.out (by kernel_rfl)) (fun _ _ _ h => h) (Or.inl ⟨by rfl, ?_⟩) ?_ ?_
        rotate_left
        · intro w'
          go_simp
          with_reducible rfl
        rotate_left
        · simp only [Act.put, List.setIfInBounds_toArray, List.set_cons_zero, List.set_cons_succ, i64_w, i32_w]
          rfl
        refine take_ (i := 4) (N := some 74) (v := ?_) (a' := ?_) #[true, true, true, true, true, true, true, true, false, false, false, false, false, false, false, false] rfl rfl (take_ofW HT_.out HW_.out (by kernel_rfl)) (fun _ _ _ h => h) (Or.inl ⟨by rfl, ?_⟩) hHeld ?_ ?_
        rotate_left
        · rintro w' ⟨s0, s1, s2⟩
          go_simp
          with_reducible rfl
        rotate_left
        · simp only [Act.put, List.setIfInBounds_toArray, List.set_cons_zero, List.set_cons_succ, i64_w, i32_w]
          rfl
        refine take_ (i := 8) (N := some 78) (v := ?_) (a' := ?_) #[true, true, true, true, true, true, true, true, true, false, false, false, false, false, false, false] rfl rfl (take_ofW HT_.out HW_.out (by kernel_rfl)) (fun _ _ _ h => h) (Or.inl ⟨by rfl, ?_⟩) hHeld ?_ ?_
        rotate_left
        · rintro w' ⟨s0, s1, s2⟩
          go_simp
          with_reducible rfl
        rotate_left
        · simp only [Act.put, List.setIfInBounds_toArray, List.set_cons_zero, List.set_cons_succ, i64_w, i32_w]
          rfl
        refine pure_ (i := 9) (N := some 79) (v := ?_) (a' := ?_) #[true, true, true, true, true, true, true, true, true, true, false, false, false, false, false, false] rfl rfl (any_of HT_.out (by kernel_rfl)) (fun _ _ _ h => h) (Or.inl ⟨by rfl, ?_⟩) ?_ ?_
        rotate_left
        · intro w'
          go_simp
          with_reducible rfl
        rotate_left
        · simp only [Act.put, List.setIfInBounds_toArray, List.set_cons_zero, List.set_cons_succ, i64_w, i32_w]
          rfl
        refine pure_ (i := 10) (N := some 80) (v := ?_) (a' := ?_) #[true, true, true, true, true, true, true, true, true, true, true, false, false, false, false, false] rfl rfl (any_of HT_.out (by kernel_rfl)) (fun _ _ _ h => h) (Or.inl ⟨by rfl, ?_⟩) ?_ ?_
        rotate_left
        · intro w'
          go_simp
          with_reducible rfl
        rotate_left
        · simp only [Act.put, List.setIfInBounds_toArray, List.set_cons_zero, List.set_cons_succ, i64_w, i32_w]
          rfl
        refine pure_ (i := 11) (N := some 81) (v := ?_) (a' := ?_) #[true, true, true, true, true, true, true, true, true, true, true, true, false, false, false, false] rfl rfl (any_of HT_.out (by kernel_rfl)) (fun _ _ _ h => h) (Or.inl ⟨by rfl, ?_⟩) ?_ ?_
        rotate_left
        · intro w'
          go_simp
          with_reducible rfl
        rotate_left
        · simp only [Act.put, List.setIfInBounds_toArray, List.set_cons_zero, List.set_cons_succ, i64_w, i32_w]
          rfl
        refine take_ (i := 12) (N := some 82) (v := ?_) (a' := ?_) #[true, true, true, true, true, true, true, true, true, true, true, true, true, false, false, false] rfl rfl (take_ofW HT_.out HW_.out (by kernel_rfl)) (fun _ _ _ h => h) (Or.inl ⟨by rfl, ?_⟩) hHeld ?_ ?_
        rotate_left
        · rintro w' ⟨s0, s1, s2⟩
          go_simp
          with_reducible rfl
        rotate_left
        · simp only [Act.put, List.setIfInBounds_toArray, List.set_cons_zero, List.set_cons_succ, i64_w, i32_w]
          rfl
        refine pure_ (i := 13) (N := some 83) (v := ?_) (a' := ?_) #[true, true, true, true, true, true, true, true, true, true, true, true, true, true, false, false] rfl rfl (any_of HT_.out (by kernel_rfl)) (fun _ _ _ h => h) (Or.inl ⟨by rfl, ?_⟩) ?_ ?_
        rotate_left
        · intro w'
          go_simp
          with_reducible rfl
        rotate_left
        · simp only [Act.put, List.setIfInBounds_toArray, List.set_cons_zero, List.set_cons_succ, i64_w, i32_w]
          rfl
        refine pure_ (i := 14) (N := some 84) (v := ?_) (a' := ?_) #[true, true, true, true, true, true, true, true, true, true, true, true, true, true, true, false] rfl rfl (any_of HT_.out (by kernel_rfl)) (fun _ _ _ h => h) (Or.inl ⟨by rfl, ?_⟩) ?_ ?_
        rotate_left
        · intro w'
          go_simp
          with_reducible rfl
        rotate_left
        · simp only [Act.put, List.setIfInBounds_toArray, List.set_cons_zero, List.set_cons_succ, i64_w, i32_w]
          rfl
        refine last_ (i := 15) (N := none) #[true, true, true, true, true, true, true, true, true, true, true, true, true, true, true, true] rfl rfl (one_of HT_.out (by kernel_rfl)) (by decide) (fun K hK => ?_)
        have hfz7 := HFZ7.out
        have hv3 := HV3.out
        refine skip_ (w1 := ?_) (by rfl) rfl ?_ ?_
        rotate_left
        · go_simp
          rfl
        refine hK.out _ _ ?_
        clear hK K hfz7 hv3
        refine done_ (done_of HT_.out (by kernel_rfl)) ?_
        go_wp2_with fail
        refine bodyPost_end (results_none rfl _ _ _) rfl ?_
        exact met_full (Int.not_lt.2 hd) HL2.out HM.out (Nat.le_refl _) hk1 HFD.out (blk_put HX6.out 3 (.int .i64 fd) rfl) (own_put (by rw [List.take_of_length_le (Nat.le_of_eq HM.out)]; exact HO6.out) (by rw [← HM.out]; exact HQ9.out) 3 _) HBQ.out (by rw [← HM.out]; exact HQ9.out) (met_turns HBW.out (turns_put HTG.out (.inl rfl) _)) (own_near HBW.out HA9.out)
      · have hk6 : ¬ (m : Int) = (k : Int) := by omega
        go_wp2_with fail
        refine bodyPost_end (results_none rfl _ _ _) rfl ?_
        exact met_done (Int.not_lt.2 hd) HL2.out HM.out (by omega) HX5.out HO5.out HBQ.out (by rw [← HM.out]; exact HQ9.out) (met_turns HBW.out HTF.out) (own_near HBW.out HA9.out)
end Go.Proofs.Ytealiaafdkhonaa.Vp

namespace Go.Proofs.Ytealiaafdkhonaa.Vp
open Go.RowKit Go.Sort Go.Proofs.YtealiaafdkhonaaW.PrintWords Go.Proofs.YtealiaafdkhonaaW.PrintLast Go.Proofs.YtealiaafdkhonaaW.PrintMore
set_option linter.unusedVariables false
set_option linter.unusedSimpArgs false

/-- Rising, equal ones let in. -/
def Sorted (l : List (Int × Int)) : Prop := l.Pairwise (fun x y => hlt y x = false)
theorem hlt_irr (x : Int × Int) : hlt x x = false := by unfold hlt; simp
theorem hlt_asymm {x y : Int × Int} (h : hlt x y = true) : hlt y x = false := by unfold hlt at *; simp at *; omega
theorem hle_trans {x y z : Int × Int} (h1 : hlt y x = false) (h2 : hlt z y = false) : hlt z x = false := by unfold hlt at *; simp at *; omega
theorem hle_anti {x y : Int × Int} (h1 : hlt y x = false) (h2 : hlt x y = false) : x = y := by
  unfold hlt at *; simp at *; apply Prod.ext <;> omega
theorem hle_snd {x y : Int × Int} (h : hlt y x = false) : x.2 ≤ y.2 := by unfold hlt at h; simp at h; omega
theorem hlt_of_snd {x y : Int × Int} (h : x.2 < y.2) : hlt x y = true := by unfold hlt; simp; omega
theorem ins_nil (h : Int × Int) : ins [] h = [h] := rfl
theorem ins_cons (a h : Int × Int) (l : List (Int × Int)) : ins (a :: l) h = if hlt a h = true then a :: ins l h else h :: a :: l := by
  unfold ins
  by_cases e : hlt a h = true
  · simp [List.takeWhile_cons, List.dropWhile_cons, e]
  · simp [List.takeWhile_cons, List.dropWhile_cons, e]
theorem ins_perm (h : Int × Int) : ∀ l : List (Int × Int), (ins l h).Perm (h :: l)
  | [] => List.Perm.refl _
  | a :: l => by
    rw [ins_cons]
    split
    · exact ((ins_perm h l).cons a).trans (List.Perm.swap h a l)
    · exact List.Perm.refl _
theorem ins_sorted (h : Int × Int) : ∀ l : List (Int × Int), Sorted l → Sorted (ins l h)
  | [], _ => by simp [ins_nil, Sorted]
  | a :: l, hs => by
    rw [ins_cons]
    unfold Sorted at hs ⊢
    rw [List.pairwise_cons] at hs
    split
    · rename_i e
      rw [List.pairwise_cons]
      refine ⟨fun y hy => ?_, ins_sorted h l hs.2⟩
      rcases List.mem_cons.1 ((ins_perm h l).mem_iff.1 hy) with rfl | hy
      · exact hlt_asymm e
      · exact hs.1 y hy
    · rename_i e
      have e' : hlt a h = false := by simpa using e
      rw [List.pairwise_cons]
      refine ⟨fun y hy => ?_, List.pairwise_cons.2 hs⟩
      rcases List.mem_cons.1 hy with rfl | hy
      · exact e'
      · exact hle_trans e' (hs.1 y hy)
theorem sorted_eq : ∀ {a b : List (Int × Int)}, Sorted a → Sorted b → a.Perm b → a = b
  | [], b, _, _, hp => by rw [List.nil_perm.1 hp]
  | x :: a, [], _, _, hp => by have := hp.length_eq; simp at this
  | x :: a, y :: b, ha, hb, hp => by
    have ha' := List.pairwise_cons.1 ha
    have hb' := List.pairwise_cons.1 hb
    have e : x = y := by
      have hx : x ∈ y :: b := hp.mem_iff.1 (by simp)
      have hy : y ∈ x :: a := hp.mem_iff.2 (by simp)
      rcases List.mem_cons.1 hx with h | h
      · exact h
      · rcases List.mem_cons.1 hy with h' | h'
        · exact h'.symm
        · exact hle_anti (ha'.1 y h') (hb'.1 x h)
    subst e
    rw [sorted_eq ha'.2 hb'.2 (List.Perm.cons_inv hp)]
def isort (X : List (Int × Int)) : List (Int × Int) := X.foldr (fun h l => ins l h) []
theorem isort_sorted : ∀ X, Sorted (isort X)
  | [] => List.Pairwise.nil
  | h :: X => ins_sorted h _ (isort_sorted X)
theorem isort_perm : ∀ X, (isort X).Perm X
  | [] => List.Perm.refl _
  | h :: X => (ins_perm h _).trans ((isort_perm X).cons h)
theorem isort_of_perm {X Y : List (Int × Int)} (h : X.Perm Y) : isort X = isort Y := sorted_eq (isort_sorted X) (isort_sorted Y) ((isort_perm X).trans (h.trans (isort_perm Y).symm))
theorem isort_snoc (X : List (Int × Int)) (h : Int × Int) : isort (X ++ [h]) = ins (isort X) h :=
  sorted_eq (isort_sorted _) (ins_sorted _ _ (isort_sorted X)) ((isort_perm _).trans ((List.perm_append_comm).trans (((isort_perm X).symm.cons h).trans (ins_perm h _).symm)))

theorem ins_take (h : Int × Int) : ∀ (l : List (Int × Int)) (k : Nat), (ins (l.take k) h).take k = (ins l h).take k
  | l, 0 => by simp
  | [], k + 1 => by simp
  | a :: l, k + 1 => by
    rw [List.take_succ_cons, ins_cons, ins_cons]
    split
    · rw [List.take_succ_cons, List.take_succ_cons, ins_take h l k]
    · rw [List.take_succ_cons, List.take_succ_cons]
      congr 1
      rw [← List.take_succ_cons, List.take_take]
      congr 1
      omega
theorem ins_far (h : Int × Int) : ∀ (l : List (Int × Int)) (k : Nat), k ≤ l.length → (∀ j (hj : j < l.length), j < k → hlt l[j] h = true) → (ins l h).take k = l.take k
  | l, 0, _, _ => by simp
  | [], k + 1, hk, _ => by simp at hk
  | a :: l, k + 1, hk, hj => by
    have h0 := hj 0 (by simp) (by omega)
    simp at h0
    rw [ins_cons, if_pos h0, List.take_succ_cons, List.take_succ_cons, ins_far h l k (by simpa using hk) (fun j hjl hjk => by have := hj (j + 1) (by simpa using hjl) (by omega); simpa using this)]
/-- The first k of those within a limit. -/
def best (k : Nat) (lim0 : Int) (X : List (Int × Int)) : List (Int × Int) := (isort (X.filter fun x => decide (x.2 ≤ lim0))).take k
structure Rep (k : Nat) (lim0 : Int) (X l : List (Int × Int)) (lim : Int) : Prop where
  list : l = best k lim0 X
  n : lim = if l.length = k then (l.getD (k - 1) (0, 0)).2 else lim0
theorem Rep.perm {k : Nat} {lim0 : Int} {X Y l : List (Int × Int)} {lim : Int} (h : Rep k lim0 X l lim) (hp : X.Perm Y) : Rep k lim0 Y l lim :=
  ⟨by rw [h.list]; unfold best; rw [isort_of_perm (hp.filter _)], h.n⟩
theorem Rep.nil {k : Nat} (lim0 : Int) (hk : 1 ≤ k) : Rep k lim0 [] [] lim0 := ⟨by simp [best, isort], by rw [if_neg (by simp; omega)]⟩
theorem Rep.sorted {k : Nat} {lim0 : Int} {X l : List (Int × Int)} {lim : Int} (h : Rep k lim0 X l lim) : Sorted l := by
  rw [h.list]; exact (isort_sorted _).sublist (List.take_sublist _ _)
theorem Rep.len {k : Nat} {lim0 : Int} {X l : List (Int × Int)} {lim : Int} (h : Rep k lim0 X l lim) : l.length ≤ k := by rw [h.list]; unfold best; rw [List.length_take]; omega
theorem Rep.lim_le {k : Nat} {lim0 : Int} {X l : List (Int × Int)} {lim : Int} (hk : 1 ≤ k) (h : Rep k lim0 X l lim) : lim ≤ lim0 := by
  rw [h.n]
  split
  · rename_i e
    have hm : l.getD (k - 1) (0, 0) ∈ l := by
      rw [List.getD_eq_getElem?_getD, List.getElem?_eq_getElem (by omega)]
      exact List.getElem_mem _
    rw [h.list] at hm
    have := (isort_perm _).mem_iff.1 (List.mem_of_mem_take hm)
    rw [List.mem_filter] at this
    rw [← h.list] at this
    simpa using this.2
  · exact Int.le_refl _
theorem Rep.meet {k : Nat} {lim0 : Int} {X l : List (Int × Int)} {lim : Int} (hk : 1 ≤ k) (h : Rep k lim0 X l lim) (x : Int × Int) : Rep k lim0 (X ++ [x]) (meetL k l lim x) (meetN k l lim x) := by
  obtain ⟨F, hF⟩ : ∃ F, X.filter (fun x => decide (x.2 ≤ lim0)) = F := ⟨_, rfl⟩
  have hl : l = (isort F).take k := by rw [h.list]; unfold best; rw [hF]
  by_cases hd : lim < x.2
  · have e1 : meetL k l lim x = l := if_pos hd
    have e2 : meetN k l lim x = lim := if_pos hd
    rw [e1, e2]
    refine ⟨?_, h.n⟩
    unfold best
    rw [List.filter_append, hF, hl]
    by_cases hx : x.2 ≤ lim0
    · rw [show [x].filter (fun x => decide (x.2 ≤ lim0)) = [x] by simp [hx], isort_snoc]
      have hlk : l.length = k := by
        have hn := h.n
        by_cases e : l.length = k
        · exact e
        · rw [if_neg e] at hn; omega
      have hn := h.n
      rw [if_pos hlk] at hn
      have hlen : k ≤ (isort F).length := by rw [hl, List.length_take] at hlk; omega
      have hk9 : k - 1 < (isort F).length := by omega
      refine (ins_far x (isort F) k hlen (fun j hj hjk => hlt_of_snd ?_)).symm
      have hg : l.getD (k - 1) (0, 0) = (isort F)[k - 1]'hk9 := by
        rw [hl, List.getD_eq_getElem?_getD, List.getElem?_take, if_pos (by omega), List.getElem?_eq_getElem hk9]; rfl
      rw [hg] at hn
      have : (isort F)[j].2 ≤ ((isort F)[k - 1]'hk9).2 := by
        rcases Nat.lt_or_eq_of_le (show j ≤ k - 1 by omega) with h3 | h3
        · exact hle_snd (List.pairwise_iff_getElem.1 (isort_sorted F) j (k - 1) hj (by omega) h3)
        · subst h3; exact Int.le_refl _
      omega
    · rw [show [x].filter (fun x => decide (x.2 ≤ lim0)) = [] by simp [hx], List.append_nil]
  · have e1 : meetL k l lim x = (ins l x).take k := if_neg hd
    have hx : x.2 ≤ lim0 := by have := h.lim_le hk; omega
    have hb : best k lim0 (X ++ [x]) = (ins l x).take k := by
      unfold best
      rw [List.filter_append, hF, show [x].filter (fun x => decide (x.2 ≤ lim0)) = [x] by simp [hx], isort_snoc, hl, ins_take]
    refine ⟨by rw [e1, hb], ?_⟩
    unfold meetN
    rw [if_neg hd]
    split
    · rfl
    · rename_i e
      have hn := h.n
      have hne : l.length ≠ k := by
        intro e'
        apply e
        rw [e1, List.length_take, ins_len]; omega
      rwa [if_neg hne] at hn
theorem meetL_sorted {k : Nat} {l : List (Int × Int)} {lim : Int} (h : Sorted l) (x : Int × Int) : Sorted (meetL k l lim x) := by
  unfold meetL
  split
  · exact h
  · exact (ins_sorted x l h).sublist (List.take_sublist _ _)

theorem Turns.rfl_ {F : Nat → Prop} (W : World) : Turns F W W := ⟨rfl, rfl, rfl, Nat.le_refl _, fun _ _ _ => rfl⟩
theorem Turns.trans_ {F : Nat → Prop} {a b c : World} (h : Turns F a b) (k : Turns F b c) : Turns F a c :=
  ⟨k.os.trans h.os, k.tape.trans h.tape, k.output.trans h.output, Nat.le_trans h.size k.size, fun j hj hn => (k.block j (Nat.lt_of_lt_of_le hj h.size) hn).trans (h.block j hj hn)⟩
theorem Turns.wide {F G : Nat → Prop} {a b : World} (h : Turns F a b) (hi : ∀ j, F j → G j) : Turns G a b := ⟨h.os, h.tape, h.output, h.size, fun j hj hn => h.block j hj (fun e => hn (hi j e))⟩
theorem Turns.drew {F : Nat → Prop} {a b : World} (h : Turns F a b) : Turns F a b.drew := ⟨h.os, h.tape, h.output, h.size, h.block⟩
theorem Turns.drewN {F : Nat → Prop} {a b : World} (h : Turns F a b) (n : Nat) : Turns F a (b.drewN n) := ⟨h.os, h.tape, h.output, h.size, h.block⟩
theorem Turns.below {F : Nat → Prop} {B : Nat} {a b c : World} (h : Turns F a b) (k : Below B b c) (hB : ∀ j, B ≤ j → j < a.heap.size → F j) : Turns F a c :=
  ⟨k.os.trans h.os, k.tape.trans h.tape, k.output.trans h.output, Nat.le_trans h.size k.size, fun j hj hn => (k.block j (Nat.lt_of_not_le (fun e => hn (hB j e hj)))).trans (h.block j hj hn)⟩
theorem Turns.of_below {F : Nat → Prop} {a b : World} (k : Below a.heap.size a b) : Turns F a b := (Turns.rfl_ a).below k (fun j h1 h2 => absurd h1 (by omega))
theorem Turns.keep {F : Nat → Prop} {a b : World} {g : Nat} {o : Obj} (h : Turns F a b) (hg : a.heap[g]? = some o) (hn : ¬ F g) : b.heap[g]? = some o := (h.block g (blk_lt hg) hn).trans hg

theorem meets_calls (W : World) (B q : Nat) (t : Value) (V : Option Addr) (vn vc k : Nat) (lim : Int) (A : Option Addr) (c : Nat) (l : List (Int × Int)) (hs : SearchAt W B q t V vn vc k lim A c l) (hst : Sorted l) (hB : B ≤ W.heap.size) (hk1 : 1 ≤ k) (hk2 : k ≤ 64) (id d : Int) :
    Calls Try.prog 34 #[.pointer (some ⟨q, 0, none⟩), .int .i64 id, .int .i64 d] W (MetPost W B q t V vn vc k A lim l (id, d)) := by
  by_cases hd : lim < d
  · refine (meets_far W B q t V vn vc k lim A c l hs id d hd).mono ?_
    rintro e w' ⟨rfl, rfl⟩
    refine ⟨rfl, ?_⟩
    rw [show meetN k l lim (id, d) = lim from if_pos hd, show meetL k l lim (id, d) = l from if_pos hd]
    exact ⟨⟨A, c, hs, fun j h => .inl h⟩, Turns.rfl_ _⟩
  · exact meets_near W B q t V vn vc k lim A c l hs hst hB hk1 hk2 id d (by omega)
end Go.Proofs.Ytealiaafdkhonaa.Vp
