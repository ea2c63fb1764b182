/- A search meets a point; what a search knows behind many points, in plain lists. -/
import Derived.Test.YtealiaafdkhonaaMn
namespace Go.Proofs.Ytealiaafdkhonaa.Vp
open Go.RowKit Go.Sort Go.Proofs.YtealiaafdkhonaaW.PrintWords Go.Proofs.YtealiaafdkhonaaW.PrintLast Go.Proofs.YtealiaafdkhonaaW.PrintMore
set_option linter.unusedVariables false
set_option linter.unusedSimpArgs false

/-- Rising, equal ones let in. -/
def Sorted (l : List (Int × Int)) : Prop := l.Pairwise (fun x y => hlt y x = false)
theorem hlt_irr (x : Int × Int) : hlt x x = false := by unfold hlt; simp
theorem hlt_asymm {x y : Int × Int} (h : hlt x y = true) : hlt y x = false := by unfold hlt at *; simp at *; omega
theorem hle_trans {x y z : Int × Int} (h1 : hlt y x = false) (h2 : hlt z y = false) : hlt z x = false := by unfold hlt at *; simp at *; omega
theorem hle_anti {x y : Int × Int} (h1 : hlt y x = false) (h2 : hlt x y = false) : x = y := by
  unfold hlt at *; simp at *; apply Prod.ext <;> omega
theorem hle_snd {x y : Int × Int} (h : hlt y x = false) : x.2 ≤ y.2 := by unfold hlt at h; simp at h; omega
theorem hlt_of_snd {x y : Int × Int} (h : x.2 < y.2) : hlt x y = true := by unfold hlt; simp; omega
theorem ins_nil (h : Int × Int) : ins [] h = [h] := rfl
theorem ins_cons (a h : Int × Int) (l : List (Int × Int)) : ins (a :: l) h = if hlt a h = true then a :: ins l h else h :: a :: l := by
  unfold ins
  by_cases e : hlt a h = true
  · simp [List.takeWhile_cons, List.dropWhile_cons, e]
  · simp [List.takeWhile_cons, List.dropWhile_cons, e]
theorem ins_perm (h : Int × Int) : ∀ l : List (Int × Int), (ins l h).Perm (h :: l)
  | [] => List.Perm.refl _
  | a :: l => by
    rw [ins_cons]
    split
    · exact ((ins_perm h l).cons a).trans (List.Perm.swap h a l)
    · exact List.Perm.refl _
theorem ins_sorted (h : Int × Int) : ∀ l : List (Int × Int), Sorted l → Sorted (ins l h)
  | [], _ => by simp [ins_nil, Sorted]
  | a :: l, hs => by
    rw [ins_cons]
    unfold Sorted at hs ⊢
    rw [List.pairwise_cons] at hs
    split
    · rename_i e
      rw [List.pairwise_cons]
      refine ⟨fun y hy => ?_, ins_sorted h l hs.2⟩
      rcases List.mem_cons.1 ((ins_perm h l).mem_iff.1 hy) with rfl | hy
      · exact hlt_asymm e
      · exact hs.1 y hy
    · rename_i e
      have e' : hlt a h = false := by simpa using e
      rw [List.pairwise_cons]
      refine ⟨fun y hy => ?_, List.pairwise_cons.2 hs⟩
      rcases List.mem_cons.1 hy with rfl | hy
      · exact e'
      · exact hle_trans e' (hs.1 y hy)
theorem sorted_eq : ∀ {a b : List (Int × Int)}, Sorted a → Sorted b → a.Perm b → a = b
  | [], b, _, _, hp => by rw [List.nil_perm.1 hp]
  | x :: a, [], _, _, hp => by have := hp.length_eq; simp at this
  | x :: a, y :: b, ha, hb, hp => by
    have ha' := List.pairwise_cons.1 ha
    have hb' := List.pairwise_cons.1 hb
    have e : x = y := by
      have hx : x ∈ y :: b := hp.mem_iff.1 (by simp)
      have hy : y ∈ x :: a := hp.mem_iff.2 (by simp)
      rcases List.mem_cons.1 hx with h | h
      · exact h
      · rcases List.mem_cons.1 hy with h' | h'
        · exact h'.symm
        · exact hle_anti (ha'.1 y h') (hb'.1 x h)
    subst e
    rw [sorted_eq ha'.2 hb'.2 (List.Perm.cons_inv hp)]
def isort (X : List (Int × Int)) : List (Int × Int) := X.foldr (fun h l => ins l h) []
theorem isort_sorted : ∀ X, Sorted (isort X)
  | [] => List.Pairwise.nil
  | h :: X => ins_sorted h _ (isort_sorted X)
theorem isort_perm : ∀ X, (isort X).Perm X
  | [] => List.Perm.refl _
  | h :: X => (ins_perm h _).trans ((isort_perm X).cons h)
theorem isort_of_perm {X Y : List (Int × Int)} (h : X.Perm Y) : isort X = isort Y := sorted_eq (isort_sorted X) (isort_sorted Y) ((isort_perm X).trans (h.trans (isort_perm Y).symm))
theorem isort_snoc (X : List (Int × Int)) (h : Int × Int) : isort (X ++ [h]) = ins (isort X) h :=
  sorted_eq (isort_sorted _) (ins_sorted _ _ (isort_sorted X)) ((isort_perm _).trans ((List.perm_append_comm).trans (((isort_perm X).symm.cons h).trans (ins_perm h _).symm)))

theorem ins_take (h : Int × Int) : ∀ (l : List (Int × Int)) (k : Nat), (ins (l.take k) h).take k = (ins l h).take k
  | l, 0 => by simp
  | [], k + 1 => by simp
  | a :: l, k + 1 => by
    rw [List.take_succ_cons, ins_cons, ins_cons]
    split
    · rw [List.take_succ_cons, List.take_succ_cons, ins_take h l k]
    · rw [List.take_succ_cons, List.take_succ_cons]
      congr 1
      rw [← List.take_succ_cons, List.take_take]
      congr 1
      omega
theorem ins_far (h : Int × Int) : ∀ (l : List (Int × Int)) (k : Nat), k ≤ l.length → (∀ j (hj : j < l.length), j < k → hlt l[j] h = true) → (ins l h).take k = l.take k
  | l, 0, _, _ => by simp
  | [], k + 1, hk, _ => by simp at hk
  | a :: l, k + 1, hk, hj => by
    have h0 := hj 0 (by simp) (by omega)
    simp at h0
    rw [ins_cons, if_pos h0, List.take_succ_cons, List.take_succ_cons, ins_far h l k (by simpa using hk) (fun j hjl hjk => by have := hj (j + 1) (by simpa using hjl) (by omega); simpa using this)]
/-- The first k of those within a limit. -/
def best (k : Nat) (lim0 : Int) (X : List (Int × Int)) : List (Int × Int) := (isort (X.filter fun x => decide (x.2 ≤ lim0))).take k
structure Rep (k : Nat) (lim0 : Int) (X l : List (Int × Int)) (lim : Int) : Prop where
  list : l = best k lim0 X
  n : lim = if l.length = k then (l.getD (k - 1) (0, 0)).2 else lim0
theorem Rep.perm {k : Nat} {lim0 : Int} {X Y l : List (Int × Int)} {lim : Int} (h : Rep k lim0 X l lim) (hp : X.Perm Y) : Rep k lim0 Y l lim :=
  ⟨by rw [h.list]; unfold best; rw [isort_of_perm (hp.filter _)], h.n⟩
theorem Rep.nil {k : Nat} (lim0 : Int) (hk : 1 ≤ k) : Rep k lim0 [] [] lim0 := ⟨by simp [best, isort], by rw [if_neg (by simp; omega)]⟩
theorem Rep.sorted {k : Nat} {lim0 : Int} {X l : List (Int × Int)} {lim : Int} (h : Rep k lim0 X l lim) : Sorted l := by
  rw [h.list]; exact (isort_sorted _).sublist (List.take_sublist _ _)
theorem Rep.len {k : Nat} {lim0 : Int} {X l : List (Int × Int)} {lim : Int} (h : Rep k lim0 X l lim) : l.length ≤ k := by rw [h.list]; unfold best; rw [List.length_take]; omega
theorem Rep.lim_le {k : Nat} {lim0 : Int} {X l : List (Int × Int)} {lim : Int} (hk : 1 ≤ k) (h : Rep k lim0 X l lim) : lim ≤ lim0 := by
  rw [h.n]
  split
  · rename_i e
    have hm : l.getD (k - 1) (0, 0) ∈ l := by
      rw [List.getD_eq_getElem?_getD, List.getElem?_eq_getElem (by omega)]
      exact List.getElem_mem _
    rw [h.list] at hm
    have := (isort_perm _).mem_iff.1 (List.mem_of_mem_take hm)
    rw [List.mem_filter] at this
    rw [← h.list] at this
    simpa using this.2
  · exact Int.le_refl _
theorem Rep.meet {k : Nat} {lim0 : Int} {X l : List (Int × Int)} {lim : Int} (hk : 1 ≤ k) (h : Rep k lim0 X l lim) (x : Int × Int) : Rep k lim0 (X ++ [x]) (meetL k l lim x) (meetN k l lim x) := by
  obtain ⟨F, hF⟩ : ∃ F, X.filter (fun x => decide (x.2 ≤ lim0)) = F := ⟨_, rfl⟩
  have hl : l = (isort F).take k := by rw [h.list]; unfold best; rw [hF]
  by_cases hd : lim < x.2
  · have e1 : meetL k l lim x = l := if_pos hd
    have e2 : meetN k l lim x = lim := if_pos hd
    rw [e1, e2]
    refine ⟨?_, h.n⟩
    unfold best
    rw [List.filter_append, hF, hl]
    by_cases hx : x.2 ≤ lim0
    · rw [show [x].filter (fun x => decide (x.2 ≤ lim0)) = [x] by simp [hx], isort_snoc]
      have hlk : l.length = k := by
        have hn := h.n
        by_cases e : l.length = k
        · exact e
        · rw [if_neg e] at hn; omega
      have hn := h.n
      rw [if_pos hlk] at hn
      have hlen : k ≤ (isort F).length := by rw [hl, List.length_take] at hlk; omega
      have hk9 : k - 1 < (isort F).length := by omega
      refine (ins_far x (isort F) k hlen (fun j hj hjk => hlt_of_snd ?_)).symm
      have hg : l.getD (k - 1) (0, 0) = (isort F)[k - 1]'hk9 := by
        rw [hl, List.getD_eq_getElem?_getD, List.getElem?_take, if_pos (by omega), List.getElem?_eq_getElem hk9]; rfl
      rw [hg] at hn
      have : (isort F)[j].2 ≤ ((isort F)[k - 1]'hk9).2 := by
        rcases Nat.lt_or_eq_of_le (show j ≤ k - 1 by omega) with h3 | h3
        · exact hle_snd (List.pairwise_iff_getElem.1 (isort_sorted F) j (k - 1) hj (by omega) h3)
        · subst h3; exact Int.le_refl _
      omega
    · rw [show [x].filter (fun x => decide (x.2 ≤ lim0)) = [] by simp [hx], List.append_nil]
  · have e1 : meetL k l lim x = (ins l x).take k := if_neg hd
    have hx : x.2 ≤ lim0 := by have := h.lim_le hk; omega
    have hb : best k lim0 (X ++ [x]) = (ins l x).take k := by
      unfold best
      rw [List.filter_append, hF, show [x].filter (fun x => decide (x.2 ≤ lim0)) = [x] by simp [hx], isort_snoc, hl, ins_take]
    refine ⟨by rw [e1, hb], ?_⟩
    unfold meetN
    rw [if_neg hd]
    split
    · rfl
    · rename_i e
      have hn := h.n
      have hne : l.length ≠ k := by
        intro e'
        apply e
        rw [e1, List.length_take, ins_len]; omega
      rwa [if_neg hne] at hn
theorem meetL_sorted {k : Nat} {l : List (Int × Int)} {lim : Int} (h : Sorted l) (x : Int × Int) : Sorted (meetL k l lim x) := by
  unfold meetL
  split
  · exact h
  · exact (ins_sorted x l h).sublist (List.take_sublist _ _)

theorem Turns.rfl_ {F : Nat → Prop} (W : World) : Turns F W W := ⟨rfl, rfl, rfl, Nat.le_refl _, fun _ _ _ => rfl⟩
theorem Turns.trans_ {F : Nat → Prop} {a b c : World} (h : Turns F a b) (k : Turns F b c) : Turns F a c :=
  ⟨k.os.trans h.os, k.tape.trans h.tape, k.output.trans h.output, Nat.le_trans h.size k.size, fun j hj hn => (k.block j (Nat.lt_of_lt_of_le hj h.size) hn).trans (h.block j hj hn)⟩
theorem Turns.wide {F G : Nat → Prop} {a b : World} (h : Turns F a b) (hi : ∀ j, F j → G j) : Turns G a b := ⟨h.os, h.tape, h.output, h.size, fun j hj hn => h.block j hj (fun e => hn (hi j e))⟩
theorem Turns.drew {F : Nat → Prop} {a b : World} (h : Turns F a b) : Turns F a b.drew := ⟨h.os, h.tape, h.output, h.size, h.block⟩
theorem Turns.drewN {F : Nat → Prop} {a b : World} (h : Turns F a b) (n : Nat) : Turns F a (b.drewN n) := ⟨h.os, h.tape, h.output, h.size, h.block⟩
theorem Turns.below {F : Nat → Prop} {B : Nat} {a b c : World} (h : Turns F a b) (k : Below B b c) (hB : ∀ j, B ≤ j → j < a.heap.size → F j) : Turns F a c :=
  ⟨k.os.trans h.os, k.tape.trans h.tape, k.output.trans h.output, Nat.le_trans h.size k.size, fun j hj hn => (k.block j (Nat.lt_of_not_le (fun e => hn (hB j e hj)))).trans (h.block j hj hn)⟩
theorem Turns.of_below {F : Nat → Prop} {a b : World} (k : Below a.heap.size a b) : Turns F a b := (Turns.rfl_ a).below k (fun j h1 h2 => absurd h1 (by omega))
theorem Turns.keep {F : Nat → Prop} {a b : World} {g : Nat} {o : Obj} (h : Turns F a b) (hg : a.heap[g]? = some o) (hn : ¬ F g) : b.heap[g]? = some o := (h.block g (blk_lt hg) hn).trans hg

theorem meets_calls (W : World) (B q : Nat) (t : Value) (V : Option Addr) (vn vc k : Nat) (lim : Int) (A : Option Addr) (c : Nat) (l : List (Int × Int)) (hs : SearchAt W B q t V vn vc k lim A c l) (hst : Sorted l) (hB : B ≤ W.heap.size) (hk1 : 1 ≤ k) (hk2 : k ≤ 64) (id d : Int) :
    Calls Try.prog 34 #[.pointer (some ⟨q, 0, none⟩), .int .i64 id, .int .i64 d] W (MetPost W B q t V vn vc k A lim l (id, d)) := by
  by_cases hd : lim < d
  · refine (meets_far W B q t V vn vc k lim A c l hs id d hd).mono ?_
    rintro e w' ⟨rfl, rfl⟩
    refine ⟨rfl, ?_⟩
    rw [show meetN k l lim (id, d) = lim from if_pos hd, show meetL k l lim (id, d) = l from if_pos hd]
    exact ⟨⟨A, c, hs, fun j h => .inl h⟩, Turns.rfl_ _⟩
  · exact meets_near W B q t V vn vc k lim A c l hs hst hB hk1 hk2 id d (by omega)
end Go.Proofs.Ytealiaafdkhonaa.Vp
