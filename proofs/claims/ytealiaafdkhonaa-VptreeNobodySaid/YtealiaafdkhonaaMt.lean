/- A search meets a point. -/
import Derived.Test.YtealiaafdkhonaaIn
namespace Go.Proofs.Ytealiaafdkhonaa.Vp
open Go.RowKit Go.Sort Go.Proofs.YtealiaafdkhonaaW.PrintWords Go.Proofs.YtealiaafdkhonaaW.PrintLast Go.Proofs.YtealiaafdkhonaaW.PrintMore
set_option linter.unusedVariables false
set_option linter.unusedSimpArgs false

/-- A hit goes in where it stands. -/
def ins (l : List (Int × Int)) (h : Int × Int) : List (Int × Int) := l.takeWhile (fun x => hlt x h) ++ h :: l.dropWhile (fun x => hlt x h)
theorem take_while_at {α : Type} {p : α → Bool} : ∀ (l : List α) (i : Nat), i ≤ l.length → (∀ j (hj : j < l.length), j < i → p l[j] = true) → (∀ j (hj : j < l.length), i ≤ j → p l[j] = false) → l.takeWhile p = l.take i ∧ l.dropWhile p = l.drop i
  | [], i, h, _, _ => by simp at h; subst h; simp
  | a :: l, 0, h, _, h2 => by
    have := h2 0 (by simp) (Nat.le_refl _)
    simp at this
    simp [List.takeWhile_cons, List.dropWhile_cons, this]
  | a :: l, i + 1, h, h1, h2 => by
    have ha := h1 0 (by simp) (by omega)
    simp at ha
    obtain ⟨e1, e2⟩ := take_while_at l i (by simpa using h) (fun j hj hji => by have := h1 (j + 1) (by simpa using hj) (by omega); simpa using this) (fun j hj hij => by have := h2 (j + 1) (by simpa using hj) (by omega); simpa using this)
    simp [List.takeWhile_cons, List.dropWhile_cons, ha, e1, e2]
theorem ins_at (l : List (Int × Int)) (h : Int × Int) (i : Nat) (hi : i ≤ l.length) (h1 : ∀ j (hj : j < l.length), j < i → hlt l[j] h = true) (h2 : ∀ j (hj : j < l.length), i ≤ j → hlt l[j] h = false) : l.take i ++ h :: l.drop i = ins l h := by
  obtain ⟨e1, e2⟩ := take_while_at (p := fun x => hlt x h) l i hi h1 h2
  unfold ins; rw [e1, e2]
theorem ins_len (l : List (Int × Int)) (h : Int × Int) : (ins l h).length = l.length + 1 := by
  have := congrArg List.length (List.takeWhile_append_dropWhile (p := fun x => hlt x h) (l := l))
  rw [List.length_append] at this
  unfold ins
  rw [List.length_append, List.length_cons]
  omega
/-- What is known behind a point: the first k, and how far the farthest may be. -/
def meetL (k : Nat) (l : List (Int × Int)) (lim : Int) (h : Int × Int) : List (Int × Int) := if lim < h.2 then l else (ins l h).take k
def meetN (k : Nat) (l : List (Int × Int)) (lim : Int) (h : Int × Int) : Int := if lim < h.2 then lim else if (meetL k l lim h).length = k then ((meetL k l lim h).getD (k - 1) (0, 0)).2 else lim

/-- A search in memory. -/
structure SearchAt (W : World) (B q : Nat) (t : Value) (V : Option Addr) (vn vc : Nat) (k : Nat) (lim : Int) (A : Option Addr) (c : Nat) (l : List (Int × Int)) : Prop where
  box : W.heap[q]? = some (.cells #[t, .slice V vn vc, .int .i64 k, .int .i64 lim, .slice A l.length c] 84 (0, 0))
  own : W.ownsRow B 49 2 (.slice A l.length c) l.length (prs l)
  bq : q < B
  apart : (Value.slice A l.length c).ownBlock ≠ some q
  len : l.length ≤ k
theorem SearchAt.lt {W : World} {B q : Nat} {t : Value} {V : Option Addr} {vn vc k : Nat} {lim : Int} {A : Option Addr} {c : Nat} {l : List (Int × Int)} (h : SearchAt W B q t V vn vc k lim A c l) : q < W.heap.size := blk_lt h.box
theorem SearchAt.below {W W' : World} {B q : Nat} {t : Value} {V : Option Addr} {vn vc k : Nat} {lim : Int} {A : Option Addr} {c : Nat} {l : List (Int × Int)} (h : SearchAt W B q t V vn vc k lim A c l) (hb : Below W.heap.size W W') : SearchAt W' B q t V vn vc k lim A c l :=
  ⟨blk_below h.box hb, own_move h.own (fun j hj => hb.block j (own_lt h.own j hj)), h.bq, h.apart, h.len⟩

theorem meets_far (W : World) (B q : Nat) (t : Value) (V : Option Addr) (vn vc k : Nat) (lim : Int) (A : Option Addr) (c : Nat) (l : List (Int × Int)) (hs : SearchAt W B q t V vn vc k lim A c l) (id d : Int) (hd : lim < d) :
    Calls Try.prog 34 #[.pointer (some ⟨q, 0, none⟩), .int .i64 id, .int .i64 d] W fun e w' => e = .returned (.tuple #[]) ∧ W = w' := by
  have x3 : W.cell? ⟨q, 3, none⟩ = some (.int .i64 lim) := (blk_cell hs.box 3).trans rfl
  clear hs
  go_enter Try.func34, Try.ntmps34
  go_wp2
  (try simp only [Exit.inBlock, Exit.then])
  refine bodyPost_ret (results_none rfl _ _ _) rfl ?_
  exact ⟨rfl, rfl⟩
end Go.Proofs.Ytealiaafdkhonaa.Vp
