/- The reference's wheel, in plain lists: what its functions answer, and that they go along with a wheel's ticks. -/
import Derived.Test.YtncmkcdnlcmiaaaSk
import Derived.Test.YtncmkcdnlcmiaaaSl
import Derived.Test.YtncmkcdnlcmiaaaPWheelPlaysx11
import Derived.Test.YtncmkcdnlcmiaaaWhF
namespace Go.Proofs.Ytncmkcdnlcmiaaa.Wh
open Go.RowKit Mb Go.Proofs.YtncmkcdnlcmiaaaW.PrintWords Go.Proofs.YtncmkcdnlcmiaaaW.PrintLast Go.Proofs.YtncmkcdnlcmiaaaW.PrintMore
set_option linter.unusedVariables false
set_option linter.unusedSimpArgs false

def ids (L : List (Int × Int)) : List Int := L.map (·.1)
def lefts (L : List (Int × Int)) : List Int := L.map (·.2)
theorem ids_len (L : List (Int × Int)) : (ids L).length = L.length := by simp [ids]
theorem lefts_len (L : List (Int × Int)) : (lefts L).length = L.length := by simp [lefts]
theorem rdn (xs : List Int) (k : Nat) (h : k < xs.length) : rd xs (k : Int) = xs[k] := by unfold rd; rw [Int.toNat_natCast, List.getD_eq_getElem?_getD, List.getElem?_eq_getElem h]; rfl
theorem w_succ {n : Nat} (h : n ≤ 1000000) : wrap64 ((n : Int) + 1) = ((n + 1 : Nat) : Int) := by unfold wrap64; omega

/-- The first place whose number is not less. -/
def pl (xs : List Int) (x : Int) : Nat := (xs.takeWhile (fun y => decide (y < x))).length
theorem pl_le (xs : List Int) (x : Int) : pl xs x ≤ xs.length := (List.takeWhile_sublist _).length_le
theorem pl_nil (x : Int) : pl [] x = 0 := rfl
theorem pl_lt {y x : Int} {xs : List Int} (h : y < x) : pl (y :: xs) x = pl xs x + 1 := by unfold pl; rw [List.takeWhile_cons]; simp [h]
theorem pl_ge {y x : Int} {xs : List Int} (h : ¬ y < x) : pl (y :: xs) x = 0 := by unfold pl; rw [List.takeWhile_cons]; simp [h]

theorem place_l0 (xs ys : List Int) (x : Int) (hm : xs.length ≤ 1000000) (d : Nat) : ∀ (k n : Nat), n ≤ xs.length → xs.length - n = d → d < k →
    PWheelPlays.ploverref14_place.l0 k x (n : Int) xs ys = some (((n + pl (xs.drop n) x : Nat) : Int), decide (xs[n + pl (xs.drop n) x]? = some x)) := by
  induction d with
  | zero =>
    intro k n h1 h2 h3
    obtain ⟨k, rfl⟩ : ∃ m, k = m + 1 := ⟨k - 1, by omega⟩
    rw [PWheelPlays.ploverref14_place.l0, if_neg (by omega), List.drop_of_length_le (by omega), pl_nil, Nat.add_zero, List.getElem?_eq_none (by omega)]
    simp
  | succ d ih =>
    intro k n h1 h2 h3
    obtain ⟨k, rfl⟩ : ∃ m, k = m + 1 := ⟨k - 1, by omega⟩
    have hn : n < xs.length := by omega
    have hd : xs.drop n = xs[n] :: xs.drop (n + 1) := List.drop_eq_getElem_cons hn
    rw [PWheelPlays.ploverref14_place.l0, if_pos (by omega), if_pos (by omega), rdn xs n hn]
    by_cases hlt : xs[n] < x
    · rw [if_pos hlt, w_succ (by omega), ih k (n + 1) (by omega) (by omega) (by omega), hd, pl_lt hlt]
      rw [show n + 1 + pl (xs.drop (n + 1)) x = n + (pl (xs.drop (n + 1)) x + 1) by omega]
    · rw [if_neg hlt, hd, pl_ge hlt, Nat.add_zero, List.getElem?_eq_getElem hn]
      congr 2
      by_cases e : xs[n] = x <;> simp [e]
theorem place_f (xs ys : List Int) (x : Int) (hm : xs.length ≤ 1000000) (k : Nat) (hk : xs.length < k) : PWheelPlays.ploverref14_place.f k xs ys x = some ((pl xs x : Int), decide (xs[pl xs x]? = some x)) := by
  have := place_l0 xs ys x hm xs.length k 0 (by omega) (by omega) hk
  simp only [List.drop_zero, Nat.zero_add] at this
  unfold PWheelPlays.ploverref14_place.f
  exact this
theorem cut_f (xs more : List Int) (p m : Nat) (h : p + m ≤ xs.length) (hm : xs.length ≤ 1000000) (hmo : more.length ≤ 1000000) : PWheelPlays.ploverref14_cut.f xs (p : Int) (m : Int) more = some (xs.take p ++ more ++ xs.drop (p + m)) := by
  have hw : wrap64 ((p : Int) + (m : Int)) = ((p + m : Nat) : Int) := by unfold wrap64; omega
  unfold PWheelPlays.ploverref14_cut.f
  rw [if_pos (by omega), if_pos (by omega), Int.toNat_natCast, if_pos (by simp; omega), Option.bind_some, if_pos (by simp; omega), Option.bind_some, hw, if_pos (by omega), if_pos (by omega), Int.toNat_natCast, if_pos (by simp; omega)]
  rfl

structure Rel (L : List (Int × Int)) (D : Int → Option Int) (now : Int) : Prop where
  rising : L.Pairwise (fun p q => p.1 < q.1)
  mem : ∀ x t, (x, t) ∈ L ↔ D x = some (now + t)
  ok : ∀ q ∈ L, 1 ≤ q.2 ∧ q.2 ≤ 1048576

/-- Where a number stands among them, or would. -/
structure Parts (L : List (Int × Int)) (x : Int) (p : Nat) (there : Bool) (A B : List (Int × Int)) : Prop where
  left : L.take p = A
  right : L.drop (p + there.toNat) = B
  small : ∀ q ∈ A, q.1 < x
  great : ∀ q ∈ B, x < q.1
  here : there = true → ∃ t, L = A ++ (x, t) :: B ∧ (lefts L)[p]? = some t
  not_ : there = false → L = A ++ B
  fits : p + there.toNat ≤ L.length
  len : A.length = p
theorem ids_drop (L : List (Int × Int)) (n : Nat) : (ids L).drop n = ids (L.drop n) := by simp [ids, List.map_drop]
theorem parts (L : List (Int × Int)) (x : Int) (h : L.Pairwise (fun p q => p.1 < q.1)) : ∃ A B, Parts L x (pl (ids L) x) (decide ((ids L)[pl (ids L) x]? = some x)) A B := by
  induction L with
  | nil => exact ⟨[], [], ⟨rfl, rfl, by simp, by simp, by simp [ids], fun _ => rfl, by simp [ids, pl], rfl⟩⟩
  | cons q L ih =>
    obtain ⟨h1, h2⟩ := List.pairwise_cons.1 h
    by_cases hlt : q.1 < x
    · obtain ⟨A, B, a1, a2, a3, a4, a5, a6, a7, a8⟩ := ih h2
      have e : pl (ids (q :: L)) x = pl (ids L) x + 1 := by rw [show ids (q :: L) = q.1 :: ids L from rfl]; exact pl_lt hlt
      have e2 : (ids (q :: L))[pl (ids L) x + 1]? = (ids L)[pl (ids L) x]? := by rw [show ids (q :: L) = q.1 :: ids L from rfl]; simp
      rw [e, e2]
      refine ⟨q :: A, B, ⟨by simp [a1], by rw [show pl (ids L) x + 1 + (decide ((ids L)[pl (ids L) x]? = some x)).toNat = (pl (ids L) x + (decide ((ids L)[pl (ids L) x]? = some x)).toNat) + 1 by omega]; simpa using a2, ?_, a4, ?_, ?_, ?_, by simp [a8]⟩⟩
      · intro r hr
        rcases List.mem_cons.1 hr with hr | hr
        · rw [hr]; exact hlt
        · exact a3 r hr
      · intro ht
        obtain ⟨t, b1, b2⟩ := a5 ht
        refine ⟨t, by rw [b1]; rfl, ?_⟩
        rw [show lefts (q :: L) = q.2 :: lefts L from rfl]
        simpa using b2
      · intro hf
        have := a6 hf
        rw [this]; rfl
      · simp only [List.length_cons]; omega
    · have e : pl (ids (q :: L)) x = 0 := by rw [show ids (q :: L) = q.1 :: ids L from rfl]; exact pl_ge hlt
      rw [e]
      by_cases he : q.1 = x
      · have ed : decide ((ids (q :: L))[0]? = some x) = true := by simp [ids, he]
        rw [ed]
        refine ⟨[], L, ⟨rfl, rfl, by simp, fun r hr => by rw [← he]; exact h1 r hr, fun _ => ⟨q.2, by rw [← he]; rfl, rfl⟩, (fun h => by cases h), by simp, rfl⟩⟩
      · have ed : decide ((ids (q :: L))[0]? = some x) = false := by simp [ids, he]
        rw [ed]
        refine ⟨[], q :: L, ⟨rfl, rfl, by simp, fun r hr => ?_, (fun h => by cases h), fun _ => rfl, by simp, rfl⟩⟩
        rcases List.mem_cons.1 hr with hr | hr
        · rw [hr]; omega
        · have := h1 r hr; omega

theorem Parts.iff {L : List (Int × Int)} {D : Int → Option Int} {now x : Int} {p : Nat} {there : Bool} {A B : List (Int × Int)} (hR : Rel L D now) (h : Parts L x p there A B) : (D x).isSome = there := by
  cases ht : there with
  | true =>
    obtain ⟨t, h1, _⟩ := h.here ht
    have := (hR.mem x t).1 (by rw [h1]; simp)
    rw [this]; rfl
  | false =>
    have h1 := h.not_ ht
    cases hd : D x with
    | none => rfl
    | some t =>
      have := (hR.mem x (t - now)).2 (by rw [hd]; congr 1; omega)
      rw [h1] at this
      rcases List.mem_append.1 this with h2 | h2
      · have := h.small _ h2; simp at this
      · have := h.great _ h2; simp at this
theorem Parts.mem {L : List (Int × Int)} {x : Int} {p : Nat} {there : Bool} {A B : List (Int × Int)} (h : Parts L x p there A B) (q : Int × Int) (hq : q.1 ≠ x) : q ∈ A ++ B ↔ q ∈ L := by
  cases ht : there with
  | true =>
    obtain ⟨t, h1, _⟩ := h.here ht
    rw [h1]
    simp only [List.mem_append, List.mem_cons]
    constructor
    · rintro (h | h)
      · exact .inl h
      · exact .inr (.inr h)
    · rintro (h | h | h)
      · exact .inl h
      · rw [h] at hq; exact absurd rfl hq
      · exact .inr h
  | false => rw [h.not_ ht]
theorem Parts.pair {L : List (Int × Int)} {x : Int} {p : Nat} {there : Bool} {A B : List (Int × Int)} (h : Parts L x p there A B) (hr : L.Pairwise (fun p q => p.1 < q.1)) : (A ++ B).Pairwise (fun p q => p.1 < q.1) := by
  refine List.pairwise_append.2 ⟨?_, ?_, fun a ha b hb => by have := h.small a ha; have := h.great b hb; omega⟩
  · rw [← h.left]; exact hr.sublist (List.take_sublist _ _)
  · rw [← h.right]; exact hr.sublist (List.drop_sublist _ _)
theorem Rel.set {L : List (Int × Int)} {D : Int → Option Int} {now x t : Int} {p : Nat} {there : Bool} {A B : List (Int × Int)} (hR : Rel L D now) (h : Parts L x p there A B) (h1 : 1 ≤ t) (h2 : t ≤ 1048576) :
    Rel (A ++ (x, t) :: B) (upd D x (some (now + t))) now ∧ (A ++ (x, t) :: B).length = addN D x L.length := by
  have hp := h.pair hR.rising
  obtain ⟨p1, p2, p3⟩ := List.pairwise_append.1 hp
  refine ⟨⟨?_, ?_, ?_⟩, ?_⟩
  · refine List.pairwise_append.2 ⟨p1, List.pairwise_cons.2 ⟨fun b hb => h.great b hb, p2⟩, fun a ha b hb => ?_⟩
    rcases List.mem_cons.1 hb with e | hb
    · rw [e]; exact h.small a ha
    · exact p3 a ha b hb
  · intro y s
    unfold upd
    by_cases e : y = x
    · rw [if_pos e, e]
      simp only [List.mem_append, List.mem_cons, Prod.mk.injEq, true_and, Option.some.injEq]
      constructor
      · rintro (h3 | h3 | h3)
        · have := h.small _ h3; simp at this
        · rw [h3]
        · have := h.great _ h3; simp at this
      · intro h3; exact .inr (.inl (by omega))
    · rw [if_neg e, ← hR.mem y s, ← h.mem (y, s) e]
      simp only [List.mem_append, List.mem_cons, Prod.mk.injEq, e, false_and, false_or]
  · intro q hq
    rcases List.mem_append.1 hq with h3 | h3
    · exact hR.ok q (by rw [← h.left] at h3; exact List.mem_of_mem_take h3)
    · rcases List.mem_cons.1 h3 with h3 | h3
      · rw [h3]; exact ⟨h1, h2⟩
      · exact hR.ok q (by rw [← h.right] at h3; exact List.mem_of_mem_drop h3)
  · unfold addN
    rw [h.iff hR]
    cases ht : there with
    | true => obtain ⟨t', e, _⟩ := h.here ht; rw [e]; simp
    | false => rw [h.not_ ht]; simp; omega
theorem Rel.gone {L : List (Int × Int)} {D : Int → Option Int} {now x : Int} {p : Nat} {there : Bool} {A B : List (Int × Int)} (hR : Rel L D now) (h : Parts L x p there A B) :
    Rel (A ++ B) (upd D x none) now ∧ (A ++ B).length = delN D x L.length := by
  refine ⟨⟨h.pair hR.rising, ?_, ?_⟩, ?_⟩
  · intro y s
    unfold upd
    by_cases e : y = x
    · rw [if_pos e, e]
      simp only [List.mem_append, reduceCtorEq, iff_false, not_or]
      exact ⟨fun h3 => by have := h.small _ h3; simp at this, fun h3 => by have := h.great _ h3; simp at this⟩
    · rw [if_neg e, ← hR.mem y s, ← h.mem (y, s) e]
  · intro q hq
    rcases List.mem_append.1 hq with h3 | h3
    · exact hR.ok q (by rw [← h.left] at h3; exact List.mem_of_mem_take h3)
    · exact hR.ok q (by rw [← h.right] at h3; exact List.mem_of_mem_drop h3)
  · unfold delN
    rw [h.iff hR]
    cases ht : there with
    | true => obtain ⟨t', e, _⟩ := h.here ht; rw [e]; simp
    | false => rw [h.not_ ht]; simp

theorem cut_ids {L A B : List (Int × Int)} {x : Int} {p : Nat} {there : Bool} (h : Parts L x p there A B) (hm : L.length ≤ 1000000) (more : List (Int × Int)) (hmo : more.length ≤ 1) :
    PWheelPlays.ploverref14_cut.f (ids L) (p : Int) (there.toNat : Int) (ids more) = some (ids (A ++ more ++ B)) ∧ PWheelPlays.ploverref14_cut.f (lefts L) (p : Int) (there.toNat : Int) (lefts more) = some (lefts (A ++ more ++ B)) := by
  refine ⟨?_, ?_⟩
  · rw [cut_f _ _ _ _ (by rw [ids_len]; exact h.fits) (by rw [ids_len]; exact hm) (by rw [ids_len]; omega)]
    simp only [ids, ← List.map_take, ← List.map_drop, h.left, h.right, List.map_append]
  · rw [cut_f _ _ _ _ (by rw [lefts_len]; exact h.fits) (by rw [lefts_len]; exact hm) (by rw [lefts_len]; omega)]
    simp only [lefts, ← List.map_take, ← List.map_drop, h.left, h.right, List.map_append]

theorem set_f_bad (L : List (Int × Int)) (x t : Int) (k : Nat) (h : t < 1 ∨ 1048576 < t) : PWheelPlays.ploverref14_Set.f (k + 1) (ids L) (lefts L) x t = some (ids L, lefts L, 1) := by
  unfold PWheelPlays.ploverref14_Set.f
  split
  · rw [PWheelPlays.ploverref14_Set.j0, if_pos rfl]
  · rw [PWheelPlays.ploverref14_Set.j0, if_pos (by simp; omega)]
theorem set_f_ok {L : List (Int × Int)} {D : Int → Option Int} {now : Int} (hR : Rel L D now) (x t : Int) (h1 : 1 ≤ t) (h2 : t ≤ 1048576) (hm : L.length < 4096) :
    ∃ L', PWheelPlays.ploverref14_Set.f (L.length + 2) (ids L) (lefts L) x t = some (ids L', lefts L', 0) ∧ Rel L' (upd D x (some (now + t))) now ∧ L'.length = addN D x L.length := by
  obtain ⟨A, B, hP⟩ := parts L x hR.rising
  obtain ⟨r1, r2⟩ := hR.set hP h1 h2
  obtain ⟨c1, c2⟩ := cut_ids hP (by omega) [(x, t)] (by simp)
  refine ⟨_, ?_, r1, r2⟩
  rw [List.append_assoc] at c1 c2
  change PWheelPlays.ploverref14_cut.f (ids L) _ _ [x] = _ at c1
  change PWheelPlays.ploverref14_cut.f (lefts L) _ _ [t] = _ at c2
  unfold PWheelPlays.ploverref14_Set.f
  rw [if_neg (by omega), PWheelPlays.ploverref14_Set.j0, if_neg (by simp; omega), place_f _ _ _ (by rw [ids_len]; omega) _ (by rw [ids_len]; omega), Option.bind_some]
  generalize decide ((ids L)[pl (ids L) x]? = some x) = th at *
  cases th with
  | true =>
    change PWheelPlays.ploverref14_cut.f (ids L) _ 1 [x] = _ at c1
    change PWheelPlays.ploverref14_cut.f (lefts L) _ 1 [t] = _ at c2
    simp only [if_true]
    rw [c1, Option.bind_some, c2, Option.bind_some]
    rfl
  | false =>
    change PWheelPlays.ploverref14_cut.f (ids L) _ 0 [x] = _ at c1
    change PWheelPlays.ploverref14_cut.f (lefts L) _ 0 [t] = _ at c2
    simp only [Bool.false_eq_true, if_false]
    rw [if_neg (by rw [ids_len]; omega), c1, Option.bind_some, c2, Option.bind_some]
    rfl
theorem cancel_f {L : List (Int × Int)} {D : Int → Option Int} {now : Int} (hR : Rel L D now) (x : Int) (hm : L.length < 4096) :
    ∃ L', PWheelPlays.ploverref14_Cancel.f (L.length + 1) (ids L) (lefts L) x = some (ids L', lefts L', (D x).isSome) ∧ Rel L' (upd D x none) now ∧ L'.length = delN D x L.length := by
  obtain ⟨A, B, hP⟩ := parts L x hR.rising
  obtain ⟨r1, r2⟩ := hR.gone hP
  obtain ⟨c1, c2⟩ := cut_ids hP (by omega) [] (by simp)
  have hi := hP.iff hR
  refine ⟨_, ?_, r1, r2⟩
  rw [List.append_nil] at c1 c2
  change PWheelPlays.ploverref14_cut.f (ids L) _ _ [] = _ at c1
  change PWheelPlays.ploverref14_cut.f (lefts L) _ _ [] = _ at c2
  unfold PWheelPlays.ploverref14_Cancel.f
  rw [place_f _ _ _ (by rw [ids_len]; omega) _ (by rw [ids_len]; omega), Option.bind_some, hi]
  have hn := hP.not_
  generalize decide ((ids L)[pl (ids L) x]? = some x) = th at *
  cases th with
  | true =>
    change PWheelPlays.ploverref14_cut.f (ids L) _ 1 [] = _ at c1
    change PWheelPlays.ploverref14_cut.f (lefts L) _ 1 [] = _ at c2
    simp only [if_true]
    rw [c1, Option.bind_some, c2, Option.bind_some]
  | false =>
    simp only [Bool.false_eq_true, if_false]
    rw [← hn rfl]
theorem left_f {L : List (Int × Int)} {D : Int → Option Int} {now : Int} (hR : Rel L D now) (x : Int) (hm : L.length < 4096) :
    PWheelPlays.ploverref14_Left.f (L.length + 1) (ids L) (lefts L) x = some (match D x with | none => (0, 3) | some t => (t - now, 0)) := by
  obtain ⟨A, B, hP⟩ := parts L x hR.rising
  have hi := hP.iff hR
  have hf := hP.fits
  unfold PWheelPlays.ploverref14_Left.f
  rw [place_f _ _ _ (by rw [ids_len]; omega) _ (by rw [ids_len]; omega), Option.bind_some]
  have hh := hP.here
  generalize decide ((ids L)[pl (ids L) x]? = some x) = th at *
  cases th with
  | true =>
    obtain ⟨t, e1, e2⟩ := hh rfl
    have hd := (hR.mem x t).1 (by rw [e1]; simp)
    simp only [if_true]
    obtain ⟨hl, e3⟩ := List.getElem?_eq_some_iff.1 e2
    rw [if_pos (by omega), if_pos (by omega), rdn _ _ hl, e3, hd]
    simp
    omega
  | false =>
    simp only [Bool.false_eq_true, if_false]
    cases hd : D x with
    | none => rfl
    | some t => rw [hd] at hi; cases hi

def stay (L : List (Int × Int)) : List (Int × Int) := (L.filter (fun q => decide (q.2 ≠ 1))).map (fun q => (q.1, q.2 - 1))
def outL (L : List (Int × Int)) : List Int := (L.filter (fun q => decide (q.2 = 1))).map (·.1)
theorem take_pair {L : List (Int × Int)} {k : Nat} (h : k < L.length) : L.take (k + 1) = L.take k ++ [L[k]] := by
  rw [List.take_add_one, List.getElem?_eq_getElem h]; rfl
theorem stay_yes {L : List (Int × Int)} {k : Nat} (h : k < L.length) (e : L[k].2 = 1) : stay (L.take (k + 1)) = stay (L.take k) ∧ outL (L.take (k + 1)) = outL (L.take k) ++ [L[k].1] := by
  rw [take_pair h]; unfold stay outL; rw [List.filter_append, List.filter_append]; simp [e]
theorem stay_no {L : List (Int × Int)} {k : Nat} (h : k < L.length) (e : L[k].2 ≠ 1) : stay (L.take (k + 1)) = stay (L.take k) ++ [(L[k].1, L[k].2 - 1)] ∧ outL (L.take (k + 1)) = outL (L.take k) := by
  rw [take_pair h]; unfold stay outL; rw [List.filter_append, List.filter_append]; simp [e]
theorem stay_len (L : List (Int × Int)) : (stay L).length ≤ L.length ∧ (outL L).length ≤ L.length := by
  unfold stay outL; rw [List.length_map, List.length_map]; exact ⟨List.length_filter_le _ _, List.length_filter_le _ _⟩
theorem tick_l0 (L : List (Int × Int)) (hm : L.length < 4096) (hb : ∀ q ∈ L, 1 ≤ q.2 ∧ q.2 ≤ 1048576) (d : Nat) : ∀ (k n : Nat), n ≤ L.length → L.length - n = d → 2 * d + 1 < k →
    PWheelPlays.ploverref14_Tick.l0 k (outL (L.take n)) (n : Int) (ids L) (lefts L) (ids (stay (L.take n))) (lefts (stay (L.take n))) = some (ids (stay L), lefts (stay L), outL L) := by
  induction d with
  | zero =>
    intro k n h1 h2 h3
    obtain ⟨k, rfl⟩ : ∃ m, k = m + 2 := ⟨k - 2, by omega⟩
    rw [PWheelPlays.ploverref14_Tick.l0, if_neg (by rw [ids_len]; omega), PWheelPlays.ploverref14_Tick.j1, if_neg (by simp), List.take_of_length_le (by omega)]
  | succ d ih =>
    intro k n h1 h2 h3
    obtain ⟨k, rfl⟩ : ∃ m, k = m + 2 := ⟨k - 2, by omega⟩
    have hn : n < L.length := by omega
    have hq := hb _ (List.getElem_mem hn)
    have hs := stay_len (L.take n)
    have ht : (L.take n).length = n := by rw [List.length_take]; omega
    have e1 : rd (lefts L) (n : Int) = L[n].2 := by rw [rdn _ _ (by rw [lefts_len]; exact hn)]; simp [lefts]
    have e2 : rd (ids L) (n : Int) = L[n].1 := by rw [rdn _ _ (by rw [ids_len]; exact hn)]; simp [ids]
    rw [PWheelPlays.ploverref14_Tick.l0, if_pos (by rw [ids_len]; omega), PWheelPlays.ploverref14_Tick.j1, if_pos (by simp [lefts_len]; omega), if_pos (by omega), if_pos (by rw [lefts_len]; omega), e1]
    by_cases e : L[n].2 = 1
    · obtain ⟨s1, s2⟩ := stay_yes hn e
      rw [if_pos e, if_pos (by rw [ids_len]; omega), if_pos (by omega), e2, w_succ (by omega), ← s2, ← s1]
      exact ih k (n + 1) (by omega) (by omega) (by omega)
    · obtain ⟨s1, s2⟩ := stay_no hn e
      have hw : wrap64 (L[n].2 - 1) = L[n].2 - 1 := by unfold wrap64; omega
      rw [if_neg e, if_pos (by rw [ids_len]; omega), if_pos (by rw [ids_len]; omega), if_pos (by rw [lefts_len]; omega), e2, hw, w_succ (by omega), ← s2]
      rw [show ids (stay (L.take n)) ++ [L[n].1] = ids (stay (L.take (n + 1))) by rw [s1]; simp [ids], show lefts (stay (L.take n)) ++ [L[n].2 - 1] = lefts (stay (L.take (n + 1))) by rw [s1]; simp [lefts]]
      exact ih k (n + 1) (by omega) (by omega) (by omega)
theorem tick_f {L : List (Int × Int)} {D : Int → Option Int} {now : Int} (hR : Rel L D now) (hm : L.length < 4096) :
    PWheelPlays.ploverref14_Tick.f (2 * L.length + 2) (ids L) (lefts L) = some (ids (stay L), lefts (stay L), outL L) ∧ Rel (stay L) (tickD D (now + 1)) (now + 1) ∧ IsOut D (now + 1) (outL L) ∧ (stay L).length = L.length - (outL L).length := by
  have hsub : (L.filter (fun q => decide (q.2 ≠ 1))).Pairwise (fun p q => p.1 < q.1) := hR.rising.sublist List.filter_sublist
  have hsub2 : (L.filter (fun q => decide (q.2 = 1))).Pairwise (fun p q => p.1 < q.1) := hR.rising.sublist List.filter_sublist
  refine ⟨?_, ⟨?_, ?_, ?_⟩, ⟨?_, ?_⟩, ?_⟩
  · have := tick_l0 L hm hR.ok L.length (2 * L.length + 2) 0 (by omega) (by omega) (by omega)
    unfold PWheelPlays.ploverref14_Tick.f
    simpa [stay, outL, ids, lefts] using this
  · unfold stay; rw [List.pairwise_map]; exact hsub
  · intro x t
    unfold stay tickD
    simp only [List.mem_map, List.mem_filter, decide_eq_true_eq, Prod.mk.injEq]
    constructor
    · rintro ⟨q, ⟨h1, h2⟩, rfl, rfl⟩
      have h3 := (hR.mem q.1 q.2).1 h1
      rw [h3, if_neg (by intro e; simp at e; omega)]
      congr 1
      omega
    · intro h
      split at h
      · cases h
      · next hne =>
        refine ⟨(x, t + 1), ⟨(hR.mem x (t + 1)).2 (by rw [h]; congr 1; omega), ?_⟩, rfl, by simp⟩
        intro e
        rw [h] at hne
        simp at e
        exact hne (by congr 1; omega)
  · intro q hq
    unfold stay at hq
    simp only [List.mem_map, List.mem_filter, decide_eq_true_eq] at hq
    obtain ⟨r, ⟨h1, h2⟩, rfl⟩ := hq
    have := hR.ok r h1
    simp
    omega
  · unfold outL; rw [List.pairwise_map]; exact hsub2
  · intro x
    unfold outL
    simp only [List.mem_map, List.mem_filter, decide_eq_true_eq]
    constructor
    · rintro ⟨q, ⟨h1, h2⟩, rfl⟩
      have := (hR.mem q.1 q.2).1 h1
      rw [this, h2]
    · intro h
      exact ⟨(x, 1), ⟨(hR.mem x 1).2 h, rfl⟩, rfl⟩
  · unfold stay outL
    rw [List.length_map, List.length_map]
    clear hR hm hsub hsub2
    induction L with
    | nil => rfl
    | cons q L ih =>
      have h1 := List.length_filter_le (fun q : Int × Int => decide (q.2 = 1)) L
      rw [List.filter_cons, List.filter_cons]
      by_cases e : q.2 = 1
      · simp [e]; simpa using ih
      · simp [e]; simp at ih; omega
theorem same_l0 (xs : List Int) (hm : xs.length ≤ 1000000) (d : Nat) : ∀ (k n : Nat), n ≤ xs.length → xs.length - n = d → d < k → PWheelPlays.ploverref01_SameInts.l0 k xs xs (n : Int) = some true := by
  induction d with
  | zero =>
    intro k n h1 h2 h3
    obtain ⟨k, rfl⟩ : ∃ m, k = m + 1 := ⟨k - 1, by omega⟩
    rw [PWheelPlays.ploverref01_SameInts.l0, if_neg (by omega)]
  | succ d ih =>
    intro k n h1 h2 h3
    obtain ⟨k, rfl⟩ : ∃ m, k = m + 1 := ⟨k - 1, by omega⟩
    rw [PWheelPlays.ploverref01_SameInts.l0, if_pos (by omega), if_pos (by omega), if_pos (by omega), if_pos rfl, w_succ (by omega)]
    exact ih k (n + 1) (by omega) (by omega) (by omega)
theorem same_f (xs : List Int) (hm : xs.length ≤ 1000000) : PWheelPlays.ploverref01_SameInts.f (xs.length + 1) xs xs = some true := by
  unfold PWheelPlays.ploverref01_SameInts.f
  rw [if_pos rfl]
  exact same_l0 xs hm xs.length _ 0 (by omega) (by omega) (by omega)
theorem Rel.nil (now : Int) : Rel [] (fun _ => none) now := ⟨List.Pairwise.nil, fun x t => by simp, fun q h => by simp at h⟩

end Go.Proofs.Ytncmkcdnlcmiaaa.Wh
