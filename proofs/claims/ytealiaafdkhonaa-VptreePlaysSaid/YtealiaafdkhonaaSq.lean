/- Sorting by swaps and merges in place, in plain lists: insertion, rotation, Go's symmetric merge. No program. -/
import Derived.Test.YtealiaafdkhonaaPt
namespace Go.Proofs.Ytealiaafdkhonaa.Sq
set_option linter.unusedVariables false
set_option linter.unusedSimpArgs false
variable {α : Type} {d : α} {key : α → Int}

/-- The key at a place. -/
def kf (d : α) (key : α → Int) (Q : List α) (i : Nat) : Int := key (Q.getD i d)
def swapL (d : α) (Q : List α) (p q : Nat) : List α := (Q.set p (Q.getD q d)).set q (Q.getD p d)
theorem swap_len (Q : List α) (p q : Nat) : (swapL d Q p q).length = Q.length := by simp [swapL]
theorem swap_getD (Q : List α) {p q : Nat} (hp : p < Q.length) (hq : q < Q.length) (k : Nat) : (swapL d Q p q).getD k d = if k = q then Q.getD p d else if k = p then Q.getD q d else Q.getD k d := by
  unfold swapL
  simp only [List.getD_eq_getElem?_getD, List.getElem?_set, List.length_set]
  by_cases h1 : k = q
  · subst h1; simp [hq]
  · rw [if_neg (fun e => h1 e.symm), if_neg h1]
    by_cases h2 : k = p
    · subst h2; simp [hp]
    · rw [if_neg (fun e => h2 e.symm), if_neg h2]
theorem swap_kf (Q : List α) {p q : Nat} (hp : p < Q.length) (hq : q < Q.length) (k : Nat) : kf d key (swapL d Q p q) k = if k = q then kf d key Q p else if k = p then kf d key Q q else kf d key Q k := by
  unfold kf
  rw [swap_getD Q hp hq]
  split
  · rfl
  · split <;> rfl
theorem swap_get (Q : List α) {p q k : Nat} (h1 : k ≠ p) (h2 : k ≠ q) : (swapL d Q p q)[k]? = Q[k]? := by
  unfold swapL
  rw [List.getElem?_set_ne (fun e => h2 e.symm), List.getElem?_set_ne (fun e => h1 e.symm)]
theorem swap_perm (Q : List α) {p q : Nat} (hp : p < Q.length) (hq : q < Q.length) : (swapL d Q p q).Perm Q := by
  have h := Array.swap_perm (xs := Q.toArray) (i := p) (j := q) (by simpa using hp) (by simpa using hq)
  rw [Array.perm_iff_toList_perm] at h
  have e : swapL d Q p q = (Q.toArray.swap p q (by simpa using hp) (by simpa using hq)).toList := by
    unfold swapL
    simp [List.getD_eq_getElem?_getD, hp, hq]
  rw [e]
  simpa using h

/-- Between a and b something has turned: the same elements. -/
structure Seg (a b : Nat) (Q Q' : List α) : Prop where
  len : Q'.length = Q.length
  perm : Q'.Perm Q
  out : ∀ i, i < a ∨ b ≤ i → Q'[i]? = Q[i]?
theorem Seg.refl (a b : Nat) (Q : List α) : Seg a b Q Q := ⟨rfl, List.Perm.refl _, fun _ _ => rfl⟩
theorem Seg.trans {a b : Nat} {Q Q' Q2 : List α} (h : Seg a b Q Q') (k : Seg a b Q' Q2) : Seg a b Q Q2 := ⟨k.len.trans h.len, k.perm.trans h.perm, fun i hi => (k.out i hi).trans (h.out i hi)⟩
theorem Seg.wide {a b a' b' : Nat} {Q Q' : List α} (h : Seg a b Q Q') (ha : a' ≤ a) (hb : b ≤ b') : Seg a' b' Q Q' := ⟨h.len, h.perm, fun i hi => h.out i (by omega)⟩
theorem Seg.swap {a b : Nat} {Q : List α} {p q : Nat} (h1 : a ≤ p) (h2 : p < b) (h3 : a ≤ q) (h4 : q < b) (hb : b ≤ Q.length) : Seg a b Q (swapL d Q p q) :=
  ⟨swap_len Q p q, swap_perm Q (by omega) (by omega), fun i hi => swap_get Q (by omega) (by omega)⟩
theorem Seg.kf_out {a b : Nat} {Q Q' : List α} (h : Seg a b Q Q') {i : Nat} (hi : i < a ∨ b ≤ i) : kf d key Q' i = kf d key Q i := by
  unfold kf; rw [List.getD_eq_getElem?_getD, List.getD_eq_getElem?_getD, h.out i hi]
theorem mid_split (a b : Nat) (hab : a ≤ b) (Q : List α) : Q = Q.take a ++ ((Q.drop a).take (b - a) ++ Q.drop b) := by
  have h1 := List.take_append_drop a Q
  have h2 := List.take_append_drop (b - a) (Q.drop a)
  rw [List.drop_drop, show a + (b - a) = b by omega] at h2
  rw [h2, h1]
theorem Seg.mid {a b : Nat} (hab : a ≤ b) {Q Q' : List α} (h : Seg a b Q Q') : ((Q'.drop a).take (b - a)).Perm ((Q.drop a).take (b - a)) := by
  have e1 : Q'.take a = Q.take a := List.ext_getElem? (fun i => by
    rw [List.getElem?_take, List.getElem?_take]
    split
    · exact h.out i (.inl (by omega))
    · rfl)
  have e2 : Q'.drop b = Q.drop b := List.ext_getElem? (fun i => by
    rw [List.getElem?_drop, List.getElem?_drop]
    exact h.out _ (.inr (by omega)))
  have h1 := h.perm
  rw [mid_split a b hab Q', mid_split a b hab Q, e1, e2] at h1
  exact (List.perm_append_right_iff _).1 ((List.perm_append_left_iff _).1 h1)
theorem Seg.all {a b : Nat} (hab : a ≤ b) {Q Q' : List α} (h : Seg a b Q Q') (hb : b ≤ Q.length) (p : Int → Prop) (hp : ∀ i, a ≤ i → i < b → p (kf d key Q i)) (i : Nat) (h1 : a ≤ i) (h2 : i < b) : p (kf d key Q' i) := by
  have hl := h.len
  have hm : Q'[i]'(by omega) ∈ (Q'.drop a).take (b - a) := by
    refine List.mem_iff_getElem?.2 ⟨i - a, ?_⟩
    rw [List.getElem?_take, if_pos (by omega), List.getElem?_drop, show a + (i - a) = i by omega, List.getElem?_eq_getElem (by omega)]
  have hm2 := (h.mid hab).mem_iff.1 hm
  obtain ⟨j, hj⟩ := List.mem_iff_getElem?.1 hm2
  rw [List.getElem?_take] at hj
  split at hj
  · rw [List.getElem?_drop] at hj
    have := hp (a + j) (by omega) (by omega)
    unfold kf at this ⊢
    rw [List.getD_eq_getElem?_getD, hj] at this
    rw [List.getD_eq_getElem?_getD, List.getElem?_eq_getElem (by omega)]
    exact this
  · cases hj

/-- Rising from a to b. -/
def Up (f : Nat → Int) (a b : Nat) : Prop := ∀ i j, a ≤ i → i < j → j < b → f i ≤ f j
theorem Up.sub {f : Nat → Int} {a b a' b' : Nat} (h : Up f a b) (ha : a ≤ a') (hb : b' ≤ b) : Up f a' b' := fun i j h1 h2 h3 => h i j (by omega) h2 (by omega)
theorem Up.congr {f g : Nat → Int} {a b : Nat} (h : Up f a b) (hg : ∀ i, a ≤ i → i < b → g i = f i) : Up g a b := fun i j h1 h2 h3 => by rw [hg i h1 (by omega), hg j (by omega) h3]; exact h i j h1 h2 h3
theorem Up.one (f : Nat → Int) (a b : Nat) (h : b ≤ a + 1) : Up f a b := fun i j h1 h2 h3 => by omega
/-- All below c are at most all from c on. -/
def Cross (f : Nat → Int) (a c b : Nat) : Prop := ∀ i j, a ≤ i → i < c → c ≤ j → j < b → f i ≤ f j
theorem Up.join {f : Nat → Int} {a c b : Nat} (h1 : Up f a c) (h2 : Up f c b) (h3 : Cross f a c b) : Up f a b := fun i j hi hij hj => by
  by_cases h : j < c
  · exact h1 i j hi hij h
  · by_cases h' : i < c
    · exact h3 i j hi h' (by omega) hj
    · exact h2 i j (by omega) hij hj

/-- One element on its way to its place: all others rise, and it is at most those behind it. -/
def Down (f : Nat → Int) (a j i : Nat) : Prop := (∀ p q, a ≤ p → p < q → q ≤ i → p ≠ j → q ≠ j → f p ≤ f q) ∧ ∀ q, j < q → q ≤ i → f j ≤ f q
theorem Down.start {f : Nat → Int} {a i : Nat} (h : Up f a i) : Down f a i i := ⟨fun p q h1 h2 h3 h4 h5 => h p q h1 h2 (by omega), fun q h1 h2 => by omega⟩
theorem Down.stop {f : Nat → Int} {a j i : Nat} (h : Down f a j i) (hj : j = a ∨ f (j - 1) ≤ f j) : Up f a (i + 1) := fun p q h1 h2 h3 => by
  by_cases hp : p = j
  · subst hp; exact h.2 q h2 (by omega)
  · by_cases hq : q = j
    · subst hq
      rcases hj with hj | hj
      · omega
      · by_cases e : p = q - 1
        · rw [e]; exact hj
        · exact Int.le_trans (h.1 p (q - 1) h1 (by omega) (by omega) hp (by omega)) hj
    · exact h.1 p q h1 h2 (by omega) hp hq
theorem Down.step {Q : List α} {a j i : Nat} (h : Down (kf d key Q) a j i) (haj : a < j) (hji : j ≤ i) (hi : i < Q.length) (hlt : kf d key Q j < kf d key Q (j - 1)) : Down (kf d key (swapL d Q j (j - 1))) a (j - 1) i := by
  have hs := fun k => swap_kf (d := d) (key := key) Q (p := j) (q := j - 1) (by omega) (by omega) k
  constructor
  · intro p q h1 h2 h3 h4 h5
    rw [hs p, hs q, if_neg h4, if_neg h5]
    by_cases e1 : p = j
    · rw [if_pos e1, if_neg (by omega)]; exact h.1 (j - 1) q (by omega) (by omega) h3 (by omega) (by omega)
    · rw [if_neg e1]
      by_cases e2 : q = j
      · rw [if_pos e2]; exact h.1 p (j - 1) h1 (by omega) (by omega) e1 (by omega)
      · rw [if_neg e2]; exact h.1 p q h1 h2 h3 e1 e2
  · intro q h1 h2
    rw [hs (j - 1), hs q, if_pos rfl, if_neg (by omega)]
    by_cases e2 : q = j
    · rw [if_pos e2]; exact Int.le_of_lt hlt
    · rw [if_neg e2]; exact h.2 q (by omega) h2
/-- One element on its way up: all others rise, and it is at least those ahead of it. -/
def Lift (f : Nat → Int) (a k b : Nat) : Prop := (∀ p q, a ≤ p → p < q → q < b → p ≠ k → q ≠ k → f p ≤ f q) ∧ ∀ p, a ≤ p → p < k → f p ≤ f k
theorem Lift.step {Q : List α} {a k b : Nat} (h : Lift (kf d key Q) a k b) (hak : a ≤ k) (hkb : k + 1 < b) (hb : b ≤ Q.length) (hle : kf d key Q (k + 1) ≤ kf d key Q k) : Lift (kf d key (swapL d Q k (k + 1))) a (k + 1) b := by
  have hs := fun j => swap_kf (d := d) (key := key) Q (p := k) (q := k + 1) (by omega) (by omega) j
  constructor
  · intro p q h1 h2 h3 h4 h5
    rw [hs p, hs q, if_neg h4, if_neg h5]
    by_cases e1 : p = k
    · rw [if_pos e1, if_neg (by omega)]; exact h.1 (k + 1) q (by omega) (by omega) h3 (by omega) (by omega)
    · rw [if_neg e1]
      by_cases e2 : q = k
      · rw [if_pos e2]; exact h.1 p (k + 1) h1 (by omega) (by omega) e1 (by omega)
      · rw [if_neg e2]; exact h.1 p q h1 h2 h3 e1 e2
  · intro p h1 h2
    rw [hs (k + 1), hs p, if_pos rfl, if_neg (by omega)]
    by_cases e2 : p = k
    · rw [if_pos e2]; exact hle
    · rw [if_neg e2]; exact h.2 p h1 (by omega)
theorem Lift.stop {f : Nat → Int} {a k b : Nat} (h : Lift f a k b) (hk : ∀ q, k < q → q < b → f k ≤ f q) : Up f a b := fun p q h1 h2 h3 => by
  by_cases hp : p = k
  · subst hp; exact hk q h2 h3
  · by_cases hq : q = k
    · subst hq; exact h.2 p h1 h2
    · exact h.1 p q h1 h2 h3 hp hq
theorem Lift.start {f : Nat → Int} {a b : Nat} (h : Up f (a + 1) b) : Lift f a a b := ⟨fun p q h1 h2 h3 h4 h5 => h p q (by omega) h2 h3, fun p h1 h2 => by omega⟩

/-- What a rotation leaves: the places from s to e, of which those from m on go ahead. -/
structure Rot (s m e : Nat) (Q Q' : List α) : Prop where
  seg : Seg s e Q Q'
  lo : ∀ k, s ≤ k → k < s + (e - m) → Q'.getD k d = Q.getD (k - s + m) d
  hi : ∀ k, s + (e - m) ≤ k → k < e → Q'.getD k d = Q.getD (k - (e - m)) d
theorem Rot.kf_lo {s m e : Nat} {Q Q' : List α} (h : Rot (d := d) s m e Q Q') {k : Nat} (h1 : s ≤ k) (h2 : k < s + (e - m)) : kf d key Q' k = kf d key Q (k - s + m) := by unfold kf; rw [h.lo k h1 h2]
theorem Rot.kf_hi {s m e : Nat} {Q Q' : List α} (h : Rot (d := d) s m e Q Q') {k : Nat} (h1 : s + (e - m) ≤ k) (h2 : k < e) : kf d key Q' k = kf d key Q (k - (e - m)) := by unfold kf; rw [h.hi k h1 h2]
theorem Rot.none_ {s m e : Nat} (h : s = m ∨ m = e) (h1 : s ≤ m) (h2 : m ≤ e) (Q : List α) : Rot (d := d) s m e Q Q where
  seg := Seg.refl _ _ _
  lo := fun k h3 h4 => by
    rcases h with h | h
    · congr 1; omega
    · omega
  hi := fun k h3 h4 => by
    rcases h with h | h
    · omega
    · congr 1; omega

/-- Where the symmetric merge parts the two runs. -/
structure Cut (f : Nat → Int) (a m b s : Nat) : Prop where
  sa : a ≤ s
  sm : s ≤ m
  smid : s ≤ (a + b) / 2
  eb : (a + b) / 2 + m - s ≤ b
  left : ∀ c, a ≤ c → c < s → (a + b) / 2 + m - s < b → f c ≤ f ((a + b) / 2 + m - s)
  right : ∀ c, s ≤ c → c < m → m < (a + b) / 2 + m - s → f ((a + b) / 2 + m - s - 1) ≤ f c
theorem cut_cross {Q Q' : List α} {a m b s : Nat} (hb : b ≤ Q.length) (h1 : Up (kf d key Q) a m) (h2 : Up (kf d key Q) m b) (hmb : m ≤ b) (hc : Cut (kf d key Q) a m b s) (hr : Rot (d := d) s m ((a + b) / 2 + m - s) Q Q') :
    Up (kf d key Q') a s ∧ Up (kf d key Q') s ((a + b) / 2) ∧ Up (kf d key Q') ((a + b) / 2) ((a + b) / 2 + m - s) ∧ Up (kf d key Q') ((a + b) / 2 + m - s) b ∧ Cross (kf d key Q') a ((a + b) / 2) b := by
  have e0 := hc.sa; have e1 := hc.sm; have e2 := hc.smid; have e3 := hc.eb
  obtain ⟨mid, hmid⟩ : ∃ mid, (a + b) / 2 = mid := ⟨_, rfl⟩
  obtain ⟨e, he⟩ : ∃ e, (a + b) / 2 + m - s = e := ⟨_, rfl⟩
  have hl := hc.left; have hg := hc.right
  rw [he] at hr e3 hl hg
  rw [he, hmid]
  rw [hmid] at e2
  have hee : e + s = mid + m := by omega
  have L0 : ∀ k, k < s → kf d key Q' k = kf d key Q k := fun k hk => hr.seg.kf_out (.inl hk)
  have L1 : ∀ k, s ≤ k → k < mid → kf d key Q' k = kf d key Q (k - s + m) := fun k h3 h4 => hr.kf_lo h3 (by omega)
  have L2 : ∀ k, mid ≤ k → k < e → kf d key Q' k = kf d key Q (k - (e - m)) := fun k h3 h4 => hr.kf_hi (by omega) h4
  have L3 : ∀ k, e ≤ k → kf d key Q' k = kf d key Q k := fun k hk => hr.seg.kf_out (.inr hk)
  refine ⟨fun i j h3 h4 h5 => ?_, fun i j h3 h4 h5 => ?_, fun i j h3 h4 h5 => ?_, fun i j h3 h4 h5 => ?_, fun i j h3 h4 h5 h6 => ?_⟩
  · rw [L0 i (by omega), L0 j h5]; exact h1 i j h3 h4 (by omega)
  · rw [L1 i h3 (by omega), L1 j (by omega) h5]; exact h2 _ _ (by omega) (by omega) (by omega)
  · rw [L2 i h3 (by omega), L2 j (by omega) h5]; exact h1 _ _ (by omega) (by omega) (by omega)
  · rw [L3 i h3, L3 j (by omega)]; exact h2 _ _ (by omega) h4 h5
  · by_cases c1 : i < s
    · rw [L0 i c1]
      by_cases c2 : j < e
      · rw [L2 j h5 c2]
        exact h1 i _ h3 (by omega) (by omega)
      · rw [L3 j (by omega)]
        by_cases c3 : j = e
        · subst c3; exact hl i h3 c1 h6
        · exact Int.le_trans (hl i h3 c1 (by omega)) (h2 e j (by omega) (by omega) h6)
    · rw [L1 i (by omega) h4]
      by_cases c2 : j < e
      · rw [L2 j h5 c2]
        have hk := hg (j - (e - m)) (by omega) (by omega) (by omega)
        by_cases c3 : i - s + m = e - 1
        · rw [c3]; exact hk
        · exact Int.le_trans (h2 (i - s + m) (e - 1) (by omega) (by omega) (by omega)) hk
      · rw [L3 j (by omega)]
        exact h2 _ _ (by omega) (by omega) h6
theorem merge_done {Q1 Q2 Q3 : List α} {a mid b : Nat} (hb : b ≤ Q1.length) (h1 : a ≤ mid) (h2 : mid ≤ b) (hc : Cross (kf d key Q1) a mid b) (s2 : Seg a mid Q1 Q2) (u2 : Up (kf d key Q2) a mid) (s3 : Seg mid b Q2 Q3) (u3 : Up (kf d key Q3) mid b) : Up (kf d key Q3) a b := by
  refine Up.join (u2.congr (fun i h3 h4 => s3.kf_out (.inl h4))) u3 (fun i j h3 h4 h5 h6 => ?_)
  rw [s3.kf_out (.inl h4)]
  refine Seg.all h2 s3 (by have := s2.len; omega) (fun z => kf d key Q2 i ≤ z) (fun j' h7 h8 => ?_) j h5 h6
  rw [s2.kf_out (d := d) (key := key) (.inr h7)]
  exact Seg.all h1 s2 (by omega) (fun z => z ≤ kf d key Q1 j') (fun i' h9 h10 => hc i' j' h9 h10 h7 h8) i h3 h4
/-- The search's bounds make a cut. -/
theorem cut_of {f : Nat → Int} {a m b s : Nat} (ham : a < m) (hmb : m < b) (h1 : Up f a m) (h2 : Up f m b) (s0 r0 : Nat) (hs0 : s0 = if m > (a + b) / 2 then (a + b) / 2 + m - b else a) (hr0 : r0 = if m > (a + b) / 2 then (a + b) / 2 else m) (h3 : s0 ≤ s) (h4 : s ≤ r0)
    (hl : ∀ c, s0 ≤ c → c < s → f c ≤ f ((a + b) / 2 + m - 1 - c)) (hg : ∀ c, s ≤ c → c < r0 → f ((a + b) / 2 + m - 1 - c) < f c) : Cut f a m b s := by
  have hm1 : (a + b) / 2 < b := by omega
  have hm2 : a ≤ (a + b) / 2 := by omega
  obtain ⟨mid, hmid⟩ : ∃ mid, (a + b) / 2 = mid := ⟨_, rfl⟩
  have hmm : 2 * mid ≤ a + b := by omega
  have hmm2 : a + b ≤ 2 * mid + 1 := by omega
  rw [hmid] at hs0 hr0 hl hg hm1 hm2
  have hs1 : a ≤ s0 := by split at hs0 <;> omega
  have hr1 : r0 ≤ m := by split at hr0 <;> omega
  have hr2 : r0 ≤ mid := by split at hr0 <;> omega
  have he : mid + m - s ≤ b := by split at hs0 <;> omega
  constructor
  · omega
  · omega
  · omega
  · omega
  · intro c h5 h6 h7
    rw [hmid] at h7 ⊢
    have h8 : s0 ≤ s - 1 := by split at hs0 <;> omega
    have h9 := hl (s - 1) h8 (by omega)
    rw [show mid + m - 1 - (s - 1) = mid + m - s by omega] at h9
    by_cases e : c = s - 1
    · rw [e]; exact h9
    · exact Int.le_trans (h1 c (s - 1) h5 (by omega) (by omega)) h9
  · intro c h5 h6 h7
    rw [hmid] at h7 ⊢
    have h8 : s < r0 := by split at hr0 <;> omega
    have h9 := hg s (Nat.le_refl _) h8
    rw [show mid + m - 1 - s = mid + m - s - 1 by omega] at h9
    by_cases e : c = s
    · rw [e]; exact Int.le_of_lt h9
    · exact Int.le_trans (Int.le_of_lt h9) (h1 s c (by omega) (by omega) h6)
end Go.Proofs.Ytealiaafdkhonaa.Sq
