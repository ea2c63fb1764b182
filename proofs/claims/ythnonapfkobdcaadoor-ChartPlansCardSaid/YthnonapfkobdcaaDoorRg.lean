/- A ring of places, in plain lists: which node has a place. -/
import Derived.WalkKit
namespace Go.Proofs.YthnonapfkobdcaaDoor.Rg
open Go.RowKit
set_option linter.unusedVariables false
set_option linter.unusedSimpArgs false

/-- The order of places: by the spot, then by the node. -/
def lt (x y : Int × Int) : Bool := decide (x.1 < y.1 ∨ x.1 = y.1 ∧ x.2 < y.2)
def srt (l : List (Int × Int)) : List (Int × Int) := l.mergeSort fun x y => !lt y x
theorem srt_perm (l : List (Int × Int)) : (srt l).Perm l := List.mergeSort_perm _ _
theorem srt_mem (l : List (Int × Int)) (q : Int × Int) : q ∈ srt l ↔ q ∈ l := (srt_perm l).mem_iff
theorem srt_len (l : List (Int × Int)) : (srt l).length = l.length := (srt_perm l).length_eq
def le2 (x y : Int × Int) : Prop := x.1 < y.1 ∨ x.1 = y.1 ∧ x.2 ≤ y.2
theorem srt_sorted (l : List (Int × Int)) : (srt l).Pairwise le2 := by
  have h : (srt l).Pairwise (fun x y => (!lt y x) = true) := by
    refine List.pairwise_mergeSort (fun a b c h1 h2 => ?_) (fun a b => ?_) l
    · simp [lt] at h1 h2 ⊢; omega
    · simp [lt]; omega
  exact h.imp (fun {a b} h => by simp [lt] at h; unfold le2; omega)

/-- Which of two places comes first from a spot on, round and round. -/
def cle (spot : Int) (a b : Int × Int) : Prop := (a.1 < spot → b.1 < spot) ∧ ((a.1 < spot ↔ b.1 < spot) → le2 a b)
structure IsHome (l : List (Int × Int)) (spot n : Int) : Prop where
  ex : ∃ s, (s, n) ∈ l ∧ ∀ q ∈ l, cle spot (s, n) q
theorem cle_anti {spot : Int} {a b : Int × Int} (h1 : cle spot a b) (h2 : cle spot b a) : a = b := by
  have e : a.1 < spot ↔ b.1 < spot := ⟨h1.1, h2.1⟩
  have k1 := h1.2 e
  have k2 := h2.2 e.symm
  unfold le2 at k1 k2
  have e1 : a.1 = b.1 := by omega
  have e2 : a.2 = b.2 := by omega
  exact Prod.ext e1 e2
theorem IsHome.eq {l : List (Int × Int)} {spot n n' : Int} (h : IsHome l spot n) (h' : IsHome l spot n') : n = n' := by
  obtain ⟨s, h1, h2⟩ := h.ex
  obtain ⟨s', h3, h4⟩ := h'.ex
  have := cle_anti (h2 _ h3) (h4 _ h1)
  injection this
/-- By a place in the sorted row: those ahead are below the spot, the others are not. -/
theorem home_at {l : List (Int × Int)} {spot : Int} {i : Nat} (hs : l.Pairwise le2) (hl : 0 < l.length) (hi : i ≤ l.length)
    (h1 : ∀ j (hj : j < l.length), j < i → l[j].1 < spot) (h2 : ∀ j (hj : j < l.length), i ≤ j → spot ≤ l[j].1) : ∃ hm : i % l.length < l.length, IsHome l spot (l[i % l.length]).2 := by
  have hm : i % l.length < l.length := Nat.mod_lt _ hl
  refine ⟨hm, ⟨(l[i % l.length]).1, List.getElem_mem hm, fun q hq => ?_⟩⟩
  obtain ⟨j, hj, rfl⟩ := List.getElem_of_mem hq
  have hp := List.pairwise_iff_getElem.1 hs
  have hle : ∀ a b (ha : a < l.length) (hb : b < l.length), a ≤ b → le2 l[a] l[b] := by
    intro a b ha hb hab
    rcases Nat.lt_or_eq_of_le hab with h | h
    · exact hp a b ha hb h
    · subst h; exact .inr ⟨rfl, Int.le_refl _⟩
  rcases Nat.lt_or_eq_of_le hi with hlt | heq
  · have e : i % l.length = i := Nat.mod_eq_of_lt hlt
    simp only [e]
    have h3 := h2 i hlt (Nat.le_refl _)
    refine ⟨fun h => ?_, fun h => ?_⟩
    · have h4 : l[i].1 < spot := h
      omega
    · rcases Nat.lt_or_ge j i with hji | hji
      · have h5 := h1 j hj hji
        have : l[i].1 < spot := h.2 h5
        omega
      · exact hle i j hlt hj hji
  · have e : i % l.length = 0 := by rw [heq]; exact Nat.mod_self _
    simp only [e]
    refine ⟨fun _ => h1 j hj (by omega), fun _ => hle 0 j hl hj (Nat.zero_le _)⟩

/-- Places of nodes: of each the spots that it has. -/
def raw (sp : Int → Nat → Int) (ns : List Int) (places : Nat) : List (Int × Int) := ns.flatMap fun n => (List.range places).map fun k => (sp n k, n)
theorem raw_mem {sp : Int → Nat → Int} {ns : List Int} {places : Nat} {s n : Int} : (s, n) ∈ raw sp ns places ↔ n ∈ ns ∧ ∃ k, k < places ∧ s = sp n k := by
  unfold raw
  simp only [List.mem_flatMap, List.mem_map, List.mem_range, Prod.mk.injEq]
  constructor
  · rintro ⟨a, h1, k, h2, h3, rfl⟩; exact ⟨h1, k, h2, h3.symm⟩
  · rintro ⟨h1, k, h2, h3⟩; exact ⟨n, h1, k, h2, h3.symm, rfl⟩
theorem raw_app (sp : Int → Nat → Int) (ns : List Int) (n : Int) (places : Nat) : raw sp (ns ++ [n]) places = raw sp ns places ++ (List.range places).map fun k => (sp n k, n) := by
  unfold raw; simp
theorem raw_len (sp : Int → Nat → Int) (ns : List Int) (places : Nat) : (raw sp ns places).length = ns.length * places := by
  unfold raw
  induction ns with
  | nil => simp
  | cons n ns ih => simp only [List.flatMap_cons, List.length_append, ih, List.length_map, List.length_range, List.length_cons, Nat.add_mul]; omega
def ring (sp : Int → Nat → Int) (ns : List Int) (places : Nat) : List (Int × Int) := srt (raw sp ns places)
theorem ring_mem {sp : Int → Nat → Int} {ns : List Int} {places : Nat} {s n : Int} : (s, n) ∈ ring sp ns places ↔ n ∈ ns ∧ ∃ k, k < places ∧ s = sp n k := by
  unfold ring; rw [srt_mem, raw_mem]
theorem ring_len (sp : Int → Nat → Int) (ns : List Int) (places : Nat) : (ring sp ns places).length = ns.length * places := by
  unfold ring; rw [srt_len, raw_len]

theorem IsHome.node {sp : Int → Nat → Int} {ns : List Int} {places : Nat} {spot n : Int} (h : IsHome (ring sp ns places) spot n) : n ∈ ns := by
  obtain ⟨s, h1, _⟩ := h.ex; exact (ring_mem.1 h1).1
/-- When a node comes, what has another home has it with that node. -/
theorem comes {sp : Int → Nat → Int} {few all : List Int} {places : Nat} {k spot x y : Int} (hsub : ∀ n ∈ few, n ∈ all) (hall : ∀ n ∈ all, n = k ∨ n ∈ few)
    (hy : IsHome (ring sp all places) spot y) : y = k ∨ y ∈ few ∧ (IsHome (ring sp few places) spot x → x = y) := by
  obtain ⟨s, h1, h2⟩ := hy.ex
  obtain ⟨h3, h4⟩ := ring_mem.1 h1
  rcases hall y h3 with e | e
  · exact .inl e
  · refine .inr ⟨e, fun hx => hx.eq ⟨s, ring_mem.2 ⟨e, h4⟩, fun q hq => ?_⟩⟩
    obtain ⟨q1, q2⟩ := q
    obtain ⟨a, b⟩ := ring_mem.1 hq
    exact h2 _ (ring_mem.2 ⟨hsub _ a, b⟩)
/-- At a spot at which nodes stand the least of them has its home. -/
theorem spots {sp : Int → Nat → Int} {ns : List Int} {places : Nat} {n least m : Int} {j : Nat} (hn : n ∈ ns) (hj : j < places) (hm : IsHome (ring sp ns places) (sp n j) m)
    (h1 : least ∈ ns ∧ ∃ p, p < places ∧ sp least p = sp n j) (h2 : ∀ i ∈ ns, ∀ p, p < places → sp i p = sp n j → least ≤ i) : m = least := by
  obtain ⟨hl, p, hp, he⟩ := h1
  refine hm.eq ⟨sp n j, ring_mem.2 ⟨hl, p, hp, he.symm⟩, fun q hq => ?_⟩
  obtain ⟨q1, q2⟩ := q
  obtain ⟨a, k, hk, e⟩ := ring_mem.1 hq
  refine ⟨fun h => ?_, fun h => ?_⟩
  · simp at h
  · simp at h
    rcases Int.lt_or_eq_of_le h with h3 | h3
    · exact .inl h3
    · exact .inr ⟨h3, h2 q2 a k hk (by rw [← e]; exact h3.symm)⟩
end Go.Proofs.YthnonapfkobdcaaDoor.Rg
