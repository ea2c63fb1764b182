/- A wheel's Set: what it leaves in memory. -/
import Derived.Test.YtncmkcdnlcmiaaaWhA
import Derived.Test.YtncmkcdnlcmiaaaPWheelPlaysx1
import Derived.Deep.AppendLies
namespace Go.Proofs.Ytncmkcdnlcmiaaa.Wh
open Go.RowKit Mb Go.Proofs.YtncmkcdnlcmiaaaW.PrintWords Go.Proofs.YtncmkcdnlcmiaaaW.PrintLast Go.Proofs.YtncmkcdnlcmiaaaW.PrintMore
set_option linter.unusedVariables false
set_option linter.unusedSimpArgs false

def putA (A : Int → List Int) (t : Int) (l : List Int) : Int → List Int := fun y => if y = t then l else A y

/-- The row of a tick has been written, and stored back. -/
theorem WheelAt.row {W w1 w2 : World} {F : Nat → Prop} {p : Nat} {now : Int} {D : Int → Option Int} {n : Nat} {A : Int → List Int} {c bd ba na g cap : Nat} {f : Int → Option Value}
    (h1 : W.heap[p]? = some (.cells #[.int .i64 now, .map (some bd), .map (some ba)] 57 (0, 0))) (h2 : IMap Try.prog 3 W bd (fun x => (D x).map (Value.int .i64)) n) (h3 : IMap Try.prog 3 W ba f na) (h4 : na ≤ c) (h5 : p ≠ bd) (h6 : p ≠ ba) (h7 : bd ≠ ba) (f1 : F p) (f2 : F bd) (f3 : F ba)
    (h8 : ∀ t v, f t = some v → W.ownsRow 0 3 1 v (A t).length (nums .i64 (A t)) ∧ ∀ k, v.ownBlock = some k → F k ∧ k ≠ p ∧ k ≠ bd ∧ k ≠ ba) (h9 : ∀ t, f t = none → A t = []) (ha : ∀ t t' v v', t ≠ t' → f t = some v → f t' = some v' → NeRow v v') (hc : ∀ t, (A t).length ≤ c) (hl : ∀ k, F k → k < W.heap.size)
    (t x : Int) (hT : Turns (fun i => ((f t).getD (.slice none 0 0)).ownBlock = some i) W w1) (hown : w1.ownsRow 0 3 1 (.slice (some ⟨g, 0, none⟩) (A t ++ [x]).length cap) (A t ++ [x]).length (nums .i64 (A t ++ [x]))) (hloc : ((f t).getD (.slice none 0 0)).ownBlock = some g ∨ W.heap.size ≤ g) (hg : g < w1.heap.size)
    (hm : IMap Try.prog 3 w2 ba (upd f t (some (.slice (some ⟨g, 0, none⟩) (A t ++ [x]).length cap))) (if (f t).isSome then na else na + 1)) (ht : Turns (fun i => i = ba) w1 w2) :
    WheelAt w2 (fun k => F k ∨ k = g) p now D n (putA A t (A t ++ [x])) (c + 1) ∧ Turns F W w2 := by
  have hv : ∀ k, ((f t).getD (.slice none 0 0)).ownBlock = some k → F k ∧ k ≠ p ∧ k ≠ bd ∧ k ≠ ba := by
    intro k hk
    cases e : f t with
    | none => rw [e] at hk; cases hk
    | some v => rw [e] at hk; exact (h8 t v e).2 k hk
  have hgne : g ≠ p ∧ g ≠ bd ∧ g ≠ ba := by
    rcases hloc with h | h
    · exact (hv g h).2
    · have := hl p f1; have := hl bd f2; have := hl ba f3; omega
  have k1 : ∀ k, k < W.heap.size → ((f t).getD (.slice none 0 0)).ownBlock ≠ some k → k ≠ ba → w2.heap[k]? = W.heap[k]? := by
    intro k hk hn hb
    rw [ht.block k (Nat.lt_of_lt_of_le hk hT.size) hb]
    exact hT.block k hk hn
  have kne : ∀ k, (k = p ∨ k = bd ∨ k = ba) → ((f t).getD (.slice none 0 0)).ownBlock ≠ some k := by
    intro k hk e
    have := (hv k e).2
    omega
  refine ⟨⟨⟨bd, ba, _, _, by rw [k1 p (hl p f1) (kne p (.inl rfl)) h6]; exact h1, h2.move (k1 bd (hl bd f2) (kne bd (.inr (.inl rfl))) h7), hm, by split <;> omega, h5, h6, h7, .inl f1, .inl f2, .inl f3, ?_, ?_, ?_, ?_⟩, ?_⟩, ?_⟩
  · intro t' v' hv'
    unfold upd at hv'
    unfold putA
    by_cases e : t' = t
    · rw [if_pos e] at hv' ⊢
      cases hv'
      refine ⟨own_move hown (fun k hk => ?_), fun k hk => ?_⟩
      · cases hk
        exact ht.block g hg hgne.2.2
      · cases hk
        exact ⟨.inr rfl, hgne⟩
    · rw [if_neg e] at hv' ⊢
      refine ⟨own_move (h8 t' v' hv').1 (fun k hk => ?_), fun k hk => ⟨.inl ((h8 t' v' hv').2 k hk).1, ((h8 t' v' hv').2 k hk).2⟩⟩
      refine k1 k (own_lt (h8 t' v' hv').1 k hk) (fun e2 => ?_) ((h8 t' v' hv').2 k hk).2.2.2
      cases e3 : f t with
      | none => rw [e3] at e2; cases e2
      | some v => rw [e3] at e2; exact ha t' t v' v e hv' e3 k hk e2
  · intro t' hv'
    unfold upd at hv'
    unfold putA
    by_cases e : t' = t
    · rw [if_pos e] at hv'; cases hv'
    · rw [if_neg e] at hv' ⊢; exact h9 t' hv'
  · intro t1 t2 v1 v2 hne hv1 hv2
    unfold upd at hv1 hv2
    by_cases e1 : t1 = t
    · rw [if_pos e1] at hv1
      rw [if_neg (fun e => hne (e1.trans e.symm))] at hv2
      cases hv1
      intro k hk hk2
      cases hk
      rcases hloc with h | h
      · cases e3 : f t with
        | none => rw [e3] at h; cases h
        | some v => rw [e3] at h; exact ha t2 t v2 v (fun e => hne (e1.trans e.symm)) hv2 e3 g hk2 h
      · have := own_lt (h8 t2 v2 hv2).1 g hk2; omega
    · rw [if_neg e1] at hv1
      by_cases e2 : t2 = t
      · rw [if_pos e2] at hv2
        cases hv2
        intro k hk hk2
        cases hk2
        rcases hloc with h | h
        · cases e3 : f t with
          | none => rw [e3] at h; cases h
          | some v => rw [e3] at h; exact ha t1 t v1 v e1 hv1 e3 g hk h
        · have := own_lt (h8 t1 v1 hv1).1 g hk; omega
      · rw [if_neg e2] at hv2
        exact ha t1 t2 v1 v2 hne hv1 hv2
  · intro t'
    unfold putA
    split
    · have := hc t; simp; omega
    · have := hc t'; omega
  · intro k hk
    rcases hk with hk | hk
    · exact Nat.lt_of_lt_of_le (hl k hk) (Nat.le_trans hT.size ht.size)
    · have := ht.size; omega
  · exact (hT.mono (G := F) (fun i hi => (hv i hi).1)).trans ht (fun i hi => .inl (by rw [hi]; exact f3))

end Go.Proofs.Ytncmkcdnlcmiaaa.Wh
