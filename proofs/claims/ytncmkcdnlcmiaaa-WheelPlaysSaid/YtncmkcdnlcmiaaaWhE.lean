/- A wheel, by what it holds: its contracts for the laws. -/
import Derived.Test.YtncmkcdnlcmiaaaWhD
namespace Go.Proofs.Ytncmkcdnlcmiaaa.Wh
open Go.RowKit Mb Go.Proofs.YtncmkcdnlcmiaaaW.PrintWords Go.Proofs.YtncmkcdnlcmiaaaW.PrintLast Go.Proofs.YtncmkcdnlcmiaaaW.PrintMore
set_option linter.unusedVariables false
set_option linter.unusedSimpArgs false

structure Whl (W : World) (F : Nat → Prop) (p : Nat) (now : Int) (D : Int → Option Int) (n c : Nat) : Prop where
  ex : ∃ A, WheelAt W F p now D n A c ∧ Inv D A ∧ ∀ t, ∀ x ∈ A t, (Lit.int .i64 x).wf = true
theorem Whl.lt {W : World} {F : Nat → Prop} {p : Nat} {now : Int} {D : Int → Option Int} {n c : Nat} (h : Whl W F p now D n c) : ∀ k, F k → k < W.heap.size := by obtain ⟨A, h, _⟩ := h.ex; exact h.lt
theorem Whl.move {W W' : World} {F : Nat → Prop} {p : Nat} {now : Int} {D : Int → Option Int} {n c : Nat} (h : Whl W F p now D n c) (hs : W.heap.size ≤ W'.heap.size) (hm : ∀ k, F k → W'.heap[k]? = W.heap[k]?) : Whl W' F p now D n c := by
  obtain ⟨A, h1, h2⟩ := h.ex; exact ⟨A, h1.move hs hm, h2⟩
theorem Whl.below {W W' : World} {F : Nat → Prop} {p : Nat} {now : Int} {D : Int → Option Int} {n c : Nat} (h : Whl W F p now D n c) (hb : Below W.heap.size W W') : Whl W' F p now D n c := h.move hb.size (fun k hk => hb.block k (h.lt k hk))
theorem Whl.drew {W : World} {F : Nat → Prop} {p : Nat} {now : Int} {D : Int → Option Int} {n c : Nat} (h : Whl W F p now D n c) : Whl W.drew F p now D n c := h.move (Nat.le_refl _) (fun _ _ => rfl)
theorem Whl.drewN {W : World} {F : Nat → Prop} {p : Nat} {now : Int} {D : Int → Option Int} {n c : Nat} (h : Whl W F p now D n c) (m : Nat) : Whl (W.drewN m) F p now D n c := h.move (Nat.le_refl _) (fun _ _ => rfl)
theorem WheelAt.more {W : World} {F : Nat → Prop} {p : Nat} {now : Int} {D : Int → Option Int} {n : Nat} {A : Int → List Int} {c c' : Nat} (h : WheelAt W F p now D n A c) (hc : c ≤ c') : WheelAt W F p now D n A c' := by
  obtain ⟨⟨bd, ba, na, f, h1, h2, h3, h4, h5, h6, h7, f1, f2, f3, h8, h9, ha, hcc⟩, hl⟩ := h
  exact ⟨⟨bd, ba, na, f, h1, h2, h3, Nat.le_trans h4 hc, h5, h6, h7, f1, f2, f3, h8, h9, ha, fun t => Nat.le_trans (hcc t) hc⟩, hl⟩

theorem wnew (w : World) : Calls Try.prog 9 #[] w fun e w' => ∃ F p, e = .returned (.pointer (some ⟨p, 0, none⟩)) ∧ Whl w' F p 0 (fun _ => none) 0 0 ∧ (∀ k, F k → w.heap.size ≤ k) ∧ Below w.heap.size w w' := by
  refine (new_calls w).mono ?_
  rintro e w' ⟨F, p, rfl, h, h1, h2⟩
  exact ⟨F, p, rfl, ⟨⟨_, h, ⟨fun x t h => by simp at h, fun t => List.nodup_nil⟩, fun t x h => by simp at h⟩⟩, h1, h2⟩

structure SetOk (W : World) (F : Nat → Prop) (p : Nat) (now : Int) (D : Int → Option Int) (n c : Nat) (id ticks : Int) (e : Ending) (w' : World) : Prop where
  ret : e = .returned (.int .i64 0)
  ex : ∃ F', Whl w' F' p now (upd D id (some (now + ticks))) (addN D id n) (c + 1) ∧ ∀ k, F' k → F k ∨ W.heap.size ≤ k
  turns : Turns F W w'

theorem wset {W : World} {F : Nat → Prop} {p : Nat} {now : Int} {D : Int → Option Int} {n c : Nat} (h : Whl W F p now D n c) (id ticks : Int) (hw : (Lit.int .i64 id).wf = true) (h1 : 1 ≤ ticks) (h2 : ticks ≤ 1048576) (hok : (D id).isSome = true ∨ n < 4096)
   (hnow : 0 ≤ now) (hnow' : now ≤ 1099511627776) (hn : n ≤ 4096) (hc : c ≤ 1048576) :
    Calls Try.prog 10 #[.pointer (some ⟨p, 0, none⟩), .int .i64 id, .int .i64 ticks] W (SetOk W F p now D n c id ticks) := by
  obtain ⟨A, hA, hI, hwf⟩ := h.ex
  have hwt : (Lit.int .i64 (now + ticks)).wf = true := wf_of (by omega) (by omega)
  by_cases e : id ∈ A (now + ticks)
  · refine (set_yes W F p now D n A c hA id ticks (now + ticks) hw hwt h1 h2 hok hnow hnow' hn hc rfl true (by simp [e]) A c (.inl ⟨rfl, rfl, rfl⟩)).mono ?_
    rintro e' w' ⟨r1, ⟨F', r2, r3⟩, r4⟩
    refine ⟨r1, ⟨F', ⟨A, r2.more (by omega), ⟨fun x t hx => ?_, hI.one⟩, hwf⟩, r3⟩, r4⟩
    unfold upd at hx
    by_cases ex : x = id
    · rw [if_pos ex] at hx; cases hx; rw [ex]; exact e
    · rw [if_neg ex] at hx; exact hI.all x t hx
  · refine (set_yes W F p now D n A c hA id ticks (now + ticks) hw hwt h1 h2 hok hnow hnow' hn hc rfl false (by simp [e]) _ _ (.inr ⟨rfl, rfl, rfl⟩)).mono ?_
    rintro e' w' ⟨r1, ⟨F', r2, r3⟩, r4⟩
    refine ⟨r1, ⟨F', ⟨_, r2, ⟨fun x t hx => ?_, fun t => ?_⟩, fun t x hx => ?_⟩, r3⟩, r4⟩
    · unfold upd at hx
      unfold putA
      by_cases ex : x = id
      · rw [if_pos ex] at hx; cases hx; rw [if_pos rfl, ex]; simp
      · rw [if_neg ex] at hx
        have := hI.all x t hx
        split
        · next et => rw [et] at this; exact List.mem_append_left _ this
        · exact this
    · unfold putA
      split
      · exact List.nodup_append.2 ⟨hI.one _, by simp, fun a ha b hb eab => by simp at hb; rw [eab, hb] at ha; exact e ha⟩
      · exact hI.one t
    · unfold putA at hx
      split at hx
      · rcases List.mem_append.1 hx with hx | hx
        · exact hwf _ x hx
        · simp at hx; rw [hx]; exact hw
      · exact hwf t x hx

/-- The numbers whose tick is t, rising. -/
structure IsOut (D : Int → Option Int) (t : Int) (l : List Int) : Prop where
  rising : l.Pairwise (· < ·)
  mem : ∀ x, x ∈ l ↔ D x = some t

theorem sorted_isOut {D : Int → Option Int} {A : Int → List Int} (h : Inv D A) (t : Int) : IsOut D t (sorted (outs D (A t) t)) := by
  have hp : (sorted (outs D (A t) t)).Perm (outs D (A t) t) := List.mergeSort_perm _ _
  refine ⟨?_, fun x => ?_⟩
  · have h1 : (sorted (outs D (A t) t)).Pairwise (fun x y => decide (x ≤ y) = true) := List.pairwise_mergeSort (fun a b c h1 h2 => by simp at h1 h2 ⊢; omega) (fun a b => by simp; omega) _
    have h2 : (sorted (outs D (A t) t)).Nodup := hp.nodup_iff.2 ((h.one t).filter _)
    exact (h1.and h2).imp (fun {a b} hab => by have h3 := hab.1; have h4 := hab.2; simp at h3; omega)
  · rw [hp.mem_iff]
    unfold outs
    rw [List.mem_filter]
    simp
    exact fun e => h.all x t e

structure TickOk (W : World) (F : Nat → Prop) (p : Nat) (t : Int) (D : Int → Option Int) (n c : Nat) (l : List Int) (e : Ending) (w' : World) : Prop where
  ret : ∃ Av cv, e = .returned (.slice Av l.length cv) ∧ w'.ownsRow W.heap.size 3 1 (.slice Av l.length cv) l.length (nums .i64 l)
  wheel : Whl w' F p t (tickD D t) (n - l.length) c
  turns : Turns F W w'

theorem wtick {W : World} {F : Nat → Prop} {p : Nat} {now : Int} {D : Int → Option Int} {n c : Nat} (h : Whl W F p now D n c) (hnow : 0 ≤ now) (hnow' : now ≤ 1099511627776) (hc : c ≤ 1048576) :
    ∃ l, IsOut D (now + 1) l ∧ Calls Try.prog 11 #[.pointer (some ⟨p, 0, none⟩)] W (TickOk W F p (now + 1) D n c l) := by
  obtain ⟨A, hA, hI, hwf⟩ := h.ex
  refine ⟨_, sorted_isOut hI (now + 1), ?_⟩
  refine (tick_calls W F p now D n A c hA hI hnow hnow' hc (now + 1) rfl (hwf _)).mono ?_
  rintro e w' ⟨⟨Av, cv, rfl, r1⟩, r2, r3⟩
  have hl : (sorted (outs D (A (now + 1)) (now + 1))).length = (outs D (A (now + 1)) (now + 1)).length := by unfold sorted; simp
  refine ⟨⟨Av, cv, by rw [hl], by rw [hl]; exact r1⟩, ⟨_, by rw [hl]; exact r2, ⟨fun x t hx => ?_, fun t => ?_⟩, fun t x hx => ?_⟩, r3⟩
  · unfold tickD at hx
    unfold putA
    split at hx
    · cases hx
    · next hne =>
      rw [if_neg (fun e => hne (by rw [← e]; exact hx))]
      exact hI.all x t hx
  · unfold putA
    split
    · exact List.nodup_nil
    · exact hI.one t
  · unfold putA at hx
    split at hx
    · simp at hx
    · exact hwf t x hx

end Go.Proofs.Ytncmkcdnlcmiaaa.Wh
