/- awake. -/
import Derived.Test.YtncmkcdnlcmiaaaWhE
import Derived.Test.YtncmkcdnlcmiaaaSi
namespace Go.Proofs.Ytncmkcdnlcmiaaa.Wh
open Go.RowKit Mb Go.Proofs.YtncmkcdnlcmiaaaW.PrintWords Go.Proofs.YtncmkcdnlcmiaaaW.PrintLast Go.Proofs.YtncmkcdnlcmiaaaW.PrintMore
set_option linter.unusedVariables false
set_option linter.unusedSimpArgs false

theorem rising_eq : ∀ (l l' : List Int), l.Pairwise (· < ·) → l'.Pairwise (· < ·) → (∀ x, x ∈ l ↔ x ∈ l') → l = l'
  | [], [], _, _, _ => rfl
  | [], b :: l', _, _, h => by have := (h b).2 (by simp); simp at this
  | a :: l, [], _, _, h => by have := (h a).1 (by simp); simp at this
  | a :: l, b :: l', h1, h2, h => by
    obtain ⟨h3, h4⟩ := List.pairwise_cons.1 h1
    obtain ⟨h5, h6⟩ := List.pairwise_cons.1 h2
    have e : a = b := by
      rcases List.mem_cons.1 ((h a).1 (by simp)) with e | e
      · exact e
      · rcases List.mem_cons.1 ((h b).2 (by simp)) with e2 | e2
        · exact e2.symm
        · have := h5 a e; have := h3 b e2; omega
    subst e
    rw [rising_eq l l' h4 h6 (fun x => ?_)]
    constructor
    · intro hx
      rcases List.mem_cons.1 ((h x).1 (List.mem_cons_of_mem _ hx)) with e | e
      · have := h3 x hx; omega
      · exact e
    · intro hx
      rcases List.mem_cons.1 ((h x).2 (List.mem_cons_of_mem _ hx)) with e | e
      · have := h5 x hx; omega
      · exact e
theorem IsOut.eq {D : Int → Option Int} {t : Int} {l l' : List Int} (h : IsOut D t l) (h' : IsOut D t l') : l = l' := rising_eq l l' h.rising h'.rising (fun x => (h.mem x).trans (h'.mem x).symm)

theorem wtick_is {W : World} {F : Nat → Prop} {p : Nat} {now : Int} {D : Int → Option Int} {n c : Nat} (h : Whl W F p now D n c) (hnow : 0 ≤ now) (hnow' : now ≤ 1099511627776) (hc : c ≤ 1048576) (l : List Int) (hl : IsOut D (now + 1) l) :
    Calls Try.prog 11 #[.pointer (some ⟨p, 0, none⟩)] W (TickOk W F p (now + 1) D n c l) := by
  obtain ⟨l', h1, h2⟩ := wtick h hnow hnow' hc
  rw [hl.eq h1]; exact h2
theorem wlen {W : World} {F : Nat → Prop} {p : Nat} {now : Int} {D : Int → Option Int} {n c : Nat} (h : Whl W F p now D n c) (m : Int) (hm : (n : Int) = m) :
    Calls Try.prog 12 #[.pointer (some ⟨p, 0, none⟩)] W fun e w' => e = .returned (.int .i64 m) ∧ W = w' := by
  obtain ⟨A, hA, _⟩ := h.ex
  subst hm
  exact len_calls W F p now D n A c hA

def dA : Int → Option Int := upd (upd (fun _ => none) 5 (some (0 + 2))) 3 (some (0 + 1))
theorem out1 : IsOut dA (0 + 1) [3] := ⟨by simp, fun x => by unfold dA upd; by_cases h : x = 3 <;> by_cases h5 : x = 5 <;> simp [h, h5]⟩
theorem out2 : IsOut (tickD dA (0 + 1)) (0 + 1 + 1) [5] := ⟨by simp, fun x => by unfold tickD dA upd; by_cases h : x = 3 <;> by_cases h5 : x = 5 <;> simp [h, h5]⟩
theorem out3 : IsOut (tickD (tickD dA (0 + 1)) (0 + 1 + 1)) (0 + 1 + 1 + 1) [] := ⟨by simp, fun x => by unfold tickD dA upd; by_cases h : x = 3 <;> by_cases h5 : x = 5 <;> simp [h, h5]⟩

/-- A row of numbers keeps apart from a wheel's own blocks. -/
theorem row_keeps {W W' : World} {F : Nat → Prop} {B : Nat} {v : Value} {n : Nat} {xs : List Value} (h : W.ownsRow B 3 1 v n xs) (ht : Turns F W W') (hF : ∀ k, F k → k < B) : W'.ownsRow B 3 1 v n xs :=
  own_move h (fun k hk => ht.block k (own_lt h k hk) (fun hf => by have := own_base h k hk; have := hF k hf; omega))

theorem below_tr {B : Nat} {a b c : World} (h : Below B a b) (k : Below B b c) : Below B a c := ⟨k.os.trans h.os, k.tape.trans h.tape, k.output.trans h.output, Nat.le_trans h.size k.size, fun i hi => (k.block i hi).trans (h.block i hi)⟩

theorem C_one (W : World) (x : Int) : Kd.C (Kd.int .i64) (W.alloc (.cells #[.int .i64 x] 3)) (some ⟨W.heap.size, 0, none⟩) [x].length [x] := by
  have h : (W.alloc (.cells #[.int .i64 x] 3)).ownsRow 0 3 1 (.slice (some ⟨W.heap.size, 0, none⟩) [x].length 1) [x].length (nums .i64 [x]) :=
    ⟨rfl, .inr ⟨W.heap.size, 1, #[.int .i64 x], rfl, Nat.zero_le _, blk_new W _, by simp, by unfold maxLen; omega, rfl, rfl⟩⟩
  exact Kd.C_of_reads (own_reads' h)

structure Awake (w : World) (e : Ending) (w' : World) : Prop where
  ret : e = .returned (.bool true)
  below : Below w.heap.size w w'

set_option maxRecDepth 100000 in
set_option maxHeartbeats 1000000 in
theorem awake_calls (w : World) : Calls Try.prog 13 #[] w (Awake w) := by
  go_enter Try.func13, Try.ntmps13
  go_wp2_with fail
  refine (wnew w).mono ?_
  rintro e W1 ⟨F, p, rfl, h1, hB, hb1⟩
  have HW1 := Aside0.mk h1
  have HB := Aside0.mk hB
  have HT1 := Aside0.mk hb1
  clear h1 hB hb1
  go_wp2_with fail
  refine (wset HW1.out 5 2 (wf_of (by omega) (by omega)) (by omega) (by omega) (.inr (by omega)) (by omega) (by omega) (by omega) (by omega)).mono ?_
  rintro e W2 ⟨rfl, ⟨F2, h2, hF2⟩, ht2⟩
  have HW2 := Aside0.mk h2
  have HF2 := Aside0.mk hF2
  have HT2 := Aside0.mk ht2
  clear h2 hF2 ht2
  go_wp2_with fail
  refine (wset HW2.out 3 1 (wf_of (by omega) (by omega)) (by omega) (by omega) (.inr (by decide)) (by omega) (by omega) (by decide) (by omega)).mono ?_
  rintro e W3 ⟨rfl, ⟨F3, h3, hF3⟩, ht3⟩
  have HW3 : Aside0 (Whl W3 F3 p 0 dA 2 2) := Aside0.mk h3
  have HF3 := Aside0.mk hF3
  have HT3 := Aside0.mk ht3
  clear h3 hF3 ht3
  go_wp2_with fail
  refine (wlen HW3.out 2 rfl).mono ?_
  rintro e w' ⟨rfl, rfl⟩
  go_wp2_with fail
  refine (wtick_is HW3.out (by omega) (by omega) (by omega) [3] out1).mono ?_
  rintro e W4 ⟨⟨A4, c4, rfl, ho4⟩, h4, ht4⟩
  have HO4 := Aside0.mk ho4
  have HW4 := Aside0.mk h4
  have HT4 := Aside0.mk ht4
  clear ho4 h4 ht4
  go_wp2_with fail
  refine (wtick_is HW4.out (by omega) (by omega) (by omega) [5] out2).mono ?_
  rintro e W5 ⟨⟨A5, c5, rfl, ho5⟩, h5, ht5⟩
  have HO5 := Aside0.mk ho5
  have HW5 := Aside0.mk h5
  have HT5 := Aside0.mk ht5
  clear ho5 h5 ht5
  go_wp2_with fail
  refine (wtick_is HW5.out (by omega) (by omega) (by omega) [] out3).mono ?_
  rintro e W6 ⟨⟨A6, c6, rfl, ho6⟩, h6, ht6⟩
  have HT6 := Aside0.mk ht6
  have HO5' := Aside0.mk (row_keeps HO5.out ht6 (fun k hk => HW4.out.lt k hk))
  have HO4' := Aside0.mk (row_keeps (row_keeps HO4.out HT5.out (fun k hk => HW3.out.lt k hk)) ht6 (fun k hk => HW3.out.lt k hk))
  have HBB : Aside0 (Below w.heap.size w W6) := ⟨by
    have k1 := HT1.out
    have hF : ∀ k, F k → w.heap.size ≤ k := HB.out
    have s1 := k1.size
    have hF2' : ∀ k, F2 k → w.heap.size ≤ k := fun k hk => (HF2.out k hk).elim (hF k) (fun h => by omega)
    have s2 := HT2.out.size
    have hF3' : ∀ k, F3 k → w.heap.size ≤ k := fun k hk => (HF3.out k hk).elim (hF2' k) (fun h => by omega)
    have s3 := HT3.out.size
    have s4 := HT4.out.size
    have s5 := HT5.out.size
    exact below_tr (below_tr (below_tr (below_tr (below_tr k1 (HT2.out.below s1 hF)) (HT3.out.below (by omega) hF2')) (HT4.out.below (by omega) hF3')) (HT5.out.below (by omega) hF3')) (ht6.below (by omega) hF3')⟩
  clear ho6 h6 ht6
  go_wp2_with fail
  have hb7 := below_alloc (Below.refl W6.heap.size W6) (.cells #[.int .i64 3] 3)
  have hb7w : Below w.heap.size w (W6.alloc (.cells #[.int .i64 3] 3)) := below_then HBB.out HBB.out.size hb7
  have x4 : Kd.C (Kd.int .i64) (W6.alloc (.cells #[.int .i64 3] 3)) A4 [3].length [3] := Kd.C_of_reads (own_reads' (own_alloc HO4'.out (.cells #[.int .i64 3] 3)))
  refine (PWheelPlays.ploverref01_SameInts.calls 3 A4 c4 [3] (some ⟨W6.heap.size, 0, none⟩) 1 [3] true _ x4 (own_le HO4'.out) (C_one W6 3) (by simp) (by kernel_rfl)).mono ?_
  rintro e W7 ⟨rfl, ⟨⟨m7, rfl⟩⟩⟩
  have HB8 : Aside0 (Below w.heap.size w ((W6.alloc (.cells #[.int .i64 3] 3)).drewN m7)) := ⟨pw_below_drewN hb7w m7⟩
  have HO6 : Aside0 (((W6.alloc (.cells #[.int .i64 3] 3)).drewN m7).ownsRow W4.heap.size 3 1 (Value.slice A5 [5].length c5) [5].length (nums IntKind.i64 [5])) := ⟨pw_own_drewN (own_alloc HO5'.out _) m7⟩
  clear hb7 hb7w x4
  generalize (W6.alloc (.cells #[.int .i64 3] 3)).drewN m7 = W8 at *
  go_wp2_with fail
  have hb9 : Below w.heap.size w (W8.alloc (.cells #[.int .i64 5] 3)) := below_then HB8.out HB8.out.size (below_alloc (Below.refl _ _) _)
  have x5 : Kd.C (Kd.int .i64) (W8.alloc (.cells #[.int .i64 5] 3)) A5 [5].length [5] := Kd.C_of_reads (own_reads' (own_alloc HO6.out (.cells #[.int .i64 5] 3)))
  refine (PWheelPlays.ploverref01_SameInts.calls 3 A5 c5 [5] (some ⟨W8.heap.size, 0, none⟩) 1 [5] true _ x5 (own_le HO6.out) (C_one W8 5) (by simp) (by kernel_rfl)).mono ?_
  rintro e W7 ⟨rfl, ⟨⟨m9, rfl⟩⟩⟩
  have HB9 := Aside0.mk (pw_below_drewN hb9 m9)
  clear x5 hb9
  go_wp2_with fail
  go_ret
  exact ⟨rfl, HB9.out⟩

end Go.Proofs.Ytncmkcdnlcmiaaa.Wh
