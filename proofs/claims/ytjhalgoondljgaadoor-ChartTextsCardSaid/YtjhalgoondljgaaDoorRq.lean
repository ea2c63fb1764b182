/- The reference's number, length, read, Take, Only, Of in plain words. -/
import Derived.Test.YtjhalgoondljgaaDoorRp
import Derived.Test.YtjhalgoondljgaaDoorXh
namespace Go.Proofs.YtjhalgoondljgaaDoor.Re
open Go.Lib (decDigits itoa_length_le itoa_nonneg)
open Go.RowKit PChartTexts Ch Go.Proofs.YtjhalgoondljgaaDoorW.PrintWords Go.Proofs.YtjhalgoondljgaaDoorW.PrintLast Go.Proofs.YtjhalgoondljgaaDoorW.PrintMore Base
set_option linter.unusedVariables false
set_option linter.unusedSimpArgs false

theorem Evr.ite {α : Type} {f g : Nat → Option α} {P : α → Prop} {c : Prop} [Decidable c] (h1 : c → Evr f P) (h2 : ¬ c → Evr g P) : Evr (fun k => if c then f k else g k) P := by
  by_cases h : c
  · exact Evr.congr (h1 h) (fun k => if_pos h)
  · exact Evr.congr (h2 h) (fun k => if_neg h)

theorem number_tot (s : ByteArray) (hs : s.size ≤ 100000) (x6 x7 : Int) (h7 : 0 ≤ x7) : ∀ (m : Nat) (x5 x8 : Int), x7 ≤ x5 → x5 + m = s.size → Evr (fun k => ploverref02_number.l0 k s x5 x6 x7 x8) (fun r => r.2.2 = 0 → 0 < r.2.1 ∧ r.2.1 ≤ s.size) := by
  intro m
  induction m with
  | zero =>
    intro x5 x8 h5 hm
    refine Evr.bump 1 ?_ (fun k => ploverref02_number.l0.eq_2 _ _ _ _ _ k)
    refine Evr.ite (fun h => Evr.some (fun h => absurd h (by decide))) (fun h => absurd (by omega) h)
  | succ m ih =>
    intro x5 x8 h5 hm
    have hw : wrap64 (x5 + 1) = x5 + 1 := w64 _ (by omega) (by omega)
    have H4 : ∀ x9 b, Evr (fun k => ploverref02_number.j4 k s x5 x6 x7 x8 x9 b) (fun r => r.2.2 = 0 → 0 < r.2.1 ∧ r.2.1 ≤ s.size) := by
      intro x9 b
      refine Evr.bump 1 ?_ (fun k => ploverref02_number.j4.eq_2 _ _ _ _ _ _ _ k)
      rw [hw]
      repeat' first
        | exact Evr.some (fun h => absurd h (by decide))
        | exact ih _ _ (by omega) (by omega)
        | refine Evr.ite (fun h => ?_) (fun h => ?_)
    have H3 : ∀ x9 b, Evr (fun k => ploverref02_number.j3 k s x5 x6 x7 x8 x9 b) (fun r => r.2.2 = 0 → 0 < r.2.1 ∧ r.2.1 ≤ s.size) := by
      intro x9 b
      refine Evr.bump 1 ?_ (fun k => ploverref02_number.j3.eq_2 _ _ _ _ _ _ _ k)
      rw [hw]
      repeat' first
        | exact Evr.some (fun h => by show 0 < x5 + 1 ∧ x5 + 1 ≤ _; omega)
        | exact H4 _ _
        | refine Evr.ite (fun h => ?_) (fun h => ?_)
        | (exfalso; omega)
    refine Evr.bump 1 ?_ (fun k => ploverref02_number.l0.eq_2 _ _ _ _ _ k)
    repeat' first
      | exact Evr.some (fun h => absurd h (by decide))
      | exact H3 _ _
      | refine Evr.ite (fun h => ?_) (fun h => ?_)
      | (exfalso; omega)
theorem number_f_tot (s : ByteArray) (hs : s.size ≤ 100000) : Evr (fun k => ploverref02_number.f k s) (fun r => r.2.2 = 0 → 0 < r.2.1 ∧ r.2.1 ≤ s.size) := by
  have H1 : ∀ x5 x6 : Int, 0 ≤ x5 → x5 ≤ s.size → Evr (fun k => ploverref02_number.j1 k s x5 x6) (fun r => r.2.2 = 0 → 0 < r.2.1 ∧ r.2.1 ≤ s.size) := fun x5 x6 h0 h1 =>
    Evr.bump 1 (number_tot s hs x6 x5 h0 (s.size - x5.toNat) x5 0 (by omega) (by omega)) (fun k => ploverref02_number.j1.eq_2 _ _ _ k)
  have H0 : ∀ b, (b = true → 0 < s.size) → Evr (fun k => ploverref02_number.j0 k s 0 1 b) (fun r => r.2.2 = 0 → 0 < r.2.1 ∧ r.2.1 ≤ s.size) := fun b hb => by
    refine Evr.bump 1 ?_ (fun k => ploverref02_number.j0.eq_2 _ _ _ _ k)
    refine Evr.ite (fun h => H1 _ _ (by omega) (by have := hb h; omega)) (fun h => H1 _ _ (by omega) (by omega))
  unfold ploverref02_number.f
  refine Evr.ite (fun h => Evr.ite (fun h => H0 _ (fun _ => by omega)) (fun h' => absurd (by omega) h')) (fun h => H0 _ (fun h => by cases h))

theorem length_tot (s : ByteArray) (hs : s.size ≤ 100000) : ∀ (m : Nat) (x5 x6 : Int), 0 ≤ x5 → x5 ≤ 65536 → 0 ≤ x6 → x6 + m = s.size → Evr (fun k => ploverref02_length.l0 k s x5 x6) (fun r => r.2.2 = 0 → (0 ≤ r.1 ∧ r.1 ≤ 65536) ∧ 0 < r.2.1 ∧ r.2.1 ≤ s.size) := by
  intro m
  induction m with
  | zero =>
    intro x5 x6 h5 h5' h6 hm
    refine Evr.bump 1 ?_ (fun k => ploverref02_length.l0.eq_2 _ _ _ k)
    refine Evr.ite (fun h => absurd h (by omega)) (fun h => Evr.some (fun h => absurd h (by decide)))
  | succ m ih =>
    intro x5 x6 h5 h5' h6 hm
    have hw : wrap64 (x6 + 1) = x6 + 1 := w64 _ (by omega) (by omega)
    have H2 : ∀ x7 b, Evr (fun k => ploverref02_length.j2 k s x5 x6 x7 b) (fun r => r.2.2 = 0 → (0 ≤ r.1 ∧ r.1 ≤ 65536) ∧ 0 < r.2.1 ∧ r.2.1 ≤ s.size) := by
      intro x7 b
      refine Evr.bump 1 ?_ (fun k => ploverref02_length.j2.eq_2 _ _ _ _ _ k)
      have hn : wrap64 (wrap64 (10 * x5) + (x7 - 48) % 256) = 10 * x5 + (x7 - 48) % 256 := by
        rw [w64 (10 * x5) (by omega) (by omega)]
        exact w64 _ (by omega) (by omega)
      rw [hw, hn]
      refine Evr.ite (fun h => Evr.some (fun h => absurd h (by decide))) (fun h => Evr.ite (fun h => Evr.some (fun h => absurd h (by decide))) (fun h => ih _ _ (by omega) (by omega) (by omega) (by omega)))
    have H1 : ∀ x7 b, Evr (fun k => ploverref02_length.j1 k s x5 x6 x7 b) (fun r => r.2.2 = 0 → (0 ≤ r.1 ∧ r.1 ≤ 65536) ∧ 0 < r.2.1 ∧ r.2.1 ≤ s.size) := by
      intro x7 b
      refine Evr.bump 1 ?_ (fun k => ploverref02_length.j1.eq_2 _ _ _ _ _ k)
      rw [hw]
      repeat' first
        | exact Evr.some (fun h => by show (0 ≤ x5 ∧ x5 ≤ 65536) ∧ 0 < x6 + 1 ∧ x6 + 1 ≤ _; omega)
        | exact H2 _ _
        | refine Evr.ite (fun h => ?_) (fun h => ?_)
        | (exfalso; omega)
    refine Evr.bump 1 ?_ (fun k => ploverref02_length.l0.eq_2 _ _ _ k)
    repeat' first
      | exact H1 _ _
      | refine Evr.ite (fun h => ?_) (fun h => ?_)
      | (exfalso; omega)

/-- What may be read out of a text of so many bytes. -/
def RdP (n : Nat) (r : Int × Int × ByteArray × (List S36) × Int × Int) : Prop := r.2.2.2.2.2 = 0 → 0 < r.2.2.2.2.1 ∧ r.2.2.2.2.1 ≤ n ∧ r.2.2.2.1.length ≤ n ∧ ∀ x ∈ r.2.2.2.1, x.f3.length ≤ n
theorem read_tot : ∀ (N : Nat) (s : ByteArray) (x1 : Int), s.size ≤ N → N ≤ 100000 → 0 ≤ x1 → x1 ≤ 8 → Evr (fun k => ploverref02_read.f k s x1) (RdP s.size) := by
  intro N
  induction N with
  | zero =>
    intro s x1 hs hN h1 h8
    refine Evr.bump 1 ?_ (fun k => ploverref02_read.f.eq_2 _ _ k)
    refine Evr.ite (fun h => Evr.some (fun h => absurd h (by decide))) (fun h => absurd (by omega) h)
  | succ N ihN =>
    intro s x1 hs hN h1 h8
    have HL : ∀ (m : Nat) (x15 : Int) (L : List S36), x1 < 8 → 0 < x15 → x15 + m = s.size → L.length ≤ x15 → (∀ x ∈ L, x.f3.length ≤ s.size) → Evr (fun k => ploverref02_read.l0 k s x1 x15 3 0 ⟨#[]⟩ L) (RdP s.size) := by
      intro m
      induction m using Nat.strongRecOn with
      | _ m ih =>
        intro x15 L hlt h15 hm hL hx
        have H3 : ∀ b, (b = true → x15 < s.size) → Evr (fun k => ploverref02_read.j3 k s x1 x15 b 3 0 ⟨#[]⟩ L) (RdP s.size) := by
          intro b hb
          refine Evr.bump 1 ?_ (fun k => ploverref02_read.j3.eq_2 _ _ _ _ _ _ _ _ k)
          have hw : wrap64 (x1 + 1) = x1 + 1 := w64 _ (by omega) (by omega)
          rw [hw]
          refine Evr.ite (fun h => Evr.some (fun _ => ?_)) (fun h => ?_)
          · have hb' := hb h
            rw [w64 _ (by omega) (by omega)]
            refine ⟨?_, ?_, ?_, hx⟩
            · show 0 < x15 + 1; omega
            · show x15 + 1 ≤ _; omega
            · show L.length ≤ _; omega
          refine Evr.ite (fun h0 => ?_) (fun h0 => absurd (by omega) h0)
          refine Evr.ite (fun h1' => ?_) (fun h1' => absurd (by omega) h1')
          have hsz : (s.extract x15.toNat s.size).size = s.size - x15.toNat := by
            rw [ByteArray.size_extract]; omega
          refine Evr.bind (ihN (s.extract x15.toNat s.size) (x1 + 1) (by rw [hsz]; omega) (by omega) (by omega) (by omega)) (fun r hr => ?_)
          obtain ⟨r1, r2, r3, r4, r5, r6⟩ := r
          refine Evr.ite (fun h6 => ?_) (fun h6 => Evr.some (fun h => absurd h h6))
          obtain ⟨p1, p2, p3, p4⟩ := hr h6
          rw [hsz] at p2 p3 p4
          simp only [] at p1 p2 p3 p4
          refine Evr.ite (fun h7 => ?_) (fun h7 => absurd (by omega) h7)
          show Evr (fun k => ploverref02_read.l0 k s x1 (wrap64 (x15 + r5)) 3 0 ⟨#[]⟩ (L ++ [⟨r1, r2, r3, r4⟩])) _
          rw [w64 (x15 + r5) (by omega) (by omega)]
          refine ih (m - r5.toNat) (by omega) (x15 + r5) _ hlt (by omega) (by omega) (by simp; omega) (fun x hx' => ?_)
          rcases List.mem_append.1 hx' with hx' | hx'
          · exact hx x hx'
          · rw [List.mem_singleton] at hx'
            subst hx'
            show r4.length ≤ _
            omega
        refine Evr.bump 1 ?_ (fun k => ploverref02_read.l0.eq_2 _ _ _ _ _ _ _ k)
        refine Evr.ite (fun h => Evr.ite (fun h' => H3 _ (fun _ => h)) (fun h' => absurd (by omega) h')) (fun h => H3 _ (fun h' => by cases h'))
    refine Evr.bump 1 ?_ (fun k => ploverref02_read.f.eq_2 _ _ k)
    refine Evr.ite (fun h => Evr.some (fun h => absurd h (by decide))) (fun hs0 => ?_)
    refine Evr.ite (fun hp => ?_) (fun h => absurd (by omega) h)
    have H1 : ∀ x7 b, (b = decide (x1 ≥ 8) ∨ ¬ x7 = 108) → Evr (fun k => ploverref02_read.j1 k s x1 x7 b) (RdP s.size) := by
      intro x7 b hb
      refine Evr.bump 1 ?_ (fun k => ploverref02_read.j1.eq_2 _ _ _ _ k)
      refine Evr.ite (fun h => Evr.some (fun h => absurd h (by decide))) (fun h => ?_)
      refine Evr.ite (fun h108 => ?_) (fun h => Evr.some (fun h => absurd h (by decide)))
      have hx8 : x1 < 8 := by
        rcases hb with hb | hb
        · subst hb
          have h' : ¬ x1 ≥ 8 := of_decide_eq_false (by simpa using h)
          omega
        · exact absurd h108 hb
      exact HL (s.size - 1) 1 [] hx8 (by omega) (by omega) (by simp) (fun x hx => by simp at hx)
    have H0 : ∀ x7 b, Evr (fun k => ploverref02_read.j0 k s x1 x7 b) (RdP s.size) := by
      intro x7 b
      refine Evr.bump 1 ?_ (fun k => ploverref02_read.j0.eq_2 _ _ _ _ k)
      refine Evr.ite (fun h => ?_) (fun h => Evr.ite (fun h => H1 _ _ (.inl rfl)) (fun h => H1 _ _ (.inr h)))
      unfold ploverref02_length.f
      refine Evr.bind (length_tot s (by omega) s.size 0 0 (by omega) (by omega) (by omega) (by omega)) (fun r hr => ?_)
      obtain ⟨r1, r2, r3⟩ := r
      refine Evr.ite (fun h3 => ?_) (fun h3 => Evr.some (fun h => absurd h h3))
      obtain ⟨⟨p1, p2⟩, p3, p4⟩ := hr h3
      simp only [] at p1 p2 p3 p4
      rw [w64 ((s.size : Int) - r2) (by omega) (by omega), w64 (r2 + r1) (by omega) (by omega)]
      dsimp only
      refine Evr.ite (fun h => Evr.some (fun h => absurd h (by decide))) (fun h => ?_)
      refine Evr.ite (fun h => ?_) (fun h => absurd (by omega) h)
      refine Evr.ite (fun h => ?_) (fun h => absurd (by omega) h)
      refine Evr.ite (fun h => ?_) (fun h => absurd (by omega) h)
      refine Evr.some (fun _ => ⟨?_, ?_, by simp, fun x hx => by simp at hx⟩)
      · show 0 < r2 + r1; omega
      · show r2 + r1 ≤ _; omega
    refine Evr.ite (fun h => ?_) (fun h => ?_)
    · refine Evr.ite (fun h => ?_) (fun h => absurd (by omega) h)
      have hsz : (s.extract 1 s.size).size = s.size - 1 := by rw [ByteArray.size_extract]; omega
      refine Evr.bind (number_f_tot (s.extract 1 s.size) (by rw [hsz]; omega)) (fun r hr => Evr.some (fun h3 => ?_))
      obtain ⟨p1, p2⟩ := hr h3
      rw [hsz] at p2
      refine ⟨?_, ?_, by simp, fun x hx => by simp at hx⟩
      · show 0 < wrap64 (r.2.1 + 1)
        rw [w64 _ (by omega) (by omega)]; omega
      · show wrap64 (r.2.1 + 1) ≤ _
        rw [w64 _ (by omega) (by omega)]; omega
    · exact Evr.ite (fun h => H0 _ _) (fun h => H0 _ _)

/-! ### a value that lies there -/
theorem Pl.bt_ {s : ByteArray} {a : Nat} {L : List UInt8} (h : Pl s a L) (i : Nat) (hi : i < L.length) : bt s ((a + i : Nat) : Int) = (L[i].toNat : Int) := by
  have hz := h.size
  unfold bt
  rw [dif_pos (by rw [Int.toNat_natCast]; omega)]
  have := h.at_ i hi (by omega)
  rw [← this]
  rfl
theorem Pl.cut {s : ByteArray} {a : Nat} {L : List UInt8} (h : Pl s a L) : Pl (s.extract a s.size) 0 L := by
  obtain ⟨P, Q, e, r⟩ := h
  refine ⟨[], Q, ?_, rfl⟩
  have : (s.extract a s.size).data.toList = s.data.toList.drop a := by
    rw [ByteArray.data_extract, Array.toList_extract]
    have hz : s.size = s.data.toList.length := (Array.length_toList (xs := s.data)).symm
    rw [List.extract_eq_take_drop, hz, List.take_of_length_le (by simp)]
  rw [this, e, List.nil_append, List.append_assoc, List.drop_append_of_le_length (by omega), List.drop_of_length_le (by omega), List.nil_append]

theorem number_l0_ok (s : ByteArray) (n : Nat) (hP : Pl s 0 (decDigits n ++ [101])) (hn : n ≤ 1099511627776) (hs : s.size ≤ 100000) : ∀ (m k : Nat), k + m = (decDigits n).length →
    Evr (fun j => ploverref02_number.l0 j s (k : Int) 1 0 (vl ((decDigits n).take k) : Nat)) (fun r => r = ((n : Int), ((decDigits n).length : Int) + 1, 0)) := by
  obtain ⟨D, hD⟩ : ∃ D, decDigits n = D := ⟨_, rfl⟩
  obtain ⟨d1, d2, d3, d4, d5⟩ := dec_ok n
  rw [hD] at d1 d2 d3 d4 d5 hP ⊢
  have hz := hP.size
  simp at hz
  have hb0 : 1 < D.length → ¬ bt s 0 = 48 := fun h1 => by
    have e := hP.left.bt_ 0 d3
    simp at e
    rw [e]
    intro h48
    have h48' : D[0].toNat = 48 := by omega
    refine d4 (Nat.pos_of_ne_zero (fun h0 => ?_)) _ (List.head?_eq_getElem?.trans (List.getElem?_eq_getElem d3)) h48'
    have := d5 (by omega)
    omega
  intro m
  induction m with
  | zero =>
    intro k hk
    have e101 : bt s (k : Int) = 101 := by
      have := hP.right.bt_ 0 (by simp)
      simp at this
      rw [show k = D.length by omega]
      exact this
    have ev : vl (D.take k) = n := by rw [List.take_of_length_le (by omega), d2]
    refine Evr.bump 1 ?_ (fun j => ploverref02_number.l0.eq_2 _ _ _ _ _ j)
    refine Evr.ite (fun h => absurd h (by omega)) (fun _ => Evr.ite (fun _ => Evr.ite (fun _ => Evr.ite (fun _ => ?_) (fun h => absurd e101 h)) (fun h => absurd (by omega) h)) (fun h => absurd (by omega) h))
    refine Evr.bump 1 ?_ (fun j => ploverref02_number.j3.eq_2 _ _ _ _ _ _ _ j)
    refine Evr.ite (fun _ => Evr.some ?_) (fun h => absurd (decide_eq_true (by omega)) h)
    rw [w64 _ (by omega) (by omega), ev]
    have : (k : Int) = D.length := by omega
    rw [this]
  | succ m ih =>
    intro k hk
    have hkD : k < D.length := by omega
    have hbk : k = 0 ∨ (bt s 0 == 48) = false := by
      by_cases hk0 : k = 0
      · exact .inl hk0
      · exact .inr (beq_eq_false_iff_ne.2 (hb0 (by omega)))
    obtain ⟨c, hc⟩ : ∃ c : Nat, D[k].toNat = c := ⟨_, rfl⟩
    have ebt : bt s (k : Int) = (c : Int) := by
      have := hP.left.bt_ k hkD
      simp at this
      rw [this, hc]
    obtain ⟨hc1, hc2⟩ := d1 _ (List.getElem_mem hkD)
    rw [hc] at hc1 hc2
    have hvs := vl_succ D k hkD
    rw [hc] at hvs
    have hbd := vl_take D (k + 1)
    rw [d2] at hbd
    have hih := ih (k + 1) (by omega)
    rw [hvs] at hih
    obtain ⟨x, hx⟩ : ∃ x, vl (D.take k) = x := ⟨_, rfl⟩
    rw [hx] at hih hvs ⊢
    have e1 : ((c : Int) - 48) % 256 = (c : Int) - 48 := by omega
    have e2 : wrap64 (1 * ((c : Int) - 48)) = (c : Int) - 48 := by rw [w64 _ (by omega) (by omega)]; omega
    have e3 : wrap64 (10 * (x : Int)) = 10 * (x : Int) := w64 _ (by omega) (by omega)
    have e4 : wrap64 (9223372036854775807 - ((c : Int) - 48)) = 9223372036854775807 - ((c : Int) - 48) := w64 _ (by omega) (by omega)
    have e5 : wrap64 (10 * (x : Int) + ((c : Int) - 48)) = ((10 * x + (c - 48) : Nat) : Int) := by rw [w64 _ (by omega) (by omega)]; omega
    have e6 : wrap64 ((k : Int) + 1) = ((k + 1 : Nat) : Int) := by rw [w64 _ (by omega) (by omega)]; omega
    have H4 : Evr (fun j => ploverref02_number.j4 j s (k : Int) 1 0 (x : Int) (c : Int) false) (fun r => r = ((n : Int), (D.length : Int) + 1, 0)) := by
      refine Evr.bump 1 ?_ (fun j => ploverref02_number.j4.eq_2 _ _ _ _ _ _ _ j)
      rw [e1, e2, e3, e4, e5, e6]
      with_reducible refine Evr.ite (fun h => ?_) (fun _ => ?_)
      · exact absurd h (by decide)
      with_reducible refine Evr.ite (fun h => ?_) (fun _ => ?_)
      · exfalso; omega
      with_reducible refine Evr.ite (fun h => ?_) (fun _ => ?_)
      · exfalso; omega
      with_reducible refine Evr.ite (fun _ => ?_) (fun h => ?_)
      · with_reducible refine Evr.ite (fun h => ?_) (fun _ => ?_)
        · exfalso; omega
        with_reducible refine Evr.ite (fun h => ?_) (fun _ => ?_)
        · exfalso; omega
        with_reducible exact hih
      · exfalso; omega
    have H3 : Evr (fun j => ploverref02_number.j3 j s (k : Int) 1 0 (x : Int) (c : Int) false) (fun r => r = ((n : Int), (D.length : Int) + 1, 0)) := by
      refine Evr.bump 1 ?_ (fun j => ploverref02_number.j3.eq_2 _ _ _ _ _ _ _ j)
      have hlast : Evr (fun j => ploverref02_number.j4 j s (k : Int) 1 0 (x : Int) (c : Int) (bt s 0 == 48)) (fun r => r = ((n : Int), (D.length : Int) + 1, 0)) ∨ k = 0 := by
        rcases hbk with hk0 | hbk
        · exact .inr hk0
        · left
          rw [hbk]
          exact H4
      clear e1 e2 e3 e4 e5 e6 hih hx hbd hvs ih
      repeat' first
        | with_reducible exact H4
        | (with_reducible refine hlast.resolve_right ?_; omega)
        | (with_reducible refine Evr.ite (fun h => ?_) (fun h => ?_))
        | (exfalso; omega)
        | (exfalso; cases ‹false = true›)
    refine Evr.bump 1 ?_ (fun j => ploverref02_number.l0.eq_2 _ _ _ _ _ j)
    rw [ebt]
    clear e1 e2 e3 e4 e5 e6 hih H4 hx hbd hvs ih hbk hb0 ebt
    with_reducible refine Evr.ite (fun h => ?_) (fun _ => ?_)
    · exfalso; omega
    with_reducible refine Evr.ite (fun _ => ?_) (fun h => ?_)
    · with_reducible refine Evr.ite (fun _ => ?_) (fun h => ?_)
      · with_reducible refine Evr.ite (fun h => ?_) (fun _ => ?_)
        · exfalso; omega
        with_reducible exact H3
      · exfalso; omega
    · exfalso; omega
theorem number_f_ok (s : ByteArray) (n : Nat) (hP : Pl s 0 (decDigits n ++ [101])) (hn : n ≤ 1099511627776) (hs : s.size ≤ 100000) :
    Evr (fun j => ploverref02_number.f j s) (fun r => r = ((n : Int), ((decDigits n).length : Int) + 1, 0)) := by
  obtain ⟨d1, d2, d3, d4, d5⟩ := dec_ok n
  have hz := hP.size
  simp at hz
  have h45 : (bt s 0 == 45) = false := by
    have e := hP.left.bt_ 0 d3
    simp at e
    rw [e]
    have := d1 _ (List.getElem_mem d3)
    exact beq_eq_false_iff_ne.2 (by omega)
  have h0 := number_l0_ok s n hP hn hs (decDigits n).length 0 (by omega)
  have hz0 : vl ((decDigits n).take 0) = 0 := by simp [vl]
  rw [hz0] at h0
  have H1 := Evr.bump (f := fun j => ploverref02_number.j1 j s 0 1) 1 h0 (fun k => ploverref02_number.j1.eq_2 _ _ _ k)
  unfold ploverref02_number.f
  rw [h45]
  refine Evr.ite (fun _ => Evr.ite (fun _ => ?_) (fun h => absurd (by omega) h)) (fun h => absurd (by omega) h)
  refine Evr.bump 1 ?_ (fun k => ploverref02_number.j0.eq_2 _ _ _ _ k)
  exact Evr.ite (fun h => by cases h) (fun _ => H1)
theorem S36_eta (x : S36) : (⟨x.f0, x.f1, x.f2, x.f3⟩ : S36) = x := by cases x; rfl
theorem read_ok : ∀ (d : Nat) (v : V), Good d v → ∀ (s : ByteArray) (x1 : Int), Pl s 0 (enc v) → s.size ≤ 100000 → 0 ≤ x1 → x1 + d ≤ 8 →
    Evr (fun k => ploverref02_read.f k s x1) (fun r => r = ((toS v).f0, (toS v).f1, (toS v).f2, (toS v).f3, ((enc v).length : Int), 0))
  | d, .num n, hg, s, x1, hP, hs, h1, h8 => by
    cases hg with
    | num _ n hn =>
      rw [enc] at hP ⊢
      have hz := hP.size
      simp at hz
      have e0 : bt s 0 = 105 := by
        have := hP.bt_ 0 (by simp)
        simpa using this
      have hP2 : Pl s 1 (decDigits n ++ [101]) := Pl.right (L := [105]) (M := decDigits n ++ [101]) (by simpa using hP)
      have hsz : (s.extract 1 s.size).size = s.size - 1 := by rw [ByteArray.size_extract]; omega
      refine Evr.bump 1 ?_ (fun k => ploverref02_read.f.eq_2 _ _ k)
      refine Evr.ite (fun h => absurd h (by omega)) (fun _ => Evr.ite (fun _ => ?_) (fun h => absurd (by omega) h))
      rw [e0]
      refine Evr.ite (fun _ => Evr.ite (fun _ => ?_) (fun h => absurd (by omega) h)) (fun h => absurd rfl h)
      refine Evr.bind (number_f_ok _ n hP2.cut hn (by rw [hsz]; omega)) (fun r hr => ?_)
      subst hr
      refine Evr.some ?_
      dsimp only [toS]
      rw [w64 _ (by omega) (by omega)]
      have : ((105 :: (decDigits (n : Int).toNat ++ [101])).length : Int) = ((decDigits n).length : Int) + 1 + 1 := by simp
      rw [this]
  | d, .str t, hg, _, _, _, _, _, _ => by cases hg
  | d, .list l, hg, s, x1, hP, hs, h1, h8 => by
    cases hg with
    | list d l hl =>
      rw [enc_list] at hP ⊢
      have hz := hP.size
      simp at hz
      have e0 : bt s 0 = 108 := by
        have := hP.bt_ 0 (by simp)
        simpa using this
      have hP2 : Pl s 1 (encs l ++ [101]) := Pl.right (L := [108]) (M := encs l ++ [101]) (by simpa using hP)
      have hll := encs_len l hl
      have HL : ∀ (m i : Nat), i + m = l.length → Evr (fun k => ploverref02_read.l0 k s x1 ((1 + (encs (l.take i)).length : Nat) : Int) 3 0 ⟨#[]⟩ (toSs (l.take i))) (fun r => r = ((3 : Int), (0 : Int), (⟨#[]⟩ : ByteArray), toSs l, ((encs l).length : Int) + 2, (0 : Int))) := by
        intro m
        induction m with
        | zero =>
          intro i hi
          have e : l.take i = l := by rw [List.take_of_length_le (by omega)]
          rw [e]
          have e101 : bt s ((1 + (encs l).length : Nat) : Int) = 101 := by
            have := hP2.right.bt_ 0 (by simp)
            simpa using this
          refine Evr.bump 1 ?_ (fun k => ploverref02_read.l0.eq_2 _ _ _ _ _ _ _ k)
          rw [e101]
          refine Evr.ite (fun _ => Evr.ite (fun _ => ?_) (fun h => absurd (by omega) h)) (fun h => absurd (by omega) h)
          refine Evr.bump 1 ?_ (fun k => ploverref02_read.j3.eq_2 _ _ _ _ _ _ _ _ k)
          refine Evr.ite (fun _ => Evr.some ?_) (fun h => absurd (by decide) h)
          rw [w64 _ (by omega) (by omega)]
          have : (((1 + (encs l).length : Nat) : Int) + 1) = ((encs l).length : Int) + 2 := by omega
          rw [this]
        | succ m ih =>
          intro i hi
          have hin : i < l.length := by omega
          have hsp := encs_split l i hin
          have hspl := congrArg List.length hsp
          simp only [List.length_append] at hspl
          have hPn : Pl s (1 + (encs (l.take i)).length) (enc l[i]) := by
            have h1 := hP2
            rw [hsp] at h1
            exact (Pl.right (L := encs (l.take i)) (M := enc l[i] ++ (encs (l.drop (i + 1)) ++ [101])) (by simpa using h1)).left
          have hgi := hl _ (List.getElem_mem hin)
          obtain ⟨c, rest, hhe, hhd⟩ := hgi.head
          have hpos : 0 < (enc l[i]).length := by rw [hhe]; simp
          have hbt : ¬ bt s ((1 + (encs (l.take i)).length : Nat) : Int) = 101 := by
            have := hPn.bt_ 0 hpos
            rw [Nat.add_zero] at this
            rw [this]
            have e : (enc l[i])[0] = c := by simp [hhe]
            rw [e]
            rcases hhd with rfl | rfl <;> decide
          have hb : (bt s ((1 + (encs (l.take i)).length : Nat) : Int) == 101) = false := beq_eq_false_iff_ne.2 hbt
          have hih := ih (i + 1) (by omega)
          rw [encs_succ l i hin, List.length_append] at hih
          have hts : toSs (l.take (i + 1)) = toSs (l.take i) ++ [toS l[i]] := by
            have ht : l.take (i + 1) = l.take i ++ [l[i]] := (List.take_append_getElem hin).symm
            rw [ht, toSs_map, toSs_map, List.map_append]
            rfl
          rw [hts] at hih
          obtain ⟨p, hp⟩ : ∃ p, 1 + (encs (l.take i)).length = p := ⟨_, rfl⟩
          rw [hp] at hPn hb ⊢
          have hzn := hPn.size
          have hsz : (s.extract p s.size).size = s.size - p := by rw [ByteArray.size_extract]; omega
          refine Evr.bump 1 ?_ (fun k => ploverref02_read.l0.eq_2 _ _ _ _ _ _ _ k)
          rw [hb]
          have H3 : Evr (fun k => ploverref02_read.j3 k s x1 (p : Int) false 3 0 ⟨#[]⟩ (toSs (l.take i))) (fun r => r = ((3 : Int), (0 : Int), (⟨#[]⟩ : ByteArray), toSs l, ((encs l).length : Int) + 2, (0 : Int))) := by
            refine Evr.bump 1 ?_ (fun k => ploverref02_read.j3.eq_2 _ _ _ _ _ _ _ _ k)
            rw [w64 (x1 + 1) (by omega) (by omega), Int.toNat_natCast]
            refine Evr.ite (fun h => by cases h) (fun _ => Evr.ite (fun _ => Evr.ite (fun _ => ?_) (fun h => absurd (by omega) h)) (fun h => absurd (by omega) h))
            refine Evr.bind (read_ok d l[i] hgi (s.extract p s.size) (x1 + 1) hPn.cut (by rw [hsz]; omega) (by omega) (by omega)) (fun r hr => ?_)
            subst hr
            dsimp only
            refine Evr.ite (fun _ => Evr.ite (fun _ => ?_) (fun h => absurd (by rw [toSs_length, List.length_take]; omega) h)) (fun h => absurd rfl h)
            rw [w64 _ (by omega) (by omega)]
            have e1 : ((p : Int) + ((enc l[i]).length : Int)) = ((1 + ((encs (l.take i)).length + (enc l[i]).length) : Nat) : Int) := by omega
            rw [e1, S36_eta]
            exact hih
          exact Evr.ite (fun _ => Evr.ite (fun _ => H3) (fun h => absurd (by omega) h)) (fun _ => H3)
      have H0 := HL l.length 0 (by omega)
      have hd8 : decide (x1 ≥ 8) = false := decide_eq_false (by omega)
      refine Evr.bump 1 ?_ (fun k => ploverref02_read.f.eq_2 _ _ k)
      rw [e0]
      refine Evr.ite (fun h => absurd h (by omega)) (fun _ => Evr.ite (fun _ => ?_) (fun h => absurd (by omega) h))
      refine Evr.ite (fun h => absurd h (by decide)) (fun _ => Evr.ite (fun _ => ?_) (fun h => absurd (by decide) h))
      refine Evr.bump 1 ?_ (fun k => ploverref02_read.j0.eq_2 _ _ _ _ k)
      refine Evr.ite (fun h => absurd h (by decide)) (fun _ => Evr.ite (fun _ => ?_) (fun h => absurd rfl h))
      rw [hd8]
      refine Evr.bump 1 ?_ (fun k => ploverref02_read.j1.eq_2 _ _ _ _ k)
      refine Evr.ite (fun h => absurd h (by decide)) (fun _ => Evr.ite (fun _ => ?_) (fun h => absurd rfl h))
      refine (Evr.congr H0 (fun k => ?_)).imp (fun r hr => ?_)
      · simp [encs, toSs]
      · rw [hr]
        dsimp only [toS]
        have : ((108 :: (encs l ++ [101])).length : Int) = ((encs l).length : Int) + 2 := by simp; omega
        rw [this]
end Go.Proofs.YtjhalgoondljgaaDoor.Re
