/- The reference's Only and Of in plain words. -/
import Derived.Test.YtjhalgoondljgaaDoorRq
import Derived.Test.YtjhalgoondljgaaDoorCo
namespace Go.Proofs.YtjhalgoondljgaaDoor.Re
open Go.Lib (decDigits itoa_length_le itoa_nonneg)
open Go.RowKit PChartTexts Ch Go.Proofs.YtjhalgoondljgaaDoorW.PrintWords Go.Proofs.YtjhalgoondljgaaDoorW.PrintLast Go.Proofs.YtjhalgoondljgaaDoorW.PrintMore Base
set_option linter.unusedVariables false
set_option linter.unusedSimpArgs false

theorem take_tot (s : ByteArray) (hs : s.size ≤ 100000) : Evr (fun k => ploverref02_Take.f k s) (RdP s.size) := by
  refine Evr.bind (read_tot s.size s 0 (Nat.le_refl _) hs (by omega) (by omega)) (fun r hr => ?_)
  refine Evr.ite (fun h => ?_) (fun h => Evr.some (fun h' => absurd h' h))
  refine Evr.ite (fun _ => Evr.some (fun h' => absurd h' (by decide))) (fun _ => Evr.some (fun _ => hr h))
theorem only_tot (s : ByteArray) (hs : s.size ≤ 100000) : Evr (fun k => ploverref02_Only.f k s) (fun r => r.2.2.2.1.length ≤ s.size ∧ ∀ x ∈ r.2.2.2.1, x.f3.length ≤ s.size) := by
  refine Evr.bind (take_tot s hs) (fun r hr => ?_)
  refine Evr.ite (fun h => ?_) (fun h => Evr.some ⟨by simp, fun x hx => by simp at hx⟩)
  exact Evr.ite (fun _ => Evr.some ⟨by simp, fun x hx => by simp at hx⟩) (fun _ => Evr.some ⟨(hr h).2.2.1, (hr h).2.2.2⟩)
theorem Pl.whole {s : ByteArray} {L : List UInt8} (h : s.data.toList = L) : Pl s 0 L := ⟨[], [], by rw [h]; simp, rfl⟩
theorem size_of {s : ByteArray} {L : List UInt8} (h : s.data.toList = L) : s.size = L.length := by
  rw [← h]
  exact (Array.length_toList (xs := s.data)).symm
theorem only_ok (d : Nat) (hd : d ≤ 8) (v : V) (hg : Good d v) (s : ByteArray) (h : s.data.toList = enc v) (hs : s.size ≤ 60000) :
    Evr (fun k => ploverref02_Only.f k s) (fun r => r = ((toS v).f0, (toS v).f1, (toS v).f2, (toS v).f3, 0)) := by
  have hz := size_of h
  refine Evr.bind (P := fun r => r = ((toS v).f0, (toS v).f1, (toS v).f2, (toS v).f3, ((enc v).length : Int), 0)) (Evr.bind (read_ok d v hg s 0 (Pl.whole h) (by omega) (by omega) (by omega)) (fun r hr => ?_)) (fun r hr => ?_)
  · subst hr
    exact Evr.ite (fun _ => Evr.ite (fun h => by exfalso; dsimp only at h; omega) (fun _ => Evr.some rfl)) (fun h => absurd rfl h)
  · subst hr
    exact Evr.ite (fun _ => Evr.ite (fun h => by exfalso; dsimp only at h; omega) (fun _ => Evr.some rfl)) (fun h => absurd rfl h)

def OfP (s : ByteArray) (ep : Int) (xs : List Int) (r : Int × List Int × Int) : Prop := (mayB ep xs = true ∧ chartT ep xs = s ∧ r = (ep, xs, 0)) ∨ (¬ (mayB ep xs = true ∧ chartT ep xs = s) ∧ r = (0, [], 20))
theorem rof_l0 (s : ByteArray) (a b : Int) (c : ByteArray) (L : List S36) (hL : L.length = 2) (ep : Int) (xs : List Int) (hxs : xs = ((rd_T36 L 1).f3).map (·.f1)) (hx : xs.length ≤ 100000) : ∀ (m i : Nat), i + m = xs.length →
    Evr (fun k => ploverref12_Of.l0 k s (i : Int) a b c L ep (xs.take i)) (OfP s ep xs)
  | 0, i, hi => by
    have e : xs.take i = xs := by rw [List.take_of_length_le (by omega)]
    have hlen : (rd_T36 L 1).f3.length = xs.length := by rw [hxs, List.length_map]
    rw [e]
    refine Evr.bump 1 ?_ (fun k => ploverref12_Of.l0.eq_2 _ _ _ _ _ _ _ _ k)
    refine Evr.ite (fun _ => ?_) (fun h => absurd (by omega) h)
    refine Evr.ite (fun h => absurd h (by rw [hlen]; omega)) (fun _ => ?_)
    cases hmay : mayB ep xs with
    | true =>
      refine Evr.bind (rtext_yes ep xs hmay) (fun r hr => ?_)
      subst hr
      refine Evr.ite (fun _ => Evr.ite (fun h => Evr.some (.inl ⟨hmay, ?_, rfl⟩)) (fun h => Evr.some (.inr ⟨?_, rfl⟩))) (fun h => absurd rfl h)
      · by_cases hts : chartT ep xs = s
        · exact hts
        · exact absurd h (bytes_ne hts)
      · rintro ⟨_, h'⟩
        rw [h'] at h
        exact h rfl
    | false =>
      refine Evr.bind (rtext_no ep xs (by omega) hmay) (fun r hr => ?_)
      subst hr
      exact Evr.ite (fun h => absurd h (by decide)) (fun _ => Evr.some (.inr ⟨fun h => by rw [hmay] at h; exact absurd h.1 (by decide), rfl⟩))
  | m + 1, i, hi => by
    have hin : i < xs.length := by omega
    have hlen : (rd_T36 L 1).f3.length = xs.length := by rw [hxs, List.length_map]
    have ih := rof_l0 s a b c L hL ep xs hxs hx m (i + 1) (by omega)
    have ht : xs.take (i + 1) = xs.take i ++ [(rd_T36 ((rd_T36 L 1).f3) (i : Int)).f1] := by
      have ht : xs.take (i + 1) = xs.take i ++ [xs[i]] := (List.take_append_getElem hin).symm
      rw [ht]
      congr 2
      have h2 : xs[i]? = ((rd_T36 L 1).f3)[i]?.map (·.f1) := by rw [hxs, List.getElem?_map]
      rw [List.getElem?_eq_getElem hin, List.getElem?_eq_getElem (by omega)] at h2
      unfold rd_T36 at h2 ⊢
      rw [Int.toNat_natCast, List.getD_eq_getElem?_getD (i := i), List.getElem?_eq_getElem (by unfold rd_T36 at hlen; omega)]
      exact Option.some.inj h2
    rw [ht] at ih
    refine Evr.bump 1 ?_ (fun k => ploverref12_Of.l0.eq_2 _ _ _ _ _ _ _ _ k)
    refine Evr.ite (fun _ => ?_) (fun h => absurd (by omega) h)
    refine Evr.ite (fun _ => ?_) (fun h => absurd (by rw [hlen]; omega) h)
    refine Evr.ite (fun _ => ?_) (fun h => absurd (by omega) h)
    refine Evr.ite (fun _ => ?_) (fun h => absurd (by rw [List.length_take]; omega) h)
    rw [wrap_succ hin (by omega)]
    exact ih
theorem rof_j0 (s : ByteArray) (a b : Int) (c : ByteArray) (L : List S36) (hL : L.length = 2) (hx : ∀ x ∈ L, x.f3.length ≤ 100000) :
    Evr (fun k => ploverref12_Of.j0 k s false a b c L) (OfP s (rd_T36 L 0).f1 (((rd_T36 L 1).f3).map (·.f1))) := by
  refine Evr.bump 1 ?_ (fun k => ploverref12_Of.j0.eq_2 _ _ _ _ _ _ k)
  refine Evr.ite (fun h => absurd h (by decide)) (fun _ => Evr.ite (fun _ => ?_) (fun h => absurd (by omega) h))
  have h1 : rd_T36 L 1 ∈ L := by
    have : rd_T36 L 1 = L[1]'(by omega) := by
      unfold rd_T36
      rw [List.getD_eq_getElem?_getD, List.getElem?_eq_getElem (by show 1 < L.length; omega)]
      rfl
    rw [this]
    exact List.getElem_mem _
  have := rof_l0 s a b c L hL (rd_T36 L 0).f1 _ rfl (by rw [List.length_map]; exact hx _ h1) (((rd_T36 L 1).f3).map (·.f1)).length 0 (by omega)
  simpa using this
theorem rof_any (s : ByteArray) (hs : s.size ≤ 100000) : Evr (fun k => ploverref12_Of.f k s) (fun r => (∃ ep xs, mayB ep xs = true ∧ chartT ep xs = s ∧ r = (ep, xs, 0)) ∨ r = (0, [], 20)) := by
  have Hno : ∀ a b c L, Evr (fun k => ploverref12_Of.j0 k s true a b c L) (fun r => (∃ ep xs, mayB ep xs = true ∧ chartT ep xs = s ∧ r = (ep, xs, 0)) ∨ r = (0, [], 20)) := fun a b c L => by
    refine Evr.bump 1 ?_ (fun k => ploverref12_Of.j0.eq_2 _ _ _ _ _ _ k)
    exact Evr.ite (fun _ => Evr.some (.inr rfl)) (fun h => absurd rfl h)
  refine Evr.bind (only_tot s hs) (fun r hr => ?_)
  obtain ⟨r1, r2, r3, r4, r5⟩ := r
  refine Evr.ite (fun _ => ?_) (fun _ => Hno _ _ _ _)
  dsimp only at hr ⊢
  by_cases h2 : r4.length = 2
  · have e : ((r4.length : Int) != 2) = false := bne_eq_false_iff_eq.2 (by omega)
    rw [e]
    refine (rof_j0 s r1 r2 r3 r4 h2 (fun x hx => by have := hr.2 x hx; omega)).imp (fun r hr => ?_)
    rcases hr with ⟨h1, h2, h3⟩ | ⟨_, h3⟩
    · exact .inl ⟨_, _, h1, h2, h3⟩
    · exact .inr h3
  · have e : ((r4.length : Int) != 2) = true := bne_iff_ne.2 (by omega)
    rw [e]
    exact Hno _ _ _ _
theorem chart_bytes (ep : Int) (xs : List Int) : (chartT ep xs).data.toList = enc (chartV ep xs) := by simp [chartT]
theorem chart_size (ep : Int) (xs : List Int) (h : mayB ep xs = true) : (chartT ep xs).size ≤ 400 := by
  rw [size_of (chart_bytes ep xs)]
  exact chart_len ep xs h
theorem rof_ok (ep : Int) (xs : List Int) (h : mayB ep xs = true) : Evr (fun k => ploverref12_Of.f k (chartT ep xs)) (fun r => r = (ep, xs, 0)) := by
  have hx16 : xs.length ≤ 16 := by unfold mayB at h; simp at h; exact h.1.2.2.2
  refine Evr.bind (only_ok 2 (by omega) (chartV ep xs) (chart_good ep xs h) _ (chart_bytes ep xs) (by have := chart_size ep xs h; omega)) (fun r hr => ?_)
  subst hr
  refine Evr.ite (fun _ => ?_) (fun h => absurd rfl h)
  have e3 : (toS (chartV ep xs)).f3 = [⟨1, ep, ⟨#[]⟩, []⟩, ⟨3, 0, ⟨#[]⟩, toSs (xs.map V.num)⟩] := by
    unfold chartV
    simp [toS, toSs]
  dsimp only
  rw [e3]
  refine (rof_j0 (chartT ep xs) _ _ _ _ rfl (fun x hx => ?_)).imp (fun r hr => ?_)
  · rw [List.mem_cons, List.mem_singleton] at hx
    rcases hx with rfl | rfl
    · simp
    · show (toSs (xs.map V.num)).length ≤ _
      rw [toSs_length, List.length_map]; omega
  · have e1 : (rd_T36 [⟨1, ep, ⟨#[]⟩, []⟩, ⟨3, 0, ⟨#[]⟩, toSs (xs.map V.num)⟩] 0).f1 = ep := rfl
    have e2 : ((rd_T36 [⟨1, ep, ⟨#[]⟩, []⟩, ⟨3, 0, ⟨#[]⟩, toSs (xs.map V.num)⟩] 1).f3).map (·.f1) = xs := by
      show (toSs (xs.map V.num)).map (·.f1) = xs
      rw [toSs_map, List.map_map, List.map_map]
      have : (((fun x : S36 => x.f1) ∘ toS) ∘ V.num) = id := by funext n; simp [toS]
      rw [this, List.map_id]
    rw [e1, e2] at hr
    rcases hr with ⟨_, _, h3⟩ | ⟨h1, _⟩
    · exact h3
    · exact absurd ⟨h, rfl⟩ h1

/-! ### chart.Of -/
theorem reads_any (s : ByteArray) (hs : s.size ≤ 2048) : ReadsTo True (fun _ _ => True) s := by
  intro w p h
  refine (value_sound 8 0 rfl w p s 0 (by omega) h hs).mono ?_
  rintro e w' ⟨x, b, er, rfl, hif, hr, ht, hx⟩
  refine ⟨x, b, er, rfl, hif, hr, ht, ?_⟩
  by_cases her : er = 0
  · obtain ⟨⟨v, hv⟩, c, e1, e2, e3⟩ := hx her
    exact .inr ⟨her, v, c, e1, e3, hv, trivial⟩
  · exact .inl ⟨her, trivial⟩
theorem reads_chart (ep : Int) (xs : List Int) (h : mayB ep xs = true) : ReadsTo False (fun v c => v = chartV ep xs ∧ c = (chartT ep xs).size) (chartT ep xs) := by
  intro w p hr
  have hz := size_of (chart_bytes ep xs)
  refine (value_ok 2 0 (by omega) w p (chartT ep xs) 0 (chartV ep xs) (chart_good ep xs h) (Pl.whole (chart_bytes ep xs)) hr (by have := chart_size ep xs h; omega)).mono ?_
  rintro e w' ⟨x, rfl, hif, hv, hr2, ht⟩
  refine ⟨x, _, 0, rfl, hif, hr2, ht, .inr ⟨rfl, chartV ep xs, 0 + (enc (chartV ep xs)).length, rfl, by omega, hv, rfl, by omega⟩⟩
end Go.Proofs.YtjhalgoondljgaaDoor.Re
