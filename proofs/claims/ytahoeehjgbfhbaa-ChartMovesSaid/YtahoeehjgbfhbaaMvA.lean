/- ChartMoves: both Diffs and both Dones in one contract each. -/
import Derived.Test.YtahoeehjgbfhbaaRdB
namespace Go.Proofs.Ytahoeehjgbfhbaa.Ch
open Base Go.RowKit Go.Proofs.YtahoeehjgbfhbaaW.PrintWords Go.Proofs.YtahoeehjgbfhbaaW.PrintLast Go.Proofs.YtahoeehjgbfhbaaW.PrintMore
set_option linter.unusedVariables false
set_option linter.unusedSimpArgs false
open PChartMoves (S31 k31)

def dEp (ep : Int) (xs : List Int) (s f t : Int) : Int := if doneE ep xs s f t = 0 then ep + 1 else 0
def dL (ep : Int) (xs : List Int) (s f t : Int) : List Int := if doneE ep xs s f t = 0 then doneN xs s.toNat t else []
def fE (ep : Int) (xs : List Int) (ep' : Int) (ys : List Int) : Int := if ckI ep xs = 1 ∨ ckI ep' ys = 1 ∨ xs.length ≠ ys.length then 1 else 0
def fL (ep : Int) (xs : List Int) (ep' : Int) (ys : List Int) : List S31 := if ckI ep xs = 1 ∨ ckI ep' ys = 1 ∨ xs.length ≠ ys.length then [] else Pl.mvF xs ys xs.length 0
structure Tells (w : World) (L : List S31) (er : Int) (e : Ending) (w' : World) : Prop where
  ret : ∃ A c, e = .returned (.tuple #[.slice A L.length c, .int .i64 er]) ∧ L.length ≤ c ∧ Kd.C k31 w' A L.length L
  below : Below w.heap.size w w'

theorem K_nil (w : World) : Kd.C k31 w none 0 [] := ⟨rfl, by simp, fun h => by simp at h⟩

theorem done_both (ep : Int) (A : Option Addr) (c : Nat) (xs : List Int) (s f t : Int) (w : World) (hr : Kd.C (Kd.int .i64) w A xs.length xs) (hcap : xs.length ≤ c) :
    Calls Try.prog 8 #[.agg #[.int .i64 ep, .slice A xs.length c], .agg #[.int .i64 s, .int .i64 f, .int .i64 t]] w (Gives w (dEp ep xs s f t) (dL ep xs s f t) (doneE ep xs s f t)) := by
  have h := done_calls ep A c xs s f t w hr hcap hr.2.1
  unfold dEp dL
  by_cases e : doneE ep xs s f t = 0
  · rw [if_pos e] at h; rw [if_pos e, if_pos e, e]; exact h
  · rw [if_neg e] at h; rw [if_neg e, if_neg e]; exact h

theorem rdone_both (ep : Int) (A : Option Addr) (c : Nat) (xs : List Int) (s f t : Int) (w : World) (hr : Kd.C (Kd.int .i64) w A xs.length xs) (hcap : xs.length ≤ c) :
    Calls Try.prog 12 #[.agg #[.int .i64 ep, .slice A xs.length c], .agg #[.int .i64 s, .int .i64 f, .int .i64 t]] w (Gives w (dEp ep xs s f t) (dL ep xs s f t) (doneE ep xs s f t)) := by
  have hx := hr.2.1
  unfold dEp dL doneE
  rcases ck01 ep xs with hb | hb
  · rw [if_pos (Or.inl hb), if_neg (by omega), if_neg (by omega)]
    exact rdone_bad ep A c xs s f t w hr hx hcap hb
  · by_cases h : s < 0 ∨ (xs.length : Int) ≤ s ∨ t < 0 ∨ 8 ≤ t ∨ t = f
    · rw [if_pos (Or.inr h), if_neg (by omega), if_neg (by omega)]
      exact rdone_odd ep A c xs s f t w hr hx hcap hb h
    · have g : ¬ (ckI ep xs = 1 ∨ s < 0 ∨ (xs.length : Int) ≤ s ∨ t < 0 ∨ 8 ≤ t ∨ t = f) := by omega
      have h4 : (t == f) = false := by rw [beq_eq_false_iff_ne]; omega
      rw [if_neg g]
      by_cases h5 : rd xs s ≠ f
      · rw [if_pos h5, if_neg (by omega), if_neg (by omega)]
        exact rdone_none ep A c xs s f t w hr hx hcap hb (by omega) (by omega) (by omega) (by omega) h4 (by rw [bne_iff_ne]; exact h5)
      · have h5' : (rd xs s != f) = false := by simpa using h5
        rw [if_neg h5]
        by_cases h6 : ep = 1099511627776
        · rw [if_pos h6, if_neg (by omega), if_neg (by omega)]
          exact rdone_last ep A c xs s f t w hr hx hcap hb (by omega) (by omega) (by omega) (by omega) h4 h5' (by simpa using h6)
        · rw [if_neg h6, if_pos rfl, if_pos rfl]
          obtain ⟨n, rfl⟩ := Int.eq_ofNat_of_zero_le (show 0 ≤ s by omega)
          exact rdone_ok ep A c xs n f t w hr hx hcap hb (by omega) (by omega) (by omega) h4 h5' (by simpa using h6)

theorem diff_both (ep : Int) (A : Option Addr) (c : Nat) (xs : List Int) (ep' : Int) (A' : Option Addr) (c' : Nat) (ys : List Int) (w : World)
  (hr : Kd.C (Kd.int .i64) w A xs.length xs) (hcc : xs.length ≤ c) (hr' : Kd.C (Kd.int .i64) w A' ys.length ys) (hcc' : ys.length ≤ c') :
    Calls Try.prog 10 #[.agg #[.int .i64 ep, .slice A xs.length c], .agg #[.int .i64 ep', .slice A' ys.length c']] w (Tells w (fL ep xs ep' ys) (fE ep xs ep' ys)) := by
  unfold fL fE
  by_cases h : ckI ep xs = 1 ∨ ckI ep' ys = 1 ∨ xs.length ≠ ys.length
  · rw [if_pos h, if_pos h]
    exact (diff_no ep A c xs ep' A' c' ys w hr hr' h).mono fun e w' hh => ⟨⟨none, 0, hh.1, Nat.le_refl _, K_nil _⟩, hh.2⟩
  · rw [if_neg h, if_neg h]
    have := ck01 ep xs
    have := ck01 ep' ys
    exact (diff_yes ep A c xs ep' A' c' ys w hr hcc hr' hcc' (by omega) (by omega) (by omega) (by have := ck_bounds (show ckI ep xs = 0 by omega); omega)).mono fun e w' hh => ⟨hh.1, hh.2⟩

theorem rdiff_both (ep : Int) (A : Option Addr) (c : Nat) (xs : List Int) (ep' : Int) (A' : Option Addr) (c' : Nat) (ys : List Int) (w : World)
  (hr : Kd.C (Kd.int .i64) w A xs.length xs) (hcc : xs.length ≤ c) (hr' : Kd.C (Kd.int .i64) w A' ys.length ys) (hcc' : ys.length ≤ c') :
    Calls Try.prog 11 #[.agg #[.int .i64 ep, .slice A xs.length c], .agg #[.int .i64 ep', .slice A' ys.length c']] w (Tells w (fL ep xs ep' ys) (fE ep xs ep' ys)) := by
  have hf : PChartMoves.ploverref12_Diff.f (2 * xs.length + 2 * ys.length + 2) ep xs ep' ys = some (fL ep xs ep' ys, fE ep xs ep' ys) := by
    unfold fL fE
    by_cases h : ckI ep xs = 1 ∨ ckI ep' ys = 1 ∨ xs.length ≠ ys.length
    · rw [if_pos h, if_pos h]
      exact diff_no_f _ ep ep' xs ys (by omega) (by omega) hr.2.1 hr'.2.1 h
    · rw [if_neg h, if_neg h]
      have := ck01 ep xs
      have := ck01 ep' ys
      exact diff_yes_f _ ep ep' xs ys (by omega) (by omega) (by omega) (by omega) (by have := ck_bounds (show ckI ep xs = 0 by omega); omega)
  refine (PChartMoves.ploverref12_Diff.calls _ ep A c xs ep' A' c' ys _ _ w hr hcc hr' hcc' hf).mono ?_
  rintro e w' ⟨v, rfl, hR, hb⟩
  obtain ⟨A3, c3, rfl, hc3, hC3⟩ := Kd.R_reads hR
  exact ⟨⟨A3, c3, rfl, hc3, hC3⟩, hb⟩

theorem fL_len (ep : Int) (xs : List Int) (ep' : Int) (ys : List Int) : (fL ep xs ep' ys).length ≤ 100 := by
  unfold fL
  by_cases h : ckI ep xs = 1 ∨ ckI ep' ys = 1 ∨ xs.length ≠ ys.length
  · rw [if_pos h]; simp
  · rw [if_neg h]
    have := ck01 ep xs
    have := ck_bounds (show ckI ep xs = 0 by omega)
    have := Pl.mvF_len xs ys xs.length 0
    omega

end Go.Proofs.Ytahoeehjgbfhbaa.Ch
