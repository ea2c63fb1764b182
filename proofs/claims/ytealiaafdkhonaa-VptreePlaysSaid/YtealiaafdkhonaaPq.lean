/- The points of two trees, compared: the same where they are the same. -/
import Derived.Test.YtealiaafdkhonaaHo1
import Derived.Test.YtealiaafdkhonaaXs
namespace Go.Proofs.Ytealiaafdkhonaa.Vp
open Go.RowKit Go.Sort Mb Base Go.Proofs.YtealiaafdkhonaaW.PrintWords Go.Proofs.YtealiaafdkhonaaW.PrintLast Go.Proofs.YtealiaafdkhonaaW.PrintMore
set_option linter.unusedVariables false
set_option linter.unusedSimpArgs false
def s37 (x : Int × List Int) : PVptreeNear.S37 := ⟨x.1, x.2⟩
theorem rd37 (l : List (Int × List Int)) (n : Nat) (h : n < l.length) : PVptreeNear.rd_T37 (l.map s37) (n : Int) = s37 l[n] := by
  unfold PVptreeNear.rd_T37
  rw [Int.toNat_natCast, List.getD_eq_getElem?_getD, List.getElem?_map, List.getElem?_eq_getElem h]
  rfl
theorem points_C {W : World} {B n : Nat} {A : Option Addr} {c : Nat} {Q : List E} (h : W.ownsRow B 37 2 (.slice A Q.length c) Q.length (rowE Q)) (hok : ∀ q ∈ Q, OkE W n q) (hQ : Q.length ≤ 1000000) : Kd.C PVptreeNear.k37 W A Q.length ((Q.map pt).map s37) ∧ Q.length ≤ c := by
  have hp := PRead.of_own h hok
  constructor
  · refine ⟨by simp, by omega, fun hn => ?_⟩
    obtain ⟨g, o, e, _⟩ := hp.at_ 0 hn
    refine ⟨⟨g, o, none⟩, e, fun j p hj => ?_⟩
    rw [List.getElem?_map, List.getElem?_map] at hj
    obtain ⟨x, hx, rfl⟩ := Option.map_eq_some_iff.1 hj
    obtain ⟨q, hq, rfl⟩ := Option.map_eq_some_iff.1 hx
    have hjl := (List.getElem?_eq_some_iff.1 hq).1
    obtain ⟨g', o', e', c0, c1⟩ := hp.at_ j hjl
    have hqd : Q.getD j dE = q := by rw [List.getD_eq_getElem?_getD, hq]; rfl
    rw [hqd] at c0 c1
    rw [e] at e'
    injection e' with e'
    injection e' with e1 e2
    subst e1; subst e2
    obtain ⟨h1, h2, h3, h4⟩ := hok q (List.mem_of_getElem? hq)
    have h5 := isV_len h2
    obtain ⟨A1, c1', e6, hC, _⟩ := h1.form (by omega)
    have hroom : q.2.1.length ≤ c1' := by rw [e6] at h1; exact h1.room
    refine ⟨_, rfl, PVptreeNear.k37_mk W (s37 (pt q)) (A1 := A1) (c1 := c1') hroom hC, fun i u hu => ?_⟩
    have ha : ∀ z, (⟨g, o, none⟩ : Addr).add z = ⟨g, o + z, none⟩ := fun z => by unfold Addr.add; split <;> simp_all
    rw [ha]
    match i, hu with
    | 0, hu => cases hu; exact c0
    | 1, hu => cases hu; rw [e6] at c1; exact c1
  · rcases h.2 with ⟨e1, e2⟩ | ⟨g, cap, cur, e1, hB, hg, hcap, _⟩
    · omega
    · injection e1 with _ _ e3; omega
theorem same37_l1 (l : List (Int × List Int)) (hm : l.length ≤ 1000000) (hv : ∀ p ∈ l, p.2.length ≤ 1000000) (n : Nat) (hn : n < l.length) (h : ∃ k, PVptreeNear.ploverref08_Same.l0 k (l.map s37) (l.map s37) ((n + 1 : Nat) : Int) = some true) (d : Nat) : ∀ j, j ≤ l[n].2.length → l[n].2.length - j = d → ∃ k, PVptreeNear.ploverref08_Same.l1 k (l.map s37) (l.map s37) (n : Int) (j : Int) = some true := by
  have hvl := hv l[n] (List.getElem_mem hn)
  induction d with
  | zero =>
    intro j hj hd
    obtain ⟨k, hk⟩ := h
    refine ⟨k + 1, ?_⟩
    simp only [PVptreeNear.ploverref08_Same.l1, List.length_map]
    rw [if_pos (by omega), if_pos (by omega), rd37 l n hn, if_neg (by show ¬ (j : Int) < (l[n].2.length : Int); omega), wrap_succ hn (by omega), hk]
  | succ d ih =>
    intro j hj hd
    obtain ⟨k, hk⟩ := ih (j + 1) (by omega) (by omega)
    refine ⟨k + 1, ?_⟩
    simp only [PVptreeNear.ploverref08_Same.l1, List.length_map]
    rw [if_pos (by omega), if_pos (by omega), rd37 l n hn, if_pos (by show (j : Int) < (l[n].2.length : Int); omega), if_pos (by omega), if_pos (by omega), if_pos (by show (j : Int) < (l[n].2.length : Int); omega)]
    rw [if_pos trivial, wrap_succ (m := l[n].2.length) (by omega) (by omega), hk]
theorem same37_l0 (l : List (Int × List Int)) (hm : l.length ≤ 1000000) (hv : ∀ p ∈ l, p.2.length ≤ 1000000) (d : Nat) : ∀ n, n ≤ l.length → l.length - n = d → ∃ k, PVptreeNear.ploverref08_Same.l0 k (l.map s37) (l.map s37) (n : Int) = some true := by
  induction d with
  | zero =>
    intro n h1 h2
    refine ⟨1, ?_⟩
    simp only [PVptreeNear.ploverref08_Same.l0, List.length_map]
    rw [if_neg (by omega)]
  | succ d ih =>
    intro n h1 h2
    have hn : n < l.length := by omega
    obtain ⟨k, hk⟩ := same37_l1 l hm hv n hn (ih (n + 1) (by omega) (by omega)) l[n].2.length 0 (by omega) (by omega)
    refine ⟨k + 2, ?_⟩
    simp only [PVptreeNear.ploverref08_Same.l0, PVptreeNear.ploverref08_Same.j1, List.length_map]
    rw [if_pos (by omega), if_pos (by omega), if_pos (by omega), if_pos trivial, if_neg (by simp)]
    exact hk
theorem same37_f (l : List (Int × List Int)) (hm : l.length ≤ 1000000) (hv : ∀ p ∈ l, p.2.length ≤ 1000000) : ∃ k, PVptreeNear.ploverref08_Same.f k (l.map s37) (l.map s37) = some true := by
  obtain ⟨k, hk⟩ := same37_l0 l hm hv l.length 0 (by omega) (by omega)
  refine ⟨k, ?_⟩
  unfold PVptreeNear.ploverref08_Same.f
  rw [if_pos rfl]
  exact hk
theorem same37_calls (A0 A1 : Option Addr) (c0 c1 : Nat) (l : List (Int × List Int)) (W : World) (h0 : Kd.C PVptreeNear.k37 W A0 l.length (l.map s37)) (h1 : Kd.C PVptreeNear.k37 W A1 l.length (l.map s37)) (hc0 : l.length ≤ c0) (hc1 : l.length ≤ c1) (hm : l.length ≤ 1000000) (hv : ∀ p ∈ l, p.2.length ≤ 1000000) :
    Calls Try.prog 21 #[.slice A0 l.length c0, .slice A1 l.length c1] W fun e w' => e = .returned (.bool true) ∧ ∃ m, w' = W.drewN m := by
  obtain ⟨k, hk⟩ := same37_f l hm hv
  have h := PVptreeNear.ploverref08_Same.calls k A0 c0 (l.map s37) A1 c1 (l.map s37) true W (by rw [List.length_map]; exact h0) (by rw [List.length_map]; exact hc0) (by rw [List.length_map]; exact h1) (by rw [List.length_map]; exact hc1) hk
  rw [List.length_map] at h
  exact h.mono fun e w' hh => ⟨hh.1, hh.2.out⟩
end Go.Proofs.Ytealiaafdkhonaa.Vp
