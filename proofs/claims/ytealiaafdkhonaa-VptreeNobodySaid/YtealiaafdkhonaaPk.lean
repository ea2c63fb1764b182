/- A tree stays what it is where a point is put in or dropped; hits compared. -/
import Derived.Test.YtealiaafdkhonaaTo
import Derived.Test.YtealiaafdkhonaaXa
namespace Go.Proofs.Ytealiaafdkhonaa.Vp
open Go.RowKit Go.Sort Mb Base Go.Proofs.YtealiaafdkhonaaW.PrintWords Go.Proofs.YtealiaafdkhonaaW.PrintLast Go.Proofs.YtealiaafdkhonaaW.PrintMore
set_option linter.unusedVariables false
set_option linter.unusedSimpArgs false

def dropL (x : Int) (L : List (Int × List Int)) : List (Int × List Int) := L.filter fun p => !decide (p.1 = x)
theorem put_filter {x : Int} {v : List Int} {q : Int × List Int → Bool} (hq : ∀ u, q (x, u) = false) : ∀ L, (putL x v L).filter q = L.filter q
  | [] => by simp [putL, hq]
  | p :: L => by
    unfold putL
    split
    · rw [List.filter_cons, List.filter_cons, put_filter hq L]
    · split
      · rename_i h1 h2
        have h3 : q p = false := by rw [show p = (x, p.2) from Prod.ext h2 rfl]; exact hq _
        rw [List.filter_cons, List.filter_cons, hq, h3]; simp
      · rw [List.filter_cons, hq]; simp
theorem out_filter {inn : Int → Bool} {x : Int} {P Q : List (Int × List Int)} (h : (P.filter fun p => inn p.1).Perm (Q.filter fun p => inn p.1)) : (P.filter fun p => outI inn x p.1).Perm (Q.filter fun p => outI inn x p.1) := by
  have e : ∀ R : List (Int × List Int), (R.filter fun p => outI inn x p.1) = (R.filter fun p => inn p.1).filter fun p => !decide (p.1 = x) := fun R => by
    rw [List.filter_filter]
    refine List.filter_congr (fun p _ => ?_)
    unfold outI
    by_cases e : p.1 = x <;> simp [e]
  rw [e, e]
  exact h.filter _
def putS (s : TS) (x : Int) (v : List Int) : TS := ⟨s.dim, putL x v s.L, outI s.inn x, s.T⟩
def dropS (s : TS) (x : Int) : TS := ⟨s.dim, dropL x s.L, outI s.inn x, s.T⟩
theorem TSok.put {s : TS} (h : TSok s) {x : Int} {v : List Int} (hv : isV v = true) (hl : (v.length : Int) = s.dim) (hw : (Lit.int .i64 x).wf = true) (hf : (look s.L x).isSome = true ∨ s.L.length < 512) : TSok (putS s x v) where
  d1 := h.d1
  d2 := h.d2
  rise := put_rising h.rise
  few := by
    show (putL x v s.L).length ≤ 512
    rw [put_len _ _ _ h.rise]
    have := h.few
    split <;> rcases hf with e | e <;> simp_all <;> omega
  vecs := fun p hp => by
    rcases put_mem hp with rfl | hp
    · exact ⟨hv, hl, hw⟩
    · exact h.vecs p hp
  vok := h.vok
  ball := h.ball
  perm := by
    show (s.T.pts.filter fun p => outI s.inn x p.1).Perm ((putL x v s.L).filter fun p => outI s.inn x p.1)
    rw [put_filter (fun u => by simp [outI])]
    exact out_filter h.perm
theorem TSok.drop {s : TS} (h : TSok s) (x : Int) : TSok (dropS s x) where
  d1 := h.d1
  d2 := h.d2
  rise := h.rise.sublist List.filter_sublist
  few := Nat.le_trans (List.length_filter_le _ _) h.few
  vecs := fun p hp => h.vecs p ((List.mem_filter.1 hp).1)
  vok := h.vok
  ball := h.ball
  perm := by
    show (s.T.pts.filter fun p => outI s.inn x p.1).Perm ((dropL x s.L).filter fun p => outI s.inn x p.1)
    have e : (dropL x s.L).filter (fun p => outI s.inn x p.1) = s.L.filter fun p => outI s.inn x p.1 := by
      unfold dropL
      rw [List.filter_filter]
      refine List.filter_congr (fun p _ => ?_)
      unfold outI
      by_cases e : p.1 = x <;> simp [e]
    rw [e]
    exact out_filter h.perm
theorem TSok.new {dim : Int} (h1 : 1 ≤ dim) (h2 : dim ≤ 16) : TSok ⟨dim, [], fun _ => false, .nil⟩ where
  d1 := h1
  d2 := h2
  rise := List.Pairwise.nil
  few := by simp
  vecs := fun p hp => by cases hp
  vok := trivial
  ball := trivial
  perm := by simp [VT.pts]
theorem TSok.built {s : TS} (h : TSok s) {T : VT} (hv : VOK s.dim.toNat T) (hb : Ball T) (hp : T.pts.Perm s.L) : TSok ⟨s.dim, s.L, fun x => (look s.L x).isSome, T⟩ where
  d1 := h.d1
  d2 := h.d2
  rise := h.rise
  few := h.few
  vecs := h.vecs
  vok := hv
  ball := hb
  perm := hp.filter _

/-! Hits compared. -/
def s49 (x : Int × Int) : PVptreeNear.S49 := ⟨x.1, x.2⟩
theorem reads49 {W : World} {A : Option Addr} {n : Nat} {l : List (Int × Int)} (h : ReadsRow P2 2 W A n l) : Kd.C PVptreeNear.k49 W A n (l.map s49) := by
  refine ⟨by rw [List.length_map]; exact h.1, h.2.1, fun hn => ?_⟩
  obtain ⟨ad, e, hc⟩ := h.2.2 hn
  refine ⟨ad, e, fun j p hj => ?_⟩
  rw [List.getElem?_map] at hj
  obtain ⟨x, hx, rfl⟩ := Option.map_eq_some_iff.1 hj
  obtain ⟨c, h1, h2, h3⟩ := hc j x hx
  have h2' : c = [.int .i64 x.1, .int .i64 x.2] := h2
  subst h2'
  exact ⟨_, rfl, PVptreeNear.k49_mk W (s49 x), h3⟩
theorem rd49 (l : List (Int × Int)) (n : Nat) (h : n < l.length) : PVptreeNear.rd_T49 (l.map s49) (n : Int) = s49 l[n] := by
  unfold PVptreeNear.rd_T49
  rw [Int.toNat_natCast, List.getD_eq_getElem?_getD, List.getElem?_map, List.getElem?_eq_getElem h]
  rfl
theorem wrap_succ {n m : Nat} (h : n < m) (hm : m ≤ 9223372036854775807) : wrap64 ((n : Int) + 1) = ((n + 1 : Nat) : Int) := by
  unfold wrap64
  omega
theorem same_l0 (a b : List (Int × Int)) (hab : a.length = b.length) (hm : a.length ≤ 1000000) (d : Nat) : ∀ (k n : Nat), n ≤ a.length → a.length - n = d → d < k → PVptreeNear.ploverref05_Same.l0 k (a.map s49) (b.map s49) (n : Int) = some (decide (a.drop n = b.drop n)) := by
  induction d with
  | zero =>
    intro k n h1 h2 h3
    obtain ⟨k, rfl⟩ : ∃ m, k = m + 1 := ⟨k - 1, by omega⟩
    simp only [PVptreeNear.ploverref05_Same.l0, List.length_map]
    rw [List.drop_of_length_le (by omega), List.drop_of_length_le (by omega), if_neg (by omega)]
    simp
  | succ d ih =>
    intro k n h1 h2 h3
    obtain ⟨k, rfl⟩ : ∃ m, k = m + 1 := ⟨k - 1, by omega⟩
    have hn : n < a.length := by omega
    have hnb : n < b.length := by omega
    simp only [PVptreeNear.ploverref05_Same.l0, List.length_map]
    rw [if_pos (by omega), if_pos (by omega), if_pos (by omega), rd49 a n hn, rd49 b n hnb, List.drop_eq_getElem_cons hn, List.drop_eq_getElem_cons hnb]
    by_cases e : a[n] = b[n]
    · rw [if_neg (by rw [e]; simp), wrap_succ hn (by omega), ih k (n + 1) (by omega) (by omega) (by omega), e]
      exact congrArg some (decide_eq_decide.2 ⟨fun h => by rw [h], fun h => by injection h⟩)
    · rw [if_pos ?_]
      · exact congrArg some (decide_eq_false (fun h => e (by injection h))).symm
      · by_cases e1 : a[n].1 = b[n].1
        · have e2 : ¬ a[n].2 = b[n].2 := fun h => e (Prod.ext e1 h)
          simp [s49, e2]
        · simp [s49, e1]
theorem same_f (a b : List (Int × Int)) (hm : a.length ≤ 1000000) : PVptreeNear.ploverref05_Same.f (a.length + 1) (a.map s49) (b.map s49) = some (decide (a = b)) := by
  unfold PVptreeNear.ploverref05_Same.f
  rw [List.length_map, List.length_map]
  by_cases h : a.length = b.length
  · rw [if_pos (by omega)]
    have := same_l0 a b h hm a.length (a.length + 1) 0 (by omega) (by omega) (by omega)
    simpa using this
  · rw [if_neg (by omega), decide_eq_false (fun e => h (by rw [e]))]
/-- V.Same on hits. -/
theorem same_calls (A0 A1 : Option Addr) (c0 c1 : Nat) (a b : List (Int × Int)) (W : World) (h0 : ReadsRow P2 2 W A0 a.length a) (h1 : ReadsRow P2 2 W A1 b.length b) (hc0 : a.length ≤ c0) (hc1 : b.length ≤ c1) (hm : a.length ≤ 1000000) :
    Calls Try.prog 19 #[.slice A0 a.length c0, .slice A1 b.length c1] W fun e w' => e = .returned (.bool (decide (a = b))) ∧ ∃ m, w' = W.drewN m := by
  have h := PVptreeNear.ploverref05_Same.calls (a.length + 1) A0 c0 (a.map s49) A1 c1 (b.map s49) (decide (a = b)) W (by rw [List.length_map]; exact reads49 h0) (by rw [List.length_map]; exact hc0) (by rw [List.length_map]; exact reads49 h1) (by rw [List.length_map]; exact hc1) (same_f a b hm)
  rw [List.length_map, List.length_map] at h
  exact h.mono fun e w' hh => ⟨hh.1, hh.2.out⟩
end Go.Proofs.Ytealiaafdkhonaa.Vp
