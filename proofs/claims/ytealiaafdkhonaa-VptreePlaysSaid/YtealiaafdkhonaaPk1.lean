/- Several texts in one: Pk, Aw. -/
import Derived.Test.YtealiaafdkhonaaTo1
import Derived.Test.YtealiaafdkhonaaXa
namespace Go.Proofs.Ytealiaafdkhonaa.Vp
open Go.RowKit Go.Sort Mb Base Go.Proofs.YtealiaafdkhonaaW.PrintWords Go.Proofs.YtealiaafdkhonaaW.PrintLast Go.Proofs.YtealiaafdkhonaaW.PrintMore
set_option linter.unusedVariables false
set_option linter.unusedSimpArgs false

def dropL (x : Int) (L : List (Int × List Int)) : List (Int × List Int) := L.filter fun p => !decide (p.1 = x)
theorem put_filter {x : Int} {v : List Int} {q : Int × List Int → Bool} (hq : ∀ u, q (x, u) = false) : ∀ L, (putL x v L).filter q = L.filter q
  | [] => by simp [putL, hq]
  | p :: L => by
    unfold putL
    split
    · rw [List.filter_cons, List.filter_cons, put_filter hq L]
    · split
      · rename_i h1 h2
        have h3 : q p = false := by rw [show p = (x, p.2) from Prod.ext h2 rfl]; exact hq _
        rw [List.filter_cons, List.filter_cons, hq, h3]; simp
      · rw [List.filter_cons, hq]; simp
theorem out_filter {inn : Int → Bool} {x : Int} {P Q : List (Int × List Int)} (h : (P.filter fun p => inn p.1).Perm (Q.filter fun p => inn p.1)) : (P.filter fun p => outI inn x p.1).Perm (Q.filter fun p => outI inn x p.1) := by
  have e : ∀ R : List (Int × List Int), (R.filter fun p => outI inn x p.1) = (R.filter fun p => inn p.1).filter fun p => !decide (p.1 = x) := fun R => by
    rw [List.filter_filter]
    refine List.filter_congr (fun p _ => ?_)
    unfold outI
    by_cases e : p.1 = x <;> simp [e]
  rw [e, e]
  exact h.filter _
def putS (s : TS) (x : Int) (v : List Int) : TS := ⟨s.dim, putL x v s.L, outI s.inn x, s.T⟩
def dropS (s : TS) (x : Int) : TS := ⟨s.dim, dropL x s.L, outI s.inn x, s.T⟩
theorem TSok.put {s : TS} (h : TSok s) {x : Int} {v : List Int} (hv : isV v = true) (hl : (v.length : Int) = s.dim) (hw : (Lit.int .i64 x).wf = true) (hf : (look s.L x).isSome = true ∨ s.L.length < 512) : TSok (putS s x v) where
  d1 := h.d1
  d2 := h.d2
  rise := put_rising h.rise
  few := by
    show (putL x v s.L).length ≤ 512
    rw [put_len _ _ _ h.rise]
    have := h.few
    split <;> rcases hf with e | e <;> simp_all <;> omega
  vecs := fun p hp => by
    rcases put_mem hp with rfl | hp
    · exact ⟨hv, hl, hw⟩
    · exact h.vecs p hp
  vok := h.vok
  ball := h.ball
  perm := by
    show (s.T.pts.filter fun p => outI s.inn x p.1).Perm ((putL x v s.L).filter fun p => outI s.inn x p.1)
    rw [put_filter (fun u => by simp [outI])]
    exact out_filter h.perm
theorem TSok.drop {s : TS} (h : TSok s) (x : Int) : TSok (dropS s x) where
  d1 := h.d1
  d2 := h.d2
  rise := h.rise.sublist List.filter_sublist
  few := Nat.le_trans (List.length_filter_le _ _) h.few
  vecs := fun p hp => h.vecs p ((List.mem_filter.1 hp).1)
  vok := h.vok
  ball := h.ball
  perm := by
    show (s.T.pts.filter fun p => outI s.inn x p.1).Perm ((dropL x s.L).filter fun p => outI s.inn x p.1)
    have e : (dropL x s.L).filter (fun p => outI s.inn x p.1) = s.L.filter fun p => outI s.inn x p.1 := by
      unfold dropL
      rw [List.filter_filter]
      refine List.filter_congr (fun p _ => ?_)
      unfold outI
      by_cases e : p.1 = x <;> simp [e]
    rw [e]
    exact out_filter h.perm
theorem TSok.new {dim : Int} (h1 : 1 ≤ dim) (h2 : dim ≤ 16) : TSok ⟨dim, [], fun _ => false, .nil⟩ where
  d1 := h1
  d2 := h2
  rise := List.Pairwise.nil
  few := by simp
  vecs := fun p hp => by cases hp
  vok := trivial
  ball := trivial
  perm := by simp [VT.pts]
theorem TSok.built {s : TS} (h : TSok s) {T : VT} (hv : VOK s.dim.toNat T) (hb : Ball T) (hp : T.pts.Perm s.L) : TSok ⟨s.dim, s.L, fun x => (look s.L x).isSome, T⟩ where
  d1 := h.d1
  d2 := h.d2
  rise := h.rise
  few := h.few
  vecs := h.vecs
  vok := hv
  ball := hb
  perm := hp.filter _

/-! Hits compared. -/
def s49 (x : Int × Int) : PVptreeNear.S49 := ⟨x.1, x.2⟩
theorem reads49 {W : World} {A : Option Addr} {n : Nat} {l : List (Int × Int)} (h : ReadsRow P2 2 W A n l) : Kd.C PVptreeNear.k49 W A n (l.map s49) := by
  refine ⟨by rw [List.length_map]; exact h.1, h.2.1, fun hn => ?_⟩
  obtain ⟨ad, e, hc⟩ := h.2.2 hn
  refine ⟨ad, e, fun j p hj => ?_⟩
  rw [List.getElem?_map] at hj
  obtain ⟨x, hx, rfl⟩ := Option.map_eq_some_iff.1 hj
  obtain ⟨c, h1, h2, h3⟩ := hc j x hx
  have h2' : c = [.int .i64 x.1, .int .i64 x.2] := h2
  subst h2'
  exact ⟨_, rfl, PVptreeNear.k49_mk W (s49 x), h3⟩
theorem rd49 (l : List (Int × Int)) (n : Nat) (h : n < l.length) : PVptreeNear.rd_T49 (l.map s49) (n : Int) = s49 l[n] := by
  unfold PVptreeNear.rd_T49
  rw [Int.toNat_natCast, List.getD_eq_getElem?_getD, List.getElem?_map, List.getElem?_eq_getElem h]
  rfl
theorem wrap_succ {n m : Nat} (h : n < m) (hm : m ≤ 9223372036854775807) : wrap64 ((n : Int) + 1) = ((n + 1 : Nat) : Int) := by
  unfold wrap64
  omega
theorem same_l0 (a b : List (Int × Int)) (hab : a.length = b.length) (hm : a.length ≤ 1000000) (d : Nat) : ∀ (k n : Nat), n ≤ a.length → a.length - n = d → d < k → PVptreeNear.ploverref05_Same.l0 k (a.map s49) (b.map s49) (n : Int) = some (decide (a.drop n = b.drop n)) := by
  induction d with
  | zero =>
    intro k n h1 h2 h3
    obtain ⟨k, rfl⟩ : ∃ m, k = m + 1 := ⟨k - 1, by omega⟩
    simp only [PVptreeNear.ploverref05_Same.l0, List.length_map]
    rw [List.drop_of_length_le (by omega), List.drop_of_length_le (by omega), if_neg (by omega)]
    simp
  | succ d ih =>
    intro k n h1 h2 h3
    obtain ⟨k, rfl⟩ : ∃ m, k = m + 1 := ⟨k - 1, by omega⟩
    have hn : n < a.length := by omega
    have hnb : n < b.length := by omega
    simp only [PVptreeNear.ploverref05_Same.l0, List.length_map]
    rw [if_pos (by omega), if_pos (by omega), if_pos (by omega), rd49 a n hn, rd49 b n hnb, List.drop_eq_getElem_cons hn, List.drop_eq_getElem_cons hnb]
    by_cases e : a[n] = b[n]
    · rw [if_neg (by rw [e]; simp), wrap_succ hn (by omega), ih k (n + 1) (by omega) (by omega) (by omega), e]
      exact congrArg some (decide_eq_decide.2 ⟨fun h => by rw [h], fun h => by injection h⟩)
    · rw [if_pos ?_]
      · exact congrArg some (decide_eq_false (fun h => e (by injection h))).symm
      · by_cases e1 : a[n].1 = b[n].1
        · have e2 : ¬ a[n].2 = b[n].2 := fun h => e (Prod.ext e1 h)
          simp [s49, e2]
        · simp [s49, e1]
theorem same_f (a b : List (Int × Int)) (hm : a.length ≤ 1000000) : PVptreeNear.ploverref05_Same.f (a.length + 1) (a.map s49) (b.map s49) = some (decide (a = b)) := by
  unfold PVptreeNear.ploverref05_Same.f
  rw [List.length_map, List.length_map]
  by_cases h : a.length = b.length
  · rw [if_pos (by omega)]
    have := same_l0 a b h hm a.length (a.length + 1) 0 (by omega) (by omega) (by omega)
    simpa using this
  · rw [if_neg (by omega), decide_eq_false (fun e => h (by rw [e]))]
/-- V.Same on hits. -/
theorem same_calls (A0 A1 : Option Addr) (c0 c1 : Nat) (a b : List (Int × Int)) (W : World) (h0 : ReadsRow P2 2 W A0 a.length a) (h1 : ReadsRow P2 2 W A1 b.length b) (hc0 : a.length ≤ c0) (hc1 : b.length ≤ c1) (hm : a.length ≤ 1000000) :
    Calls Try.prog 19 #[.slice A0 a.length c0, .slice A1 b.length c1] W fun e w' => e = .returned (.bool (decide (a = b))) ∧ ∃ m, w' = W.drewN m := by
  have h := PVptreeNear.ploverref05_Same.calls (a.length + 1) A0 c0 (a.map s49) A1 c1 (b.map s49) (decide (a = b)) W (by rw [List.length_map]; exact reads49 h0) (by rw [List.length_map]; exact hc0) (by rw [List.length_map]; exact reads49 h1) (by rw [List.length_map]; exact hc1) (same_f a b hm)
  rw [List.length_map, List.length_map] at h
  exact h.mono fun e w' hh => ⟨hh.1, hh.2.out⟩
end Go.Proofs.Ytealiaafdkhonaa.Vp

namespace Go.Proofs.Ytealiaafdkhonaa.Vp
open Go.RowKit Go.Sort Mb Base Go.Proofs.YtealiaafdkhonaaW.PrintWords Go.Proofs.YtealiaafdkhonaaW.PrintLast Go.Proofs.YtealiaafdkhonaaW.PrintMore
set_option linter.unusedVariables false
set_option linter.unusedSimpArgs false

theorem C_of_blk {W : World} {j : Nat} {x : Int} (h : W.heap[j]? = some (.cells #[.int .i64 x] 3 (0, 0))) : Kd.C (Kd.int .i64) W (some ⟨j, 0, none⟩) [x].length [x] := by
  refine ⟨rfl, by simp, fun _ => ⟨_, rfl, fun i y hy => ⟨[.int .i64 y], rfl, rfl, fun z u hu => ?_⟩⟩⟩
  have hi := (List.getElem?_eq_some_iff.1 hy).1
  have hi0 : i = 0 := by simp at hi; omega
  subst hi0
  have hz : z = 0 := by have := (List.getElem?_eq_some_iff.1 hu).1; simp at this; omega
  subst hz
  have e1 : x = y := by simpa using hy
  have e2 : Value.int .i64 y = u := by simpa using hu
  subst e1
  subst e2
  exact (blk_cell h 0).trans rfl
structure PutK (W : World) (g ma mi : Nat) (s : TS) (was : Bool) (e : Ending) (w' : World) : Prop where
  ret : e = .returned (.tuple #[.bool was, .int .i64 0])
  ex : ∃ mi', TreeAt w' g ma mi' s ∧ (mi' = mi ∨ W.heap.size ≤ mi')
  turns : Turns (fun j => j = g ∨ j = ma ∨ j = mi) W w'
theorem put_few (W : World) (g ma mi : Nat) (s : TS) (h : TreeAt W g ma mi s) (hok : TSok s) (hd : s.dim = 1) (hn : s.L.length ≤ 15) (id : Int) (hw : (Lit.int .i64 id).wf = true) (j : Nat) (x : Int) (hj : W.heap[j]? = some (.cells #[.int .i64 x] 3 (0, 0))) (hx : isV [x] = true)
    (was : Bool) (hwas : (look s.L id).isSome = was) :
    Calls Try.prog 15 #[.pointer (some ⟨g, 0, none⟩), .agg #[.int .i64 id, .slice (some ⟨j, 0, none⟩) 1 1]] W (PutK W g ma mi (putS s id [x]) was) := by
  have h1 := put_calls (fun _ _ => False) W g ma mi s h (by omega) hok.rise hok.few id hw (some ⟨j, 0, none⟩) 1 [x] (C_of_blk hj) (if_pos ⟨hx, by rw [hd]; rfl⟩) (by simp) (by simp) was hwas (.inr (by omega))
    (fun W' hT => tidies_few _ W' g ma mi _ hT (by
      show (putL id [x] s.L).length ≤ 16
      rw [put_len _ _ _ hok.rise]
      split <;> omega))
  refine h1.mono ?_
  rintro e w' ⟨h2, ⟨mi', s', h3, h4, h5⟩, h6⟩
  refine ⟨h2, ⟨mi', ?_, h5⟩, h6⟩
  cases h4 with
  | same => exact h3
  | anew T hf => exact hf.elim

/-- It answers yes, and nothing that was there has turned. -/
structure Yes (w : World) (e : Ending) (w' : World) : Prop where
  e_eq : e = .returned (.bool true)
  below : Below w.heap.size w w'
theorem below_turns {F : Nat → Prop} {b : Nat} {W w1 w2 : World} (h : Below b W w1) (hs : b ≤ w1.heap.size) (k : Turns F w1 w2) (hF : ∀ j, F j → b ≤ j) : Below b W w2 :=
  ⟨k.os.trans h.os, k.tape.trans h.tape, k.output.trans h.output, Nat.le_trans h.size k.size, fun j hj => (k.block j (by omega) (fun e => by have := hF j e; omega)).trans (h.block j hj)⟩
theorem below_step2 {F : Nat → Prop} {W w1 w2 : World} {o : Obj} (h : Below W.heap.size W w1) (k : Turns F (w1.alloc o) w2) (hF : ∀ j, F j → W.heap.size ≤ j) : Below W.heap.size W w2 :=
  below_turns (below_alloc h o) (by have := h.size; simp; omega) k hF
theorem row_reads {W : World} {l : List (Int × Int)} {A : Option Addr} {c : Nat} {B : Nat} (h : W.ownsRow B 49 2 (.slice A l.length c) l.length (prs l)) (hl : l.length ≤ 9223372036854775807) : ReadsRow P2 2 W A l.length l ∧ l.length ≤ c := by
  refine ⟨own_readsP h hl, ?_⟩
  rcases h.2 with ⟨e1, e2⟩ | ⟨g, cap, cur, e1, hB, hg, hcap, _⟩
  · omega
  · injection e1 with _ _ e3; omega
theorem blk_reads {W : World} {j : Nat} {l : List (Int × Int)} (h : W.heap[j]? = some (.cells (prs l).toArray 49 (0, 0))) (hl : l.length ≤ 1000000) : ReadsRow P2 2 W (some ⟨j, 0, none⟩) l.length l := by
  refine own_readsP (B := 0) (c := l.length) ⟨prs_len l, .inr ⟨j, l.length, _, rfl, Nat.zero_le _, h, Nat.le_refl _, by unfold maxLen; omega, by simp [prs_len], by simp [← prs_len]⟩⟩ (by omega)

theorem unary {n : Int} (h1 : -2147483648 ≤ n) (h2 : n ≤ 2147483647) : isV [n] = true := by
  unfold isV oddB
  simp
  omega
def t0 : TS := ⟨1, [], fun _ => false, .nil⟩
theorem ok0 : TSok t0 := TSok.new (dim := 1) (by omega) (by omega)
theorem ok1 : TSok (putS t0 1 [0]) := TSok.put ok0 (unary (n := 0) (by omega) (by omega)) rfl (by decide) (.inr (by decide))
theorem ok2 : TSok (putS (putS t0 1 [0]) 2 [5]) := TSok.put ok1 (unary (n := 5) (by omega) (by omega)) rfl (by decide) (.inr (by decide))
theorem ok3 : TSok (putS (putS (putS t0 1 [0]) 2 [5]) 3 [9]) := TSok.put ok2 (unary (n := 9) (by omega) (by omega)) rfl (by decide) (.inr (by decide))
theorem best3 : best 2 4 (hits [(1, [0]), (2, [5]), (3, [9])] [4]) = [(2, 1), (1, 4)] := by rfl

set_option maxRecDepth 100000 in
set_option maxHeartbeats 4000000 in
theorem awake_calls (W : World) : Calls Try.prog 12 #[] W (Yes W) := by
  go_enter Try.func12, Try.ntmps12
  go_upto_region 4 with (go_at_call 11; refine (new_calls 1 (by omega) (by omega) _).mono ?_; rintro e w1 ⟨⟨g, ma, mi, rfl, ht, hg1, hg2, hg3⟩, hb⟩; have e25 : ∀ w, (binOp .eql 25 (.pointer (some ⟨g, 0, none⟩)) (.pointer none)).run Try.prog w = .ok (.bool false) w := fun w => by kernel_rfl)
  have HT1 : Aside0 (TreeAt w1 g ma mi t0) := ⟨ht⟩
  have HB1 := Aside0.mk hb
  have HG : Aside0 (W.heap.size ≤ g ∧ W.heap.size ≤ ma ∧ W.heap.size ≤ mi) := ⟨hg1, hg2, hg3⟩
  have HP1 := Aside0.mk (put_few (w1.alloc (.cells #[.int .i64 0] 3)) g ma mi _ (HT1.out.below (below_alloc (Below.refl _ _) _)) ok0 rfl (by decide) 1 (by decide) w1.heap.size 0 (blk_new _ _) (unary (by omega) (by omega)) false rfl)
  clear ht hb hg1 hg2 hg3
  go_upto_region 5 with (go_at_call 15; refine HP1.out.mono ?_; rintro e w2 ⟨rfl, ⟨mi2, ht2, hm2⟩, hr2⟩; have HT2 := Aside0.mk ht2; have HM2 := Aside0.mk hm2; have HR2 := Aside0.mk hr2; clear ht2 hm2 hr2)
  have HP2 := Aside0.mk (put_few (w2.alloc (.cells #[.int .i64 5] 3)) g ma mi2 _ (HT2.out.below (below_alloc (Below.refl _ _) _)) ok1 rfl (by decide) 2 (by decide) w2.heap.size 5 (blk_new _ _) (unary (by omega) (by omega)) false rfl)
  go_upto_region 6 with (go_at_call 15; refine HP2.out.mono ?_; rintro e w3 ⟨rfl, ⟨mi3, ht3, hm3⟩, hr3⟩; have HT3 := Aside0.mk ht3; have HM3 := Aside0.mk hm3; have HR3 := Aside0.mk hr3; clear ht3 hm3 hr3)
  have HP3 := Aside0.mk (put_few (w3.alloc (.cells #[.int .i64 9] 3)) g ma mi3 _ (HT3.out.below (below_alloc (Below.refl _ _) _)) ok2 rfl (by decide) 3 (by decide) w3.heap.size 9 (blk_new _ _) (unary (by omega) (by omega)) false rfl)
  go_upto_region 7 with (go_at_call 15; refine HP3.out.mono ?_; rintro e w4 ⟨rfl, ⟨mi4, ht4, hm4⟩, hr4⟩; have HT4 := Aside0.mk ht4; have HM4 := Aside0.mk hm4; have HR4 := Aside0.mk hr4; clear ht4 hm4 hr4)
  have HTO := Aside0.mk (top_ok (w4.alloc (.cells #[.int .i64 4] 3)) g ma mi4 _ (HT4.out.below (below_alloc (Below.refl _ _) _)) ok3 (some ⟨w4.heap.size, 0, none⟩) 1 [4] (C_of_blk (blk_new _ _)) (fun ad e => by cases e; simp) (unary (by omega) (by omega)) rfl 2 (by omega) (by omega) 4)
  rw [show best 2 4 (hits (putS (putS (putS t0 1 [0]) 2 [5]) 3 [9]).L [4]) = [(2, 1), (1, 4)] from rfl] at HTO
  go_upto_region 8 with (go_at_call 17; refine HTO.out.mono ?_; rintro e w5 ⟨⟨A5, c5, rfl, ho5⟩, hb5⟩; have HO5 := Aside0.mk ho5; have HB5 := Aside0.mk hb5; clear ho5 hb5)
  have HT5 := Aside0.mk ((HT4.out.below (below_alloc (Below.refl _ _) (.cells #[.int .i64 4] 3))).below HB5.out)
  have HS5 : Aside0 (Calls Try.prog 19 #[.slice A5 2 c5, .slice (some ⟨w5.heap.size, 0, none⟩) 2 2] (w5.alloc (.cells #[.int .i64 2, .int .i64 1, .int .i64 1, .int .i64 4] 49)) fun e w' => e = .returned (.bool true) ∧ ∃ m, w' = (w5.alloc (.cells #[.int .i64 2, .int .i64 1, .int .i64 1, .int .i64 4] 49)).drewN m) := ⟨by
    have h1 := row_reads (l := [(2, 1), (1, 4)]) (own_alloc HO5.out (.cells #[.int .i64 2, .int .i64 1, .int .i64 1, .int .i64 4] 49)) (by decide)
    exact same_calls A5 (some ⟨w5.heap.size, 0, none⟩) c5 2 [(2, 1), (1, 4)] [(2, 1), (1, 4)] _ h1.1 (blk_reads (l := [(2, 1), (1, 4)]) (blk_new _ _) (by decide)) h1.2 (by decide) (by decide)⟩
  have HLN := Aside0.mk (fun m => len_calls ((w5.alloc (.cells #[.int .i64 2, .int .i64 1, .int .i64 1, .int .i64 4] 49)).drewN m) g ma mi4 _ ((HT5.out.below (below_alloc (Below.refl _ _) _)).drewN m) (by decide))
  go_wp2_with (first | (go_at_call 19; refine HS5.out.mono ?_; rintro e w6 ⟨rfl, m6, rfl⟩) | (go_at_call 20; refine (HLN.out _).mono ?_; rintro e w7 ⟨rfl, rfl⟩))
  go_ret
  refine ⟨rfl, ?_⟩
  obtain ⟨g1, g2, g3⟩ := HG.out
  have b1 := HB1.out.size
  have k2 := below_step2 HB1.out HR2.out (fun j hj => by rcases hj with rfl | rfl | rfl <;> assumption)
  have g4 : W.heap.size ≤ mi2 := by
    rcases HM2.out with e | e
    · omega
    · simp at e; omega
  have k3 := below_step2 k2 HR3.out (fun j hj => by rcases hj with rfl | rfl | rfl <;> assumption)
  have b2 := k2.size
  have g5 : W.heap.size ≤ mi3 := by
    rcases HM3.out with e | e
    · omega
    · simp at e; omega
  have k4 := below_step2 k3 HR4.out (fun j hj => by rcases hj with rfl | rfl | rfl <;> assumption)
  have k5 := below_step (below_alloc k4 (.cells #[.int .i64 4] 3)) HB5.out
  exact pw_below_drewN (below_alloc k5 _) _
end Go.Proofs.Ytealiaafdkhonaa.Vp
