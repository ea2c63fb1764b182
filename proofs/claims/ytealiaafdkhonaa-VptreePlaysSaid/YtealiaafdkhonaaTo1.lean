/- Several texts in one: Ir, To. -/
import Derived.Test.YtealiaafdkhonaaMb
import Derived.Maps.RangeWalk
import Derived.Test.YtealiaafdkhonaaPt
namespace Go.Proofs.Ytealiaafdkhonaa.Mb
open Go.RowKit Go.Maps
set_option linter.unusedVariables false
set_option linter.unusedSimpArgs false

/-- A map (f) is ranged over: done has come, cnt are left. -/
def IRange (P : Program) (k : TypeId) (W : World) (b r n : Nat) (f : Int → Option Value) (done : List Int) (cnt : Nat) : Prop :=
  ∃ D left, W.ranges P k rawR b r n D left cnt ∧ (∀ x : Int, (Lit.int .i64 x).wf = true → (Maps.has D (.int .i64 x) = (f x).isSome) ∧ ∀ v, f x = some v → ∀ z, D.atKey (.int .i64 x) z = .held v) ∧ done.Nodup ∧
    (∀ x : Int, (Lit.int .i64 x).wf = true → left (.int .i64 x) = ((f x).isSome && !done.contains x)) ∧ ∀ x ∈ done, (Lit.int .i64 x).wf = true ∧ (f x).isSome = true

section
variable {P : Program} {k e t : TypeId} {W w1 : World} {b r n cnt : Nat} {f : Int → Option Value} {done : List Int}
theorem IRange.left_eq (h : IRange P k W b r n f done cnt) : W.rangeLeft b r = cnt := by obtain ⟨D, left, h, _⟩ := h; exact h.left_eq
theorem IRange.move (h : IRange P k W b r n f done cnt) (h1 : w1.heap[b]? = W.heap[b]?) (h2 : w1.heap[r]? = W.heap[r]?) : IRange P k w1 b r n f done cnt := by
  obtain ⟨D, left, ⟨es, clock, since, seen, c0, g1, g2, g3, g4, g5, g6⟩, hr⟩ := h
  exact ⟨D, left, ⟨es, clock, since, seen, c0, h1.trans g1, g2, g3, g4, h2.trans g5, g6⟩, hr⟩
theorem IRange.lt (h : IRange P k W b r n f done cnt) : r < W.heap.size := by obtain ⟨D, left, h, _⟩ := h; exact h.lt
theorem IRange.iter (h : IRange P k W b r n f done cnt) : ∃ a s u c, W.heap[r]? = some (.mapIter a s u c) := by
  obtain ⟨D, left, ⟨es, clock, since, seen, c0, g1, g2, g3, g4, g5, g6⟩, hr⟩ := h
  exact ⟨_, _, _, _, g5⟩

variable {ops : Array Oper} {rest : List Oper} {o : Oper} {a : Act} {Q : Exit → Act → World → Prop}
theorem wpList_range_imap (hg : o.guard = none) (m : Operand) (hop : o.op = Op.range t m) (K : Keyed P k) (hk : P.underlying k = some (.int .i64)) (ht : P.underlying t = some (.map k e)) (hm : a.eval m = .map (some b)) (h : IMap P k W b f n)
    (hK : ∀ w' cnt, IRange P k w' b W.heap.size n f [] cnt → W.grownBy w' none → w'.heap.size = W.heap.size + 1 → wpList P ops Q rest (a.put o.dst (.pointer (some ⟨W.heap.size, 0, none⟩))) w') : wpList P ops Q (o :: rest) a W := by
  obtain ⟨D, hown, hs, hx⟩ := h
  refine wpList_range_own W hg m t hop k e K ht rawR b n D hm hown ?_
  intro w' hr hgr hsz
  exact hK w' _ ⟨D, _, hr, hx, List.nodup_nil, fun x hw => by rw [(hx x hw).1]; simp, fun x hx => by cases hx⟩ hgr hsz
theorem same_int (x y : Int) : (Lit.int .i64 x).sameKey (.int .i64 y) = decide (x = y) := by simp [Lit.sameKey]
theorem wpList_next_imap (hg : o.guard = none) (it : Operand) (hop : o.op = Op.next it false) (K : Keyed P k) (hk : P.underlying k = some (.int .i64)) (hit : a.eval it = .pointer (some ⟨r, 0, none⟩)) (h : IRange P k W b r n f done cnt)
    (hDone : (∀ x : Int, (Lit.int .i64 x).wf = true → (f x).isSome = true → x ∈ done) → wpList P ops Q rest (a.put o.dst (.tuple #[.bool false])) W)
    (hMore : ∀ (x : Int) (c : Value) (w' : World) (cnt' : Nat), (Lit.int .i64 x).wf = true → f x = some c → x ∉ done → IRange P k w' b r n f (done ++ [x]) cnt' → cnt' < cnt → W.grownBy w' (some r) → w'.heap.size = W.heap.size →
      (Instr.entry (.pointer (some ⟨r, 0, none⟩))).run P w' = .ok (.tuple #[.int .i64 x, c]) w' → wpList P ops Q rest (a.put o.dst (.tuple #[.bool true, .int .i64 x, c])) w') :
    wpList P ops Q (o :: rest) a W := by
  obtain ⟨D, left, hr, hx, hnd, hl, hd⟩ := h
  refine wpList_next_ranges W hg it hop k K rawR (Value.int .i64) id (fun key kl hkey => by obtain ⟨x, rfl, _⟩ := Maps.keyOf_int_inv hk hkey; exact ⟨x, rfl⟩) (fun v y hv => ⟨v, rfl⟩) b r n D left cnt hit hr ?_ ?_
  · intro _ hall
    refine hDone (fun x hw hs => ?_)
    have h1 := hl x hw
    rw [hall, hs] at h1
    simpa using h1.symm
  · intro x c kl y w' cnt' hkey hlk hv hat hrg hlt hgr hsz hen
    obtain ⟨x', e1, rfl, hw⟩ := Maps.keyOf_int_inv hk hkey
    injection e1 with _ e1
    subst e1
    have h1 := hl x hw
    rw [hlk] at h1
    have h2 : (f x).isSome = true ∧ x ∉ done := by simpa using h1.symm
    obtain ⟨v, hfv⟩ := Option.isSome_iff_exists.1 h2.1
    have h3 := (hx x hw).2 v hfv (.held v)
    rw [hat] at h3
    have h4 : y.1 = .held c := by
      simp only [rawR, id, Option.some.injEq] at hv
      rw [← hv]
    rw [h4] at h3
    injection h3 with h3
    subst h3
    refine hMore x c w' cnt' hw hfv h2.2 ⟨D, _, hrg, hx, ?_, ?_, ?_⟩ hlt hgr hsz hen
    · rw [List.nodup_append]
      exact ⟨hnd, by simp, fun y hy z hz => by simp at hz; subst hz; intro e; subst e; exact h2.2 hy⟩
    · intro z hz
      show (left (.int .i64 z) && !(Lit.int .i64 z).sameKey (.int .i64 x)) = _
      rw [hl z hz, same_int]
      by_cases e : z = x
      · subst e; simp
      · simp [e, List.contains_append]
    · intro z hz
      rcases List.mem_append.1 hz with hz | hz
      · exact hd z hz
      · simp at hz; subst hz; exact ⟨hw, h2.1⟩
end
end Go.Proofs.Ytealiaafdkhonaa.Mb

namespace Go.Proofs.Ytealiaafdkhonaa.Vp
open Go.RowKit Go.Sort Mb Base Go.Proofs.YtealiaafdkhonaaW.PrintWords Go.Proofs.YtealiaafdkhonaaW.PrintLast Go.Proofs.YtealiaafdkhonaaW.PrintMore
set_option linter.unusedVariables false
set_option linter.unusedSimpArgs false

theorem top_bad (W : World) (g ma mi : Nat) (s : TS) (h : TreeAt W g ma mi s) (hd : 0 < s.dim) (V : Option Addr) (vc : Nat) (v : List Int) (hC : Kd.C (Kd.int .i64) W V v.length v) (hck : ckV v s.dim = 50) (k limit : Int) :
    Calls Try.prog 17 #[.pointer (some ⟨g, 0, none⟩), .slice V v.length vc, .int .i64 k, .int .i64 limit] W fun e w' => e = .returned (.tuple #[.slice none 0 0, .int .i64 50]) ∧ W = w' := by
  have c0 := h.dimc
  have HCK := Aside0.mk (check_calls V vc v s.dim W hC)
  rw [hck] at HCK
  clear h hC hck
  go_enter Try.func17, Try.ntmps17
  go_wp2_with (first | (go_at_call 28; refine (given_calls g s.dim hd _ c0).mono ?_; rintro e w' ⟨rfl, rfl⟩) | (go_at_call 29; refine HCK.out.mono ?_; rintro e w' ⟨rfl, rfl⟩))
  go_ret2
  exact ⟨rfl, rfl⟩
theorem top_k (W : World) (g ma mi : Nat) (s : TS) (h : TreeAt W g ma mi s) (hd : 0 < s.dim) (V : Option Addr) (vc : Nat) (v : List Int) (hC : Kd.C (Kd.int .i64) W V v.length v) (hck : ckV v s.dim = 0) (k limit : Int) (hk : k < 1 ∨ 64 < k) :
    Calls Try.prog 17 #[.pointer (some ⟨g, 0, none⟩), .slice V v.length vc, .int .i64 k, .int .i64 limit] W fun e w' => e = .returned (.tuple #[.slice none 0 0, .int .i64 51]) ∧ W = w' := by
  have c0 := h.dimc
  have HCK := Aside0.mk (check_calls V vc v s.dim W hC)
  rw [hck] at HCK
  clear h hC hck
  by_cases h1 : k < 1
  · clear hk
    go_enter Try.func17, Try.ntmps17
    go_wp2_with (first | (go_at_call 28; refine (given_calls g s.dim hd _ c0).mono ?_; rintro e w' ⟨rfl, rfl⟩) | (go_at_call 29; refine HCK.out.mono ?_; rintro e w' ⟨rfl, rfl⟩))
    go_ret2
    exact ⟨rfl, rfl⟩
  · have h2 : 64 < k := by omega
    clear hk
    go_enter Try.func17, Try.ntmps17
    go_wp2_with (first | (go_at_call 28; refine (given_calls g s.dim hd _ c0).mono ?_; rintro e w' ⟨rfl, rfl⟩) | (go_at_call 29; refine HCK.out.mono ?_; rintro e w' ⟨rfl, rfl⟩))
    go_ret2
    exact ⟨rfl, rfl⟩

structure TopDone (W : World) (l : List (Int × Int)) (e : Ending) (w' : World) : Prop where
  ex : ∃ A c, e = .returned (.tuple #[.slice A l.length c, .int .i64 0]) ∧ w'.ownsRow W.heap.size 49 2 (.slice A l.length c) l.length (prs l)
  below : Below W.heap.size W w'
theorem same_below {b0 : Nat} {W w1 : World} (h : Below b0 W w1) : Same b0 W w1 := fun j hj => h.block j hj
theorem met_belowB {W w1 : World} {B q b0 : Nat} {t : Value} {V : Option Addr} {vn vc k : Nat} {A : Option Addr} {c : Nat} {lim lim1 : Int} {l l1 : List (Int × Int)} (hs : SearchAt W B q t V vn vc k lim A c l) (h : Met W B q t V vn vc k A lim1 l1 w1) (h1 : b0 ≤ q) : Below b0 W w1 :=
  ⟨h.turns.os, h.turns.tape, h.turns.output, h.turns.size, met_same hs h h1⟩
theorem met_block {W w1 : World} {B q : Nat} {t : Value} {V : Option Addr} {vn vc k : Nat} {A : Option Addr} {c : Nat} {lim lim1 : Int} {l l1 : List (Int × Int)} (hs : SearchAt W B q t V vn vc k lim A c l) (h : Met W B q t V vn vc k A lim1 l1 w1) {j : Nat} (hj : j < B) (hq : j ≠ q) (hB : B ≤ W.heap.size) : w1.heap[j]? = W.heap[j]? :=
  h.turns.block j (by omega) (fun e => by
    rcases e with e | e
    · exact hq e
    · have := own_base hs.own j (by rw [own_blk]; exact e); omega)
theorem below_cat {b : Nat} {W w1 w2 : World} (h : Below b W w1) (k : Below b w1 w2) : Below b W w2 :=
  ⟨k.os.trans h.os, k.tape.trans h.tape, k.output.trans h.output, Nat.le_trans h.size k.size, fun j hj => (k.block j hj).trans (h.block j hj)⟩

set_option maxRecDepth 100000 in
set_option maxHeartbeats 4000000 in
theorem top_ok (W : World) (g ma mi : Nat) (s : TS) (h : TreeAt W g ma mi s) (hok : TSok s) (V : Option Addr) (vc : Nat) (v : List Int) (hC : Kd.C (Kd.int .i64) W V v.length v) (hvb : ∀ ad, V = some ad → ad.block < W.heap.size) (hv : isV v = true) (hvd : (v.length : Int) = s.dim) (k : Nat) (hk1 : 1 ≤ k) (hk2 : k ≤ 64) (limit : Int) :
    Calls Try.prog 17 #[.pointer (some ⟨g, 0, none⟩), .slice V v.length vc, .int .i64 (k : Int), .int .i64 limit] W (TopDone W (best k limit (hits s.L v))) := by
  have HT0 := Aside0.mk h
  have HOK := Aside0.mk hok
  have hd : 0 < s.dim := by have := hok.d1; omega
  have c0 := h.dimc
  have hgl := h.lt
  have HCK := Aside0.mk (check_calls V vc v s.dim W hC)
  rw [show ckV v s.dim = 0 from if_pos ⟨hv, hvd⟩] at HCK
  have HV := Aside0.mk hv
  have HVD := Aside0.mk hvd
  have HC := Aside0.mk hC
  have HVB := Aside0.mk hvb
  obtain ⟨root, f, ni, q1, q2, q3, q4, q5, q6, q7⟩ := h.ex
  have hb1 := below_alloc (Below.refl W.heap.size W) (.cells #[.pointer (some ⟨g, 0, none⟩), .slice V v.length vc, .int .i64 k, .int .i64 limit, .slice none 0 0] 84)
  have m2 : (W.alloc (.cells #[.pointer (some ⟨g, 0, none⟩), .slice V v.length vc, .int .i64 k, .int .i64 limit, .slice none 0 0] 84)).cell? ⟨g, 2, none⟩ = some (.map (some ma)) := pw_cell_below hb1 ((blk_cell q1 2).trans rfl)
  have HM1 := Aside0.mk (q2.below hb1)
  have HQ0 := Aside0.mk (blk_new W (.cells #[.pointer (some ⟨g, 0, none⟩), .slice V v.length vc, .int .i64 k, .int .i64 limit, .slice none 0 0] 84))
  have HB1 := Aside0.mk hb1
  have HQ1 := Aside0.mk q1
  have HQ3 := Aside0.mk q3
  have HQ5 := Aside0.mk q5
  have HQ6 := Aside0.mk q6
  have HQ7 := Aside0.mk q7
  obtain ⟨vn, hvn⟩ : ∃ vn, v.length = vn := ⟨_, rfl⟩
  have HVN := Aside0.mk hvn
  obtain ⟨N, hN⟩ : ∃ N, s.L.length = N := ⟨_, rfl⟩
  rw [hN] at HM1
  rw [hvn] at m2 HM1 HQ0 HB1 HCK
  rw [hvn]
  obtain ⟨w1, hw1⟩ : ∃ w1, W.alloc (.cells #[.pointer (some ⟨g, 0, none⟩), .slice V vn vc, .int .i64 k, .int .i64 limit, .slice none 0 0] 84) = w1 := ⟨_, rfl⟩
  have HW1 := Aside0.mk hw1
  have hk3 : ¬ (k : Int) < 1 := by omega
  have hk4 : ¬ (64 : Int) < (k : Int) := by omega
  have HSZ1 : Aside0 (w1.heap.size = W.heap.size + 1) := ⟨by rw [← hw1]; simp⟩
  rw [hw1] at m2 HM1 HQ0 HB1
  obtain ⟨b0, hb0⟩ : ∃ b0, W.heap.size = b0 := ⟨_, rfl⟩
  have HB0 := Aside0.mk hb0
  clear hw1 q1 q2 q3 q4 q5 q6 q7 hb1 h hok hC hvb hv hvd hvn hN
  go_enter Try.func17, Try.ntmps17
  go_upto_region 9 with (first | (go_at_call 28; refine (given_calls g s.dim hd _ c0).mono ?_; rintro e w' ⟨rfl, rfl⟩) | (go_at_call 29; refine HCK.out.mono ?_; rintro e w' ⟨rfl, rfl⟩))
  rw [HW1.out]
  go_wp2_with (first
    | (at_range; refine wpList_range_imap rfl _ rfl law Try.underlying3 Try.underlying66 rfl HM1.out ?_; intro w0 cnt0 hrg0 hg0 hs0)
    | go_in)
  go_frame
  obtain ⟨r, hr⟩ : ∃ r, w1.heap.size = r := ⟨_, rfl⟩
  obtain ⟨B, hB⟩ : ∃ B, w0.heap.size = B := ⟨_, rfl⟩
  have hs1 := HSZ1.out
  have HBB0 : Aside0 (Below b0 W w0) := ⟨by rw [← hb0]; exact HB1.out.grown hg0 (by omega) (fun k hk => by cases hk)⟩
  have HQ9 := Aside0.mk (blk_grown HQ0.out hg0 (by simp))
  rw [hr] at hrg0
  rw [hb0] at HVB HQ5 HQ7 hgl HQ9
  have HRB : Aside0 (b0 < r ∧ r < B) := ⟨by omega⟩
  rw [hr]
  have HSE0 : Aside0 (SearchAt w0 B b0 (.pointer (some ⟨g, 0, none⟩)) V vn vc k limit none 0 []) := ⟨⟨HQ9.out, own_nil _ _ _ _, by have := HRB.out; omega, by simp [Value.ownBlock], by simp⟩⟩
  have HSG : Aside0 (Sight W b0 g mi V v s.inn) := ⟨⟨⟨_, _, _, HQ1.out⟩, hgl.1, ⟨_, HQ3.out⟩, hgl.2.2, HC.out, HVB.out⟩⟩
  have HRI0 := Aside0.mk hrg0
  have HBSZ : Aside0 (B ≤ w0.heap.size) := ⟨by omega⟩
  have HMA : Aside0 (ma < b0) := ⟨hgl.2.1⟩
  clear hr hB hs1 hg0 hs0 hrg0 HQ9 HB1 m2 c0 HSZ1 hgl
  clear hb0
  go_loopw [12] (fun _ wr => ∃ (done : List Int) (cnt : Nat) (l : List (Int × Int)) (lim : Int) (A : Option Addr) (c : Nat), Aside0 (IRange Try.prog 3 wr ma r N f done cnt) ∧ Aside0 (SearchAt wr B b0 (.pointer (some ⟨g, 0, none⟩)) V vn vc k lim A c l) ∧
      Aside0 (Rep k limit ((done.filter fun x => !s.inn x).map (hitD s.L v)) l lim) ∧ Aside0 (Below b0 W wr) ∧ Aside0 (B ≤ wr.heap.size)) (fun _ wr => wr.rangeLeft ma r)
  case atStart => exact ⟨[], cnt0, [], limit, none, 0, HRI0, HSE0, ⟨Rep.nil limit hk1⟩, HBB0, HBSZ⟩
  case round =>
    obtain ⟨done, cnt, l, lim, A, c, HRI, HSE, HREP, HBW, HBZ⟩ := hrel
    go_wp2_with (first
      | (at_next; refine wpList_next_imap rfl _ rfl law Try.underlying3 rfl HRI.out ?_ ?_)
      | go_in)
    · intro hall
      have HALL := Aside0.mk hall
      have HSA := Aside0.mk (same_below HBW.out)
      have HSGr := Aside0.mk (HSG.out.same HSA.out)
      have HNr := Aside0.mk (HQ5.out.keep HSA.out.kp)
      have r1 : wr.cell? ⟨g, 1, none⟩ = some root := (blk_cell ((HSA.out g HSG.out.gb).trans HQ1.out) 1).trans rfl
      have HBL := Aside0.mk (below_calls b0 B b0 g mi k V vc v s.inn hk1 hk2 HV.out (Nat.le_refl _) (by have := HRB.out; omega) s.T (by have h1 := HOK.out.vok; have h2 := HVD.out; rw [show s.dim.toNat = v.length by omega] at h1; exact h1) wr root l lim A c HNr.out HSGr.out (by rw [HVN.out]; exact HSE.out) HREP.out.sorted HBZ.out)
      rw [HVN.out] at HBL
      have HFIN : Aside0 ((belowF k s.inn v s.T (l, lim)).1 = best k limit (hits s.L v)) := ⟨top_rep HOK.out HVD.out hk1 (done_perm HOK.out.rise v s.inn (by obtain ⟨D, left, _, _, h3, _⟩ := HRI.out; exact h3) (fun x hx => by
          obtain ⟨D, left, _, _, _, _, h5⟩ := HRI.out
          rw [← HQ6.out x]; exact (h5 x hx).2) (fun x hx => by
          have h6 := hx
          rw [← HQ6.out x] at h6
          obtain ⟨u, hu⟩ := Option.isSome_iff_exists.1 hx
          exact HALL.out x (HOK.out.vecs _ (look_mem hu)).2.2 h6)) HREP.out⟩
      obtain ⟨fin, hfin⟩ : ∃ fin, belowF k s.inn v s.T (l, lim) = fin := ⟨_, rfl⟩
      rw [hfin] at HBL HFIN
      clear hall hfin
      go_wp2_with (go_at_call 36; refine HBL.out.mono ?_; rintro e w9 ⟨rfl, hm⟩; obtain ⟨A9, c9, hs9, hn9⟩ := hm.here; have y4 : w9.cell? ⟨b0, 4, none⟩ = some (.slice A9 fin.1.length c9) := (blk_cell hs9.box 4).trans rfl; have HS9 := Aside0.mk hs9; have HM9 := Aside0.mk hm; clear hm hs9 hn9)
      go_ret2
      rw [← HFIN.out]
      refine ⟨⟨A9, c9, rfl, own_weaken HS9.out.own (by have := HRB.out; have := HB0.out; omega)⟩, ?_⟩
      rw [HB0.out]
      exact below_cat HBW.out (met_belowB HSE.out HM9.out (Nat.le_refl _))
    · intro x u wn cnt1 hwx hfx hxn hrg1 hlt hg1 hs1 hen
      have HRI1 := Aside0.mk hrg1
      have HCN := Aside0.mk hlt
      have HBW1 : Aside0 (Below b0 W wn) := ⟨HBW.out.grown hg1 (by have := HBZ.out; have := HRB.out; omega) (fun j hj => by cases hj; have := HRB.out; omega)⟩
      have HBZ1 : Aside0 (B ≤ wn.heap.size) := ⟨by rw [hs1]; exact HBZ.out⟩
      have HSE1 : Aside0 (SearchAt wn B b0 (.pointer (some ⟨g, 0, none⟩)) V vn vc k lim A c l) := ⟨by
        obtain ⟨a1, a2, a3, a4, hit⟩ := HRI.out.iter
        refine ⟨blk_grown HSE.out.box hg1 (by have := HRB.out; simp; omega), own_move HSE.out.own (fun j hj => hg1.block j (own_lt HSE.out.own j hj) (fun e => ?_)), HSE.out.bq, HSE.out.apart, HSE.out.len⟩
        cases e
        obtain ⟨cells, hc⟩ := own_typed HSE.out.own r hj
        rw [hit] at hc
        cases hc⟩
      have HSA := Aside0.mk (same_below HBW1.out)
      have HSG1 := Aside0.mk (HSG.out.same HSA.out)
      obtain ⟨uv, huv, hval⟩ := HQ7.out x u hfx
      have hu1 : isV uv = true := (HOK.out.vecs _ (look_mem huv)).1
      have hu2 : (uv.length : Int) = s.dim := (HOK.out.vecs _ (look_mem huv)).2.1
      obtain ⟨A2, c2, rfl, hC2, _⟩ := (hval.keep HSA.out.kp).form (by have := (isV_len hu1).2; omega)
      have HUV := Aside0.mk huv
      have HD := Aside0.mk (dist_calls V A2 vc c2 v uv wn HSG1.out.vec hC2 HV.out hu1 (by have := HVD.out; omega))
      have m3 : wn.cell? ⟨g, 3, none⟩ = some (.map (some mi)) := by obtain ⟨⟨_, _, _, hbx⟩, _⟩ := HSG1.out; exact (blk_cell hbx 3).trans rfl
      obtain ⟨b, hb⟩ : ∃ b, s.inn x = b := ⟨_, rfl⟩
      have lk : (Instr.lookup 67 (.map (some mi)) (.int .i64 x) false).run Try.prog wn = .ok (.bool b) wn := by
        obtain ⟨_, _, ⟨ni, hins⟩, _⟩ := HSG1.out
        have := hins.look law Try.underlying3 Try.underlying67 (zero4 _) x hwx
        rw [show (inV s.inn x).getD (.bool false) = .bool b by unfold inV; rw [hb]; cases b <;> rfl] at this
        exact this
      have HBE := Aside0.mk hb
      obtain ⟨un, hun⟩ : ∃ un, uv.length = un := ⟨_, rfl⟩
      obtain ⟨d, hdd⟩ : ∃ d, distN v uv = d := ⟨_, rfl⟩
      have HDD := Aside0.mk hdd
      rw [hun] at HD
      rw [hun] at hen
      rw [hdd] at HD
      rw [HVN.out] at HD
      have HLM := Aside0.mk HRI.out.left_eq
      rw [hun]
      clear hrg1 hlt hg1 hs1 huv hval hC2 hu1 hu2 hb hun hdd hfx hxn HRI
      cases b
      · have HREP1 : Aside0 (Rep k limit (((done ++ [x]).filter fun x => !s.inn x).map (hitD s.L v)) (meetL k l lim (x, d)) (meetN k l lim (x, d))) := ⟨by
          have h1 := HREP.out.meet hk1 (x, d)
          rw [List.filter_append, List.map_append, show ([x].filter fun x => !s.inn x) = [x] by simp [HBE.out]]
          rw [show [x].map (hitD s.L v) = [(x, d)] by simp [hitD, HUV.out, HDD.out]]
          exact h1⟩
        go_wp2_with (first
          | (go_at_call 35; refine HD.out.mono ?_; rintro e w2 ⟨rfl, hb2⟩; have HB2 := Aside0.mk hb2; clear hb2)
          | (go_at_call 34; refine (meets_calls _ B b0 (.pointer (some ⟨g, 0, none⟩)) V vn vc k lim A c l (HSE1.out.below HB2.out) HREP.out.sorted (Nat.le_trans HBZ1.out HB2.out.size) hk1 hk2 x d).mono ?_; rintro e w3 ⟨rfl, hm⟩; have HM3 := Aside0.mk hm; clear hm))
        obtain ⟨A3, c3, hs3, hn3⟩ := HM3.out.here
        have HS3 := Aside0.mk hs3
        have HRI3 : Aside0 (IRange Try.prog 3 w3 ma r N f (done ++ [x]) cnt1) := ⟨by
          have hse2 := HSE1.out.below HB2.out
          have hz2 := Nat.le_trans HBZ1.out HB2.out.size
          have hrb := HRB.out
          have hma := HMA.out
          exact HRI1.out.move ((met_block hse2 HM3.out (j := ma) (by omega) (by omega) hz2).trans (HB2.out.block ma (by have := HBZ1.out; omega))) ((met_block hse2 HM3.out (j := r) (by omega) (by omega) hz2).trans (HB2.out.block r (by have := HBZ1.out; omega)))⟩
        have HBW3 : Aside0 (Below b0 W w3) := ⟨below_cat (below_cat HBW1.out (HB2.out.mono (by have := HBZ1.out; have := HRB.out; omega))) (met_belowB (HSE1.out.below HB2.out) HM3.out (Nat.le_refl _))⟩
        have HBZ3 : Aside0 (B ≤ w3.heap.size) := ⟨Nat.le_trans (Nat.le_trans HBZ1.out HB2.out.size) HM3.out.turns.size⟩
        clear hs3 hn3
        go_roundw
        case rel => exact ⟨done ++ [x], cnt1, _, _, A3, c3, HRI3, HS3, HREP1, HBW3, HBZ3⟩
        case measure => rw [HRI3.out.left_eq, HLM.out]; exact HCN.out
      · have HREP1 : Aside0 (Rep k limit (((done ++ [x]).filter fun x => !s.inn x).map (hitD s.L v)) l lim) := ⟨by
          rw [List.filter_append, show ([x].filter fun x => !s.inn x) = [] by simp [HBE.out], List.append_nil]
          exact HREP.out⟩
        go_wp2_with fail
        go_roundw
        case rel => exact ⟨done ++ [x], cnt1, l, lim, A, c, HRI1, HSE1, HREP1, HBW1, HBZ1⟩
        case measure => rw [HRI1.out.left_eq, HLM.out]; exact HCN.out
end Go.Proofs.Ytealiaafdkhonaa.Vp
