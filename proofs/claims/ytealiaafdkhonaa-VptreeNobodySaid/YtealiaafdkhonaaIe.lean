/- slices.Insert at hits: at the end. -/
import Derived.Test.YtealiaafdkhonaaId
namespace Go.Proofs.Ytealiaafdkhonaa.Vp
open Go.RowKit Go.Sort Go.Proofs.YtealiaafdkhonaaW.PrintWords Go.Proofs.YtealiaafdkhonaaW.PrintLast Go.Proofs.YtealiaafdkhonaaW.PrintMore
set_option linter.unusedVariables false
set_option linter.unusedSimpArgs false

theorem wpList_append_mine {P : Program} {ops : Array Oper} {rest : List Oper} {o : Oper} {a : Act} {w : World} {Q : Exit → Act → World → Prop}
    (hgd : o.guard = none) (s x : Operand) (t : TypeId) (ho : o.op = Op.call { callee := Callee.builtin Builtin.append, args := #[s, x], argTypes := #[t, t] })
    (base : Nat) (e : TypeId) (i : TypeInfo) (z : Value) (size bytes : Nat) (ht : P.underlying t = some (.slice e)) (hi : P.info? e = some i) (hz : i.zero = some z) (hsize : i.size = size) (hby : i.bytes = bytes) (hzs : z.cells.size = size) (hsz : 0 < size)
    (v : Value) (n : Nat) (xs : List Value) (hs : a.eval s = v) (hown : w.ownsRow base e size v n xs)
    (ad : Addr) (m c : Nat) (news : List Value) (hx : a.eval x = .slice (some ad) m c) (hl : news.length = m * size) (hnews : ∀ j u, news[j]? = some u → w.cell? (ad.add j) = some u) (h1 : ∀ u ∈ news, u.oneCell' = true)
    (N : Nat) (hN : n + m = N) (h63 : N ≤ maxLen) (hbytes : N * bytes ≤ 140737488355328) (hbase : base ≤ w.heap.size)
    (hK : ∀ A' c' w', w'.ownsRow base e size (.slice A' N c') N (xs ++ news) → w.grownBy w' v.ownBlock → ((Value.slice A' N c').ownBlock = v.ownBlock ∨ (Value.slice A' N c').ownBlock = some w.heap.size) → wpList P ops Q rest (a.put o.dst (.slice A' N c')) w') : wpList P ops Q (o :: rest) a w := by
  subst hN
  refine wpList_plain hgd fun K hK' => ?_
  obtain ⟨v', w', hrun, r1, r2, _, r4⟩ := run_append_own_at (P := P) (w := w) base t o.type e i z size bytes ht hi hz hsize hby hzs hsz v n xs hown ad m c news hl hnews h1 h63 hbytes hbase
  obtain ⟨A', c', rfl⟩ := own_slice r1
  unfold Oper.wp
  simp [execOp, ho, resolve, invoke, builtin, hs, hx, hrun, Result.andThen]
  exact hK' _ _ (hK A' c' w' r1 r2 r4)

theorem Turns.of_grown {a b : World} {row : Option Nat} (h : a.grownBy b row) : Turns (fun i => row = some i) a b := ⟨h.os, h.tape, h.output, h.size, fun i hi hn => h.block i hi (fun e => hn e.symm)⟩

set_option maxHeartbeats 1000000 in
set_option maxRecDepth 100000 in
theorem insert_end (B : Nat) (A : Option Addr) (c : Nat) (l : List (Int × Int)) (h : Int × Int) (vb vc : Nat) (w : World) (how : w.ownsRow B 49 2 (.slice A l.length c) l.length (prs l)) (hl : l.length ≤ 1000) (hB : B ≤ w.heap.size)
    (hv : w.heap[vb]? = some (.cells #[.int .i64 h.1, .int .i64 h.2] 49 (0, 0))) :
    Calls Try.prog 50 #[.slice A l.length c, .int .i64 l.length, .slice (some ⟨vb, 0, none⟩) 1 vc] w (InsDone B (l ++ [h]) (fun k => (Value.slice A l.length c).ownBlock = some k) w) := by
  obtain ⟨i0, hi, hz0, hz1, hz2⟩ := info_parts info49
  have HI := Aside0.mk hi
  have HZ0 := Aside0.mk hz0
  have HZ1 := Aside0.mk hz1
  have HZ2 := Aside0.mk hz2
  have HO := Aside0.mk how
  have HV := Aside0.mk (World.news_of_block hv)
  have hlc := own_le how
  have hlen : l.length + 1 = (l ++ [h]).length := by simp
  obtain ⟨l2, hl2⟩ : ∃ l2, l ++ [h] = l2 := ⟨_, rfl⟩
  rw [hl2] at hlen ⊢
  have HLE := Aside0.mk hlen
  have hpr : prs l ++ [.int .i64 h.1, .int .i64 h.2] = prs (l ++ [h]) := by rw [prs_app]; rfl
  rw [hl2] at hpr
  have HPR := Aside0.mk hpr
  have hA : A = none → l.length = 0 ∧ c = 0 := by
    intro e
    subst e
    rcases how.2 with ⟨e1, e2⟩ | ⟨g', cap, cur, e1, _⟩
    · injection e1 with _ h2 h3; exact ⟨h2, h3⟩
    · cases e1
  have HA := Aside0.mk hA
  obtain ⟨n, hn⟩ : ∃ n, l.length = n := ⟨_, rfl⟩
  have HN := Aside0.mk hn
  rw [hn] at hl hlc
  have hlc' : (n : Int) ≤ (c : Int) := by omega
  clear hi hz0 hz1 hz2 how hv hlen hpr hA hl2
  rw [hn]
  clear hn
  cases A with
  | none =>
    obtain ⟨e1, e2⟩ := HA.out rfl
    rw [HN.out] at e1
    subst e1; subst e2
    go_enter Try.func50, Try.ntmps50
    go_wp2_with (at_builtin; refine wpList_append_mine rfl _ _ 40 rfl B 49 i0 _ 2 16 Try.underlying40 HI.out HZ0.out HZ1.out HZ2.out rfl (by decide) (.slice none 0 0) 0 (prs l) rfl (by have := HO.out; rw [HN.out] at this; exact this) ⟨vb, 0, none⟩ 1 vc [.int .i64 h.1, .int .i64 h.2] rfl rfl HV.out (by intro u hu; simp at hu; rcases hu with rfl | rfl <;> rfl) l2.length (by have := HLE.out; have := HN.out; omega) (by have := HLE.out; have := HN.out; unfold maxLen; omega) (by have := HLE.out; have := HN.out; omega) hB ?_; intro A3 c3 w4 r1 r2 r3)
    go_ret
    rw [HPR.out] at r1
    refine ⟨⟨A3, c3, rfl, r1, fun k hk => ?_⟩, Turns.of_grown r2⟩
    rcases r3 with e3 | e3
    · exact .inl (e3.symm.trans hk)
    · rw [e3] at hk; injection hk with hk; exact .inr (by omega)
  | some ad =>
    go_enter Try.func50, Try.ntmps50
    go_wp2_with (at_builtin; refine wpList_append_mine rfl _ _ 40 rfl B 49 i0 _ 2 16 Try.underlying40 HI.out HZ0.out HZ1.out HZ2.out rfl (by decide) (.slice (some ad) n c) n (prs l) rfl (by have := HO.out; rw [HN.out] at this; exact this) ⟨vb, 0, none⟩ 1 vc [.int .i64 h.1, .int .i64 h.2] rfl rfl HV.out (by intro u hu; simp at hu; rcases hu with rfl | rfl <;> rfl) l2.length (by have := HLE.out; have := HN.out; omega) (by have := HLE.out; have := HN.out; unfold maxLen; omega) (by have := HLE.out; have := HN.out; omega) hB ?_; intro A3 c3 w4 r1 r2 r3)
    all_goals
      go_ret
      rw [HPR.out] at r1
      refine ⟨⟨A3, c3, rfl, r1, fun k hk => ?_⟩, Turns.of_grown r2⟩
      rcases r3 with e3 | e3
      · exact .inl (e3.symm.trans hk)
      · rw [e3] at hk; injection hk with hk; exact .inr (by omega)
end Go.Proofs.Ytealiaafdkhonaa.Vp
