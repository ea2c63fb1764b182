/- Two trees beside each other. -/
import Derived.Test.YtealiaafdkhonaaHo1
import Derived.Test.YtealiaafdkhonaaPq
namespace Go.Proofs.Ytealiaafdkhonaa.Vp
open Go.RowKit Go.Sort Mb Base Go.Proofs.YtealiaafdkhonaaW.PrintWords Go.Proofs.YtealiaafdkhonaaW.PrintLast Go.Proofs.YtealiaafdkhonaaW.PrintMore
set_option linter.unusedVariables false
set_option linter.unusedSimpArgs false
/-- Two trees of d numbers, of the law's own, that share no block. -/
def Two (W : World) (b0 ga maa gb mab : Nat) (d : Int) (La Lb : List (Int × List Int)) : Prop :=
  ∃ mia sa mib sb, (TreeAt W ga maa mia sa ∧ TSok sa ∧ sa.L = La ∧ sa.dim = d) ∧ (TreeAt W gb mab mib sb ∧ TSok sb ∧ sb.L = Lb ∧ sb.dim = d) ∧
    (b0 ≤ ga ∧ b0 ≤ maa ∧ b0 ≤ mia ∧ b0 ≤ gb ∧ b0 ≤ mab ∧ b0 ≤ mib) ∧ ∀ i j, (i = ga ∨ i = maa ∨ i = mia) → (j = gb ∨ j = mab ∨ j = mib) → i ≠ j
section
variable {W W' : World} {b0 ga maa gb mab : Nat} {d : Int} {La Lb : List (Int × List Int)}
theorem Two.swap (h : Two W b0 ga maa gb mab d La Lb) : Two W b0 gb mab ga maa d Lb La := by
  obtain ⟨mia, sa, mib, sb, h1, h2, ⟨a1, a2, a3, a4, a5, a6⟩, h4⟩ := h
  exact ⟨mib, sb, mia, sa, h2, h1, ⟨a4, a5, a6, a1, a2, a3⟩, fun i j hi hj e => h4 j i hj hi e.symm⟩
theorem Two.below (h : Two W b0 ga maa gb mab d La Lb) (hb : Below W.heap.size W W') : Two W' b0 ga maa gb mab d La Lb := by
  obtain ⟨mia, sa, mib, sb, ⟨h1, h1'⟩, ⟨h2, h2'⟩, h3⟩ := h
  exact ⟨mia, sa, mib, sb, ⟨h1.below hb, h1'⟩, ⟨h2.below hb, h2'⟩, h3⟩
theorem Two.fst (h : Two W b0 ga maa gb mab d La Lb) : HoldsD W b0 ga maa d La := by
  obtain ⟨mia, sa, mib, sb, ⟨h1, h2, h3, h4⟩, _, ⟨a1, a2, a3, a4, a5, a6⟩, _⟩ := h
  exact ⟨mia, sa, h1, h2, h3, h4, a3, a1, a2⟩
theorem Two.snd (h : Two W b0 ga maa gb mab d La Lb) : HoldsD W b0 gb mab d Lb := h.swap.fst
theorem Two.lt (h : Two W b0 ga maa gb mab d La Lb) : b0 ≤ W.heap.size := h.fst.lt
theorem tree_other {g ma mi : Nat} {s : TS} (h : TreeAt W g ma mi s) {j : Nat} {cur : Array Value} {t : TypeId} (hj : W.heap[j]? = some (.cells cur t (0, 0))) (ht : t ≠ 69) : ¬ (j = g ∨ j = ma ∨ j = mi) := by
  obtain ⟨⟨root, f, ni, h1, h2, h3, _⟩, _⟩ := h
  rintro (rfl | rfl | rfl)
  · rw [hj] at h1
    injection h1 with h1
    injection h1 with _ h1
    exact ht h1
  · obtain ⟨es, clock, h4⟩ := imap_obj h2
    rw [hj] at h4
    injection h4 with h4
    cases h4
  · obtain ⟨es, clock, h4⟩ := imap_obj h3
    rw [hj] at h4
    injection h4 with h4
    cases h4
structure TwoD (W : World) (b0 ga maa gb mab : Nat) (d : Int) (La Lb : List (Int × List Int)) (v : Value) (e : Ending) (w' : World) : Prop where
  ret : e = .returned v
  two : Two w' b0 ga maa gb mab d La Lb
  below : Below b0 W w'
  keep : ∀ (j : Nat) (cur : Array Value) (t : TypeId), W.heap[j]? = some (.cells cur t (0, 0)) → t ≠ 69 → w'.heap[j]? = some (.cells cur t (0, 0))
theorem two_took {La' : List (Int × List Int)} {v : Value} {f : FuncId} {args : Array Value} (h : Two W b0 ga maa gb mab d La Lb)
    (hc : ∀ mi s, TreeAt W ga maa mi s → TSok s → s.L = La → s.dim = d → Calls Try.prog f args W (Took W ga maa mi d La' v)) : Calls Try.prog f args W (TwoD W b0 ga maa gb mab d La' Lb v) := by
  have hlt := h.lt
  obtain ⟨mia, sa, mib, sb, ⟨h1, h2, h3, h4⟩, ⟨h5, h6, h7, h8⟩, ⟨a1, a2, a3, a4, a5, a6⟩, hne⟩ := h
  refine (hc mia sa h1 h2 h3 h4).mono ?_
  rintro e w' ⟨e1, ⟨mi', s', t1, t2, t3, t4, t5⟩, tu⟩
  have hs := h1.soft
  have hnf : ∀ j, (j = gb ∨ j = mab ∨ j = mib) → ¬ (j = ga ∨ j = maa ∨ j = mia) := fun j hj hi => hne j j hi hj rfl
  have htb := h5.turns tu hs (hnf gb (.inl rfl)) (hnf mab (.inr (.inl rfl))) (hnf mib (.inr (.inr rfl)))
  have l1 := h5.lt
  refine ⟨e1, ⟨mi', s', mib, sb, ⟨t1, t2, t3, t4⟩, ⟨htb, h6, h7, h8⟩, ⟨a1, a2, by omega, a4, a5, a6⟩, fun i j hi hj e => ?_⟩, belowB_turns (Below.refl _ _) tu (fun j hj => by rcases hj with rfl | rfl | rfl <;> assumption) hlt, fun j cur t hj ht => tu.keep hj (tree_other h1 hj ht)⟩
  subst e
  rcases hi with hi | hi | hi
  · exact hne i i (.inl hi) hj rfl
  · exact hne i i (.inr (.inl hi)) hj rfl
  · rcases t5 with t5 | t5
    · exact hne i i (.inr (.inr (hi.trans t5))) hj rfl
    · rcases hj with hj | hj | hj <;> omega
theorem two_put (h : Two W b0 ga maa gb mab d La Lb) (id : Int) (hw : (Lit.int .i64 id).wf = true) (A : Option Addr) (c : Nat) (v : List Int) (hC : Kd.C (Kd.int .i64) W A v.length v) (hv : isV v = true) (hl : (v.length : Int) = d) (was : Bool) (hwas : (look La id).isSome = was) (hfull : was = true ∨ La.length < 512) :
    Calls Try.prog 15 #[.pointer (some ⟨ga, 0, none⟩), .agg #[.int .i64 id, .slice A v.length c]] W (TwoD W b0 ga maa gb mab d (putL id v La) Lb (.tuple #[.bool was, .int .i64 0])) :=
  two_took h (fun mi s h1 h2 h3 h4 => by
    subst h3; subst h4
    exact put_ok W ga maa mi s h1 h2 id hw A c v hC hv hl was hwas hfull)
theorem two_drop (h : Two W b0 ga maa gb mab d La Lb) (id : Int) (hw : (Lit.int .i64 id).wf = true) (was : Bool) (hwas : (look La id).isSome = was) :
    Calls Try.prog 23 #[.pointer (some ⟨ga, 0, none⟩), .int .i64 id] W (TwoD W b0 ga maa gb mab d (dropL id La) Lb (.bool was)) :=
  two_took h (fun mi s h1 h2 h3 h4 => by
    subst h3; subst h4
    exact drop_ok W ga maa mi s h1 h2 id hw was hwas)
theorem two_make (h : Two W b0 ga maa gb mab d La Lb) : Calls Try.prog 18 #[.pointer (some ⟨ga, 0, none⟩)] W (TwoD W b0 ga maa gb mab d La Lb (.int .i64 0)) :=
  two_took h (fun mi s h1 h2 h3 h4 => by
    subst h3; subst h4
    refine (make_calls W ga maa mi s h1 h2).mono ?_
    rintro e w' ⟨e1, ⟨mi', T, t1, t2, t3⟩, tu⟩
    exact ⟨e1, ⟨mi', _, t1, h2.built t2.1 t2.2.1 t2.2.2, rfl, rfl, .inr t3⟩, tu⟩)
theorem two_flip {La' : List (Int × List Int)} {v : Value} {e : Ending} {w' : World} (h : TwoD W b0 gb mab ga maa d Lb La v e w') : TwoD W b0 ga maa gb mab d La Lb v e w' := ⟨h.ret, h.two.swap, h.below, h.keep⟩
end
theorem two_new {W w1 w2 : World} {ga maa gb mab : Nat} {d : Int} (h1 : HoldsD w1 W.heap.size ga maa d []) (hb1 : Below W.heap.size W w1) (h2 : HoldsD w2 w1.heap.size gb mab d []) (hb2 : Below w1.heap.size w1 w2) : Two w2 W.heap.size ga maa gb mab d [] [] := by
  obtain ⟨mia, sa, a1, a2, a3, a4, a5, a6, a7⟩ := h1
  obtain ⟨mib, sb, c1, c2, c3, c4, c5, c6, c7⟩ := h2
  have l1 := a1.lt
  have hs := hb1.size
  refine ⟨mia, sa, mib, sb, ⟨a1.below hb2, a2, a3, a4⟩, ⟨c1, c2, c3, c4⟩, ⟨by omega, by omega, by omega, by omega, by omega, by omega⟩, fun i j hi hj e => ?_⟩
  rcases hi with hi | hi | hi <;> rcases hj with hj | hj | hj <;> omega
/-- The points that a tree answers, as they read later. -/
theorem points_read {W : World} {L : List (Int × List Int)} {n : Nat} {e : Ending} {w' : World} (h : PointsDone W n L e w') (hL : L.length ≤ 512) : ∃ A c, e = .returned (.slice A L.length c) ∧ Kd.C PVptreeNear.k37 w' A L.length (L.map s37) ∧ L.length ≤ c := by
  obtain ⟨⟨A, c, Q, e1, hq, ho, hok, hL2⟩, _⟩ := h
  rw [← hq] at ho
  have := points_C ho hok (by omega)
  rw [hL2, hq] at this
  exact ⟨A, c, e1, this⟩
theorem rising_ext : ∀ {A B : List (Int × List Int)}, Rising A → Rising B → (∀ x, look A x = look B x) → A = B
  | [], [], _, _, _ => rfl
  | [], p :: B, _, _, h => by
    have := h p.1
    rw [look_nil, look_cons, if_pos rfl] at this
    cases this
  | p :: A, [], _, _, h => by
    have := h p.1
    rw [look_nil, look_cons, if_pos rfl] at this
    cases this
  | p :: A, q :: B, ha, hb, h => by
    have ha' := List.pairwise_cons.1 ha
    have hb' := List.pairwise_cons.1 hb
    have k1 := h p.1
    rw [look_cons, if_pos rfl, look_cons] at k1
    have k2 := h q.1
    rw [look_cons q, if_pos rfl, look_cons] at k2
    have e1 : p.1 = q.1 := by
      by_cases e : q.1 = p.1
      · exact e.symm
      · rw [if_neg e] at k1
        rw [if_neg (Ne.symm e)] at k2
        have m1 := hb'.1 _ (look_mem k1.symm)
        have m2 := ha'.1 _ (look_mem k2)
        simp only [] at m1 m2
        omega
    rw [if_pos e1.symm] at k1
    have e2 : p = q := Prod.ext e1 (Option.some.inj k1)
    subst e2
    refine congrArg _ (rising_ext ha'.2 hb'.2 fun x => ?_)
    have kx := h x
    rw [look_cons, look_cons] at kx
    by_cases e : p.1 = x
    · have n1 : look A x = none := by
        cases hh : look A x with
        | none => rfl
        | some v => have := ha'.1 _ (look_mem hh); simp only [] at this; omega
      have n2 : look B x = none := by
        cases hh : look B x with
        | none => rfl
        | some v => have := hb'.1 _ (look_mem hh); simp only [] at this; omega
      rw [n1, n2]
    · rw [if_neg e, if_neg e] at kx
      exact kx
end Go.Proofs.Ytealiaafdkhonaa.Vp
