/- What a search below a node finds, and all that a tree holds, in plain lists. -/
import Derived.Test.YtealiaafdkhonaaBw1
namespace Go.Proofs.Ytealiaafdkhonaa.Vp
open Go.RowKit Go.Sort Mb Base Go.Proofs.YtealiaafdkhonaaW.PrintWords Go.Proofs.YtealiaafdkhonaaW.PrintLast Go.Proofs.YtealiaafdkhonaaW.PrintMore
set_option linter.unusedVariables false
set_option linter.unusedSimpArgs false

theorem gap_comm (x y : Int) : gap x y = gap y x := by unfold gap; split <;> split <;> omega
theorem gap_tri (x y z : Int) : gap x z ≤ gap x y + gap y z := by unfold gap; split <;> split <;> split <;> omega
theorem distTo_comm (a b : List Int) : ∀ k, distTo a b k = distTo b a k
  | 0 => rfl
  | k + 1 => by unfold distTo; rw [distTo_comm a b k, gap_comm]
theorem distTo_tri (a b c : List Int) : ∀ k, distTo a c k ≤ distTo a b k + distTo b c k
  | 0 => by simp [distTo]
  | k + 1 => by
    have h1 := distTo_tri a b c k
    have h2 := gap_tri (rd a (k : Int)) (rd b (k : Int)) (rd c (k : Int))
    unfold distTo
    omega
theorem dist_comm {a b : List Int} (h : a.length = b.length) : distN a b = distN b a := by unfold distN; rw [distTo_comm, h]
theorem dist_tri {a b c : List Int} (h : a.length = b.length) : distN a c ≤ distN a b + distN b c := by unfold distN; rw [← h]; exact distTo_tri a b c _

def VT.pts : VT → List (Int × List Int)
  | .nil => []
  | .node id v _ i o => (id, v) :: (i.pts ++ o.pts)
def Ball : VT → Prop
  | .nil => True
  | .node _ v r i o => (∀ p ∈ i.pts, distN v p.2 ≤ r) ∧ (∀ p ∈ o.pts, r ≤ distN v p.2) ∧ Ball i ∧ Ball o
theorem VOK.pts {n : Nat} : ∀ {T : VT}, VOK n T → ∀ p ∈ T.pts, isV p.2 = true ∧ p.2.length = n
  | .nil, _, p, hp => by cases hp
  | .node id v r i o, h, p, hp => by
    rcases List.mem_cons.1 hp with rfl | hp
    · exact ⟨h.1, h.2.1⟩
    · rcases List.mem_append.1 hp with hp | hp
      · exact VOK.pts h.2.2.2.2.1 p hp
      · exact VOK.pts h.2.2.2.2.2 p hp
def hit (v : List Int) (p : Int × List Int) : Int × Int := (p.1, distN v p.2)
theorem Rep.far {k : Nat} {lim0 : Int} (hk : 1 ≤ k) : ∀ {Y X l : List (Int × Int)} {lim : Int}, Rep k lim0 X l lim → (∀ y ∈ Y, lim < y.2) → Rep k lim0 (X ++ Y) l lim
  | [], X, l, lim, h, _ => by simpa using h
  | y :: Y, X, l, lim, h, hy => by
    have h1 := h.meet hk y
    have h2 := hy y (by simp)
    rw [show meetL k l lim y = l from if_pos h2, show meetN k l lim y = lim from if_pos h2] at h1
    have h3 := Rep.far (Y := Y) hk h1 (fun z hz => hy z (List.mem_cons_of_mem _ hz))
    rw [List.append_assoc] at h3
    exact h3
def someP (inn : Int → Bool) (v : List Int) (P : List (Int × List Int)) : List (Int × Int) := (P.filter fun p => inn p.1).map (hit v)
theorem someP_app (inn : Int → Bool) (v : List Int) (P Q : List (Int × List Int)) : someP inn v (P ++ Q) = someP inn v P ++ someP inn v Q := by simp [someP]
theorem someP_mem {inn : Int → Bool} {v : List Int} {P : List (Int × List Int)} {y : Int × Int} (h : y ∈ someP inn v P) : ∃ p ∈ P, y = hit v p := by
  obtain ⟨p, hp, rfl⟩ := List.mem_map.1 h
  exact ⟨p, (List.mem_filter.1 hp).1, rfl⟩
theorem part_rep {k : Nat} {lim0 : Int} {X Y : List (Int × Int)} {st : List (Int × Int) × Int} {b : Bool} {f : List (Int × Int) × Int → List (Int × Int) × Int} (hk : 1 ≤ k) (h : Rep k lim0 X st.1 st.2)
    (hf : Rep k lim0 (X ++ Y) (f st).1 (f st).2) (hb : b = false → ∀ y ∈ Y, st.2 < y.2) : Rep k lim0 (X ++ Y) (part b f st).1 (part b f st).2 := by
  unfold part
  split
  · exact hf
  · rename_i e
    exact Rep.far hk h (hb (by simpa using e))
theorem belowF_rep (k : Nat) (inn : Int → Bool) (v : List Int) (lim0 : Int) (hk : 1 ≤ k) : ∀ (T : VT), VOK v.length T → Ball T → ∀ (X : List (Int × Int)) (st : List (Int × Int) × Int), Rep k lim0 X st.1 st.2 →
    Rep k lim0 (X ++ someP inn v T.pts) (belowF k inn v T st).1 (belowF k inn v T st).2
  | .nil, _, _, X, st, h => by simpa [VT.pts, someP, belowF] using h
  | .node id nv r i o, hO, hB, X, st, h => by
    have hIn : ∀ st : List (Int × Int) × Int, okIn (distN v nv) r st.2 = false → ∀ y ∈ someP inn v i.pts, st.2 < y.2 := fun st hb y hy => by
      obtain ⟨p, hp, rfl⟩ := someP_mem hy
      have h1 := hB.1 p hp
      have h2 := (VOK.pts hO.2.2.2.2.1 p hp).2
      have h3 : distN v nv ≤ distN v p.2 + distN p.2 nv := dist_tri (by rw [h2])
      rw [dist_comm (a := p.2) (b := nv) (by rw [h2, hO.2.1])] at h3
      have h4 : ¬ distN v nv - r ≤ st.2 := by unfold okIn at hb; simpa using hb
      show st.2 < distN v p.2
      omega
    have hOut : ∀ st : List (Int × Int) × Int, okOut (distN v nv) r st.2 = false → ∀ y ∈ someP inn v o.pts, st.2 < y.2 := fun st hb y hy => by
      obtain ⟨p, hp, rfl⟩ := someP_mem hy
      have h1 := hB.2.1 p hp
      have h2 := (VOK.pts hO.2.2.2.2.2 p hp).2
      have h3 : distN nv p.2 ≤ distN nv v + distN v p.2 := dist_tri (by rw [hO.2.1])
      rw [dist_comm (a := nv) (b := v) (by rw [hO.2.1])] at h3
      have h4 : ¬ r - distN v nv ≤ st.2 := by unfold okOut at hb; simpa using hb
      show st.2 < distN v p.2
      omega
    obtain ⟨st1, e1⟩ : ∃ st1, part (inn id) (fun s => meetS k s (id, distN v nv)) st = st1 := ⟨_, rfl⟩
    have h1 : Rep k lim0 (X ++ someP inn v [(id, nv)]) st1.1 st1.2 := by
      rw [← e1]
      unfold part someP
      split
      · rename_i e
        simp only [List.filter_cons, e, if_pos, List.filter_nil, List.map_cons, List.map_nil]
        exact h.meet hk _
      · rename_i e
        simp only [List.filter_cons, e, List.filter_nil, List.map_nil, List.append_nil]
        simpa using h
    have hp : ((X ++ someP inn v [(id, nv)]) ++ (someP inn v i.pts ++ someP inn v o.pts)).Perm (X ++ someP inn v (VT.node id nv r i o).pts) := by
      rw [List.append_assoc, ← someP_app, ← someP_app]
      exact List.Perm.refl _
    show Rep k lim0 _ (if r ≤ distN v nv then _ else _ : List (Int × Int) × Int).1 (if r ≤ distN v nv then _ else _ : List (Int × Int) × Int).2
    simp only [e1]
    split
    · have h2 := part_rep (Y := someP inn v o.pts) hk h1 (belowF_rep k inn v lim0 hk o hO.2.2.2.2.2 hB.2.2.2 _ st1 h1) (hOut st1)
      have h3 := part_rep (Y := someP inn v i.pts) hk h2 (belowF_rep k inn v lim0 hk i hO.2.2.2.2.1 hB.2.2.1 _ _ h2) (hIn _)
      refine h3.perm (List.Perm.trans ?_ hp)
      rw [List.append_assoc]
      exact List.Perm.append_left _ List.perm_append_comm
    · have h2 := part_rep (Y := someP inn v i.pts) hk h1 (belowF_rep k inn v lim0 hk i hO.2.2.2.2.1 hB.2.2.1 _ st1 h1) (hIn st1)
      have h3 := part_rep (Y := someP inn v o.pts) hk h2 (belowF_rep k inn v lim0 hk o hO.2.2.2.2.2 hB.2.2.2 _ _ h2) (hOut _)
      refine h3.perm (List.Perm.trans ?_ hp)
      rw [List.append_assoc]

/-- What holds of all that a tree holds. -/
structure TSok (s : TS) : Prop where
  d1 : 1 ≤ s.dim
  d2 : s.dim ≤ 16
  rise : Rising s.L
  few : s.L.length ≤ 512
  vecs : ∀ p ∈ s.L, isV p.2 = true ∧ (p.2.length : Int) = s.dim ∧ (Lit.int .i64 p.1).wf = true
  vok : VOK s.dim.toNat s.T
  ball : Ball s.T
  perm : (s.T.pts.filter fun p => s.inn p.1).Perm (s.L.filter fun p => s.inn p.1)
theorem filter_perm {α : Type} (p : α → Bool) : ∀ l : List α, (l.filter (fun x => !p x) ++ l.filter p).Perm l
  | [] => List.Perm.refl _
  | a :: l => by
    have h := filter_perm p l
    by_cases e : p a = true
    · simp only [List.filter_cons, e, Bool.not_true, if_neg, if_pos]
      exact List.perm_middle.trans (h.cons a)
    · simp only [List.filter_cons, e, Bool.not_false, if_pos]
      simpa using h.cons a
theorem rising_nodup : ∀ {L : List (Int × List Int)}, Rising L → (L.map (·.1)).Nodup
  | [], _ => List.nodup_nil
  | p :: L, h => by
    have h' := List.pairwise_cons.1 h
    rw [List.map_cons, List.nodup_cons]
    refine ⟨fun hm => ?_, rising_nodup h'.2⟩
    obtain ⟨q, hq, e⟩ := List.mem_map.1 hm
    have := h'.1 q hq
    omega
theorem look_mem : ∀ {L : List (Int × List Int)} {x : Int} {v : List Int}, look L x = some v → (x, v) ∈ L
  | [], _, _, h => by cases h
  | p :: L, x, v, h => by
    rw [look_cons] at h
    split at h
    · rename_i e
      injection h with h
      subst h; subst e
      simp
    · exact List.mem_cons_of_mem _ (look_mem h)
theorem look_of_mem : ∀ {L : List (Int × List Int)}, Rising L → ∀ {x : Int} {v : List Int}, (x, v) ∈ L → look L x = some v
  | [], _, _, _, h => by cases h
  | p :: L, hr, x, v, h => by
    have h' := List.pairwise_cons.1 hr
    rw [look_cons]
    rcases List.mem_cons.1 h with rfl | h
    · simp
    · have := h'.1 _ h
      have hne : ¬ p.1 = x := by show ¬ p.1 = x; have : p.1 < x := this; omega
      rw [if_neg hne]
      exact look_of_mem h'.2 h
def hitD (L : List (Int × List Int)) (v : List Int) (x : Int) : Int × Int := (x, distN v ((look L x).getD []))
theorem done_perm {L : List (Int × List Int)} (hr : Rising L) (v : List Int) (inn : Int → Bool) {done : List Int} (hnd : done.Nodup) (h1 : ∀ x ∈ done, (look L x).isSome = true) (h2 : ∀ x, (look L x).isSome = true → x ∈ done) :
    ((done.filter fun x => !inn x).map (hitD L v)).Perm ((L.filter fun p => !inn p.1).map (hit v)) := by
  have hp : done.Perm (L.map (·.1)) := by
    rw [List.perm_ext_iff_of_nodup hnd (rising_nodup hr)]
    intro x
    constructor
    · intro hx
      obtain ⟨u, hu⟩ := Option.isSome_iff_exists.1 (h1 x hx)
      exact List.mem_map.2 ⟨_, look_mem hu, rfl⟩
    · intro hx
      obtain ⟨p, hp, rfl⟩ := List.mem_map.1 hx
      exact h2 _ (by rw [look_of_mem hr hp]; rfl)
  have h3 := (hp.filter fun x => !inn x).map (hitD L v)
  refine h3.trans (List.Perm.of_eq ?_)
  rw [List.filter_map, List.map_map]
  refine List.map_congr_left (fun p hp => ?_)
  have hm := (List.mem_filter.1 hp).1
  show hitD L v p.1 = hit v p
  unfold hitD hit
  rw [look_of_mem hr hm]
  rfl
/-- All that a tree holds, as hits. -/
def hits (L : List (Int × List Int)) (v : List Int) : List (Int × Int) := L.map (hit v)
theorem top_rep {s : TS} (h : TSok s) {v : List Int} (hv : (v.length : Int) = s.dim) {k : Nat} (hk : 1 ≤ k) {lim0 : Int} {X : List (Int × Int)} (hX : X.Perm ((s.L.filter fun p => !s.inn p.1).map (hit v))) {l : List (Int × Int)} {lim : Int} (hr : Rep k lim0 X l lim) :
    (belowF k s.inn v s.T (l, lim)).1 = best k lim0 (hits s.L v) := by
  have h1 := belowF_rep k s.inn v lim0 hk s.T (by have := h.vok; rw [show s.dim.toNat = v.length by omega] at this; exact this) h.ball X (l, lim) hr
  have h2 := h1.perm (Y := hits s.L v) (by
    unfold hits someP
    refine ((hX.append (h.perm.map (hit v)))).trans ?_
    rw [← List.map_append]
    exact (filter_perm (fun p : Int × List Int => s.inn p.1) s.L).map (hit v))
  exact h2.list
end Go.Proofs.Ytealiaafdkhonaa.Vp
