/- Several texts in one: Ky, Po, Bd, Td. -/
import Derived.Test.YtealiaafdkhonaaLk1
import Derived.Test.YtealiaafdkhonaaPt
import Derived.Test.YtealiaafdkhonaaBm
import Derived.Test.YtealiaafdkhonaaTo1
import Derived.Test.YtealiaafdkhonaaPk1
namespace Go.Proofs.Ytealiaafdkhonaa.Vp
open Go.RowKit Go.Sort Go.Maps Go.Shelf Mb Base Go.Proofs.YtealiaafdkhonaaW.PrintWords Go.Proofs.YtealiaafdkhonaaW.PrintLast Go.Proofs.YtealiaafdkhonaaW.PrintMore
set_option linter.unusedVariables false
set_option linter.unusedSimpArgs false
theorem sortsA (m : Nat) : AnyZI.SortsIn Try.prog Try.sortedA_ren Fence.wide m :=
  ⟨fun blk off cap ss W hH hblk hsz => callsIn_wide.2 (AnyM.slices_Sort_int Try.sortA blk off cap ss W hH hblk hsz),
   fun p cap W => callsIn_wide.2 (AnyM.slices_Sort_int_none Try.sortA p cap W)⟩
theorem keys_calls (mb : Option Nat) (W : World) : Calls Try.prog 39 #[.map mb] W fun e w' => e = .returned (.func (.func 57) #[] #[.pointer (some ⟨W.heap.size, 0, none⟩)]) ∧ w' = W.alloc (.cells #[.map mb] 66) :=
  (callsIn_wide (n := 5)).1 (AnyZI.keys_in Try.keysA Fence.wide 5 trivial rfl mb W)
theorem rising_ids {L : List (Int × List Int)} (h : Rising L) : (L.map (·.1)).Pairwise (· < ·) := List.pairwise_map.2 h
theorem look_isSome {L : List (Int × List Int)} {x : Int} : (look L x).isSome = true ↔ x ∈ L.map (·.1) := by
  induction L with
  | nil => simp [look_nil]
  | cons p L ih =>
    rw [look_cons]
    by_cases h : p.1 = x
    · simp [h]
    · rw [if_neg h, ih]; simp [Ne.symm h]
theorem keys_perm {W : World} {ma nn : Nat} {D : DataW Value} {f : Int → Option Value} {L : List (Int × List Int)} (hown : W.ownsMap Try.prog 3 rawR ma nn D) (hD : ∀ x : Int, (Lit.int .i64 x).wf = true → Maps.has D (.int .i64 x) = (f x).isSome)
    (hf : ∀ x, (f x).isSome = (look L x).isSome) (hr : Rising L) (hwf : ∀ p ∈ L, (Lit.int .i64 p.1).wf = true) : (L.map (·.1)).Perm (intKeys D) := by
  have hc : CollectedI D (fun _ => false) (L.map (·.1)) := by
    refine ⟨(rising_ids hr).imp (fun h => by omega), fun x => ?_⟩
    by_cases hx : (Lit.int .i64 x).wf = true
    · rw [hD x hx, hf x, look_isSome]; simp
    · constructor
      · intro h
        obtain ⟨p, hp, rfl⟩ := List.mem_map.1 h
        exact absurd (hwf p hp) hx
      · rintro ⟨h, _⟩
        exfalso
        obtain ⟨es, rfl, hko⟩ := hown.keysOf
        rw [has_eq, List.any_eq_true] at h
        obtain ⟨p, hp, hs⟩ := h
        obtain ⟨v, hv⟩ := hko p hp
        obtain ⟨y, _, hy, hl⟩ := Maps.keyOf_i64 Try.underlying3 hv
        rw [hy] at hs
        have e : y = x := by simpa [Lit.sameKey] using hs
        rw [← e] at hx
        exact hx hl
  exact hc.perm hown law Try.underlying3 (fun _ => rfl)
/-- The numbers, sorted: a row of the call's own. -/
structure SortedDone (b0 : Nat) (W : World) (L : List (Int × List Int)) (e : Ending) (w' : World) : Prop where
  ex : ∃ v, e = .returned v ∧ w'.ownsRow b0 3 1 v L.length (nums .i64 (L.map (·.1))) ∧ (L = [] → v = .slice none 0 0)
  below : Below b0 W w'
theorem sorted_calls (W : World) (ma : Nat) (f : Int → Option Value) (L : List (Int × List Int)) (h : IMap Try.prog 3 W ma f L.length) (hf : ∀ x, (f x).isSome = (look L x).isSome) (hr : Rising L) (hwf : ∀ p ∈ L, (Lit.int .i64 p.1).wf = true) (hN : L.length ≤ 512) :
    Calls Try.prog 38 #[.func (.func 57) #[] #[.pointer (some ⟨W.heap.size, 0, none⟩)]] (W.alloc (.cells #[.map (some ma)] 66)) (SortedDone W.heap.size (W.alloc (.cells #[.map (some ma)] 66)) L) := by
  obtain ⟨D, hown, hsz, hD⟩ := h
  have hp := keys_perm hown (fun x hx => (hD x hx).1) hf hr hwf
  have hbl := hown.lt
  have hseq : SeqGives Fence.wide 2 Try.prog 57 #[.pointer (some ⟨W.heap.size, 0, none⟩)] encZ (fun ss => ss.Perm (intKeys D)) (Maps.size D) (W.alloc (.cells #[.map (some ma)] 66)) :=
    AnyZI.keys_gives (ρ := Try.keysA_ren) { Try.keysA with } Fence.wide _ trivial rfl (by omega) W.heap.size ma L.length D _ (by simp) (by simp) (by
      obtain ⟨es, clock, hb, Ft, hs, hD⟩ := hown
      exact ⟨es, clock, (Below.heap_alloc _ _ ma hbl).trans hb, Ft, hs, hD⟩)
  have cS := AnyZI.sorted_in Try.sortedA Fence.wide 5 trivial trivial trivial trivial rfl (by omega) (sortsA _) (enters_of Try.func56 (by kernel_rfl) rfl) 57 #[.pointer (some ⟨W.heap.size, 0, none⟩)] trivial (enters_of Try.func57 (by kernel_rfl) rfl) _ _ (by unfold maxLen; omega) (by omega) _ hseq
  change CallsIn _ _ Try.prog 38 _ _ _ at cS
  refine ((callsIn_wide (n := 5)).1 cS).mono ?_
  rintro e w' ⟨v, ss, rfl, hS, hrow, hnil, hb⟩
  have hq : ss.Perm (L.map (·.1)) := hS.trans hp.symm
  have hm : ss.mergeSort leI = L.map (·.1) := by
    rw [mergeSort_of_perm_i hq]
    exact List.mergeSort_of_pairwise ((rising_ids hr).imp (fun {a b} h => by simp only [leI, decide_eq_true_eq]; omega))
  have hl : ss.length = L.length := by rw [hq.length_eq, List.length_map]
  refine ⟨⟨v, rfl, ?_, fun e => hnil.2 ?_⟩, hb.mono (by simp)⟩
  · have h1 := ownsRow_base_a hrow (by simp : W.heap.size ≤ _)
    rw [hl] at h1
    change World.ownsRow _ _ _ _ _ _ ((ss.mergeSort leI).map encZ) at h1
    rw [hm] at h1
    exact h1
  · subst e; exact List.eq_nil_of_length_eq_zero hl
end Go.Proofs.Ytealiaafdkhonaa.Vp

namespace Go.Proofs.Ytealiaafdkhonaa.Vp
open Go.RowKit Go.Sort Mb Base Go.Proofs.YtealiaafdkhonaaW.PrintWords Go.Proofs.YtealiaafdkhonaaW.PrintLast Go.Proofs.YtealiaafdkhonaaW.PrintMore
set_option linter.unusedVariables false
set_option linter.unusedSimpArgs false
theorem PRead.of_own {W : World} {B n : Nat} {A : Option Addr} {c : Nat} {Q : List E} (h : W.ownsRow B 37 2 (.slice A Q.length c) Q.length (rowE Q)) (hok : ∀ q ∈ Q, OkE W n q) : PRead W A n Q := by
  refine ⟨fun hn => ?_, hok⟩
  rcases h.2 with ⟨e1, e2⟩ | ⟨g, cap, cur, e1, hB, hg, hcap, h63, hsz, htk⟩
  · omega
  · injection e1 with e1 _ e3
    subst e1; subst e3
    refine ⟨g, 0, cur.toList.drop (Q.length * 2), rfl, [], rfl, ?_⟩
    have : cur.toList.take (Q.length * 2) = rowE Q := by simpa using htk
    rw [hg, ← this, List.nil_append, List.take_append_drop]
structure PointsDone (W : World) (n : Nat) (L : List (Int × List Int)) (e : Ending) (w' : World) : Prop where
  ex : ∃ A c Q, e = .returned (.slice A L.length c) ∧ Q.length = L.length ∧ w'.ownsRow W.heap.size 37 2 (.slice A L.length c) L.length (rowE Q) ∧ (∀ q ∈ Q, OkE w' n q) ∧ Q.map pt = L
  below : Below W.heap.size W w'
theorem news_cells (w3 : World) (x : Int) (u0 : Value) : ∀ j u, [Value.int .i64 x, u0][j]? = some u → (w3.alloc (.cells #[.int .i64 x, u0] 37)).cell? ((⟨w3.heap.size, 0, none⟩ : Addr).add j) = some u := fun j u hu => by
  have e2 : (⟨w3.heap.size, 0, none⟩ : Addr).add j = ⟨w3.heap.size, j, none⟩ := by unfold Addr.add; split <;> simp_all
  rw [e2]
  exact (blk_cell (blk_new w3 _) j).trans (by simpa using hu)
theorem row_add {wr w3 w5 : World} {B n i c : Nat} {A : Option Addr} {Q : List E} {x : Int} {v : List Int} {val : Value} {o : Obj} (hB : B ≤ wr.heap.size) (ho : wr.ownsRow B 37 2 (.slice A i c) i (rowE Q)) (hok : ∀ q ∈ Q, OkE wr n q)
    (hb : Below wr.heap.size wr w3) (hv : VecAt w3 w3.heap.size val v) (h1 : isV v = true) (h2 : v.length = n) (h3 : (Lit.int .i64 x).wf = true) (hg : (w3.alloc o).grownBy w5 (Value.slice A i c).ownBlock) :
    (∀ q ∈ Q ++ [(x, v, val)], OkE w5 n q) ∧ Below B wr w5 := by
  have hb4 : Below wr.heap.size wr (w3.alloc o) := below_alloc hb o
  have hF : ∀ j, (fun j => (Value.slice A i c).ownBlock = some j) j → ∀ cs t, (w3.alloc o).heap[j]? = some (.cells cs t (0, 0)) → t = 37 := fun j hj cs t ht => by
    obtain ⟨cells, hc⟩ := own_typed ho j hj
    rw [hb4.block j (own_lt ho j hj), hc] at ht
    injection ht with ht; injection ht with _ ht; exact ht.symm
  have hT : Turns (fun j => (Value.slice A i c).ownBlock = some j) (w3.alloc o) w5 := (Turns.of_grown hg).wide (fun j hj => hj)
  refine ⟨fun q hq => ?_, ?_⟩
  · rcases List.mem_append.1 hq with hq | hq
    · have h5 := (hok q hq).turns (Turns.of_below (F := fun _ => False) hb4) (fun _ hf => hf.elim)
      exact h5.turns hT hF
    · cases List.mem_singleton.1 hq
      have h4 : OkE w3 n (x, v, val) := ⟨hv, h1, h2, h3⟩
      have h5 := h4.turns (Turns.of_below (F := fun _ => False) (below_alloc (Below.refl _ _) o)) (fun _ hf => hf.elim)
      exact h5.turns hT hF
  · exact (hb4.mono hB).grown hg (by have := hb4.size; omega) (fun k hk => own_base ho k hk)

set_option maxRecDepth 100000 in
set_option maxHeartbeats 4000000 in
theorem points_ok (W : World) (g ma mi : Nat) (s : TS) (h : TreeAt W g ma mi s) (hok : TSok s) : Calls Try.prog 22 #[.pointer (some ⟨g, 0, none⟩)] W (PointsDone W s.dim.toNat s.L) := by
  have HOK := Aside0.mk hok
  have hd : 0 < s.dim := by have := hok.d1; omega
  have c0 := h.dimc
  have hgl := h.lt
  obtain ⟨root, f, ni, q1, q2, q3, q4, q5, q6, q7⟩ := h.ex
  have c2 : W.cell? ⟨g, 2, none⟩ = some (.map (some ma)) := (blk_cell q1 2).trans rfl
  have HS := Aside0.mk (sorted_calls W ma f s.L q2 q6 hok.rise (fun p hp => (hok.vecs p hp).2.2) hok.few)
  have HQ1 := Aside0.mk q1
  have HQ2 := Aside0.mk q2
  have HQ6 := Aside0.mk q6
  have HQ7 := Aside0.mk q7
  have HGL := Aside0.mk hgl
  obtain ⟨i0, hi, hz0, hz1, hz2⟩ := info_parts info37
  have HI := Aside0.mk hi
  have HZ0 := Aside0.mk hz0
  have HZ1 := Aside0.mk hz1
  have HZ2 := Aside0.mk hz2
  obtain ⟨N, hN⟩ : ∃ N, s.L.length = N := ⟨_, rfl⟩
  have HN := Aside0.mk hN
  have hN2 : N ≤ 512 := by rw [← hN]; exact hok.few
  obtain ⟨b0, hb0⟩ : ∃ b0, W.heap.size = b0 := ⟨_, rfl⟩
  have HB0 := Aside0.mk hb0
  clear h hok q1 q2 q3 q4 q5 q6 q7 hgl hi hz0 hz1 hz2 hN hb0
  go_enter Try.func22, Try.ntmps22
  go_wp2_with (first
    | (go_at_call 28; refine (given_calls g s.dim hd _ c0).mono ?_; rintro e w' ⟨rfl, rfl⟩)
    | (go_at_call 39; refine (keys_calls _ _).mono ?_; rintro e w' ⟨rfl, rfl⟩)
    | (go_at_call 38; refine HS.out.mono ?_; rintro e w2 ⟨⟨v0, rfl, hown, hnil⟩, hb2⟩; obtain ⟨A0, cc0, rfl⟩ := own_slice hown; rw [HN.out] at hown; rw [HN.out]; have HOWN := Aside0.mk hown; have HB2 := Aside0.mk hb2; clear hown hnil hb2))
  have HBW2 : Aside0 (Below W.heap.size W w2) := ⟨(below_alloc (Below.refl _ _) _).trans HB2.out⟩
  have HKC : Aside0 (∀ i (p : Int × List Int), s.L[i]? = some p → ∃ gk, A0 = some ⟨gk, 0, none⟩ ∧ gk < w2.heap.size ∧ w2.cell? ⟨gk, i, none⟩ = some (.int .i64 p.1)) := ⟨fun i p hp => by
    have hlt := (List.getElem?_eq_some_iff.1 hp).1
    rcases HOWN.out.2 with ⟨e1, e2⟩ | ⟨gk, cap, cur, e1, hB, hg, hcap, h63, hsz, htk⟩
    · have := HN.out; omega
    · injection e1 with e1 _ e3
      subst e1; subst e3
      refine ⟨gk, rfl, blk_lt hg, (blk_cell hg i).trans ?_⟩
      have h1 : (cur.toList.take (N * 1))[i]? = some (.int .i64 p.1) := by
        rw [show cur.toList.take (N * 1) = nums .i64 (s.L.map (·.1)) from by simpa using htk]
        simp [nums, hp]
      rw [List.getElem?_take] at h1
      split at h1
      · simpa using h1
      · cases h1⟩
  obtain ⟨B, hB⟩ : ∃ B, w2.heap.size = B := ⟨_, rfl⟩
  have HB := Aside0.mk hB
  clear hB
  go_loopw [3, 16] (fun z3 z16 wr => ∃ (i : Nat) (A : Option Addr) (c : Nat) (Q : List E), z3 = .slice A i c ∧ z16 = .int .i64 i ∧ i ≤ N ∧ Aside0 (Below B w2 wr) ∧ Aside0 (wr.ownsRow B 37 2 (.slice A i c) i (rowE Q)) ∧ Aside0 (∀ q ∈ Q, OkE wr s.dim.toNat q) ∧ Aside0 (Q.map pt = s.L.take i)) (fun _ z16 _ => N - (intOf z16).toNat)
  case atStart => exact ⟨0, none, 0, [], rfl, rfl, Nat.zero_le _, ⟨Below.refl _ _⟩, ⟨own_nil _ _ _ _⟩, ⟨fun q hq => by cases hq⟩, ⟨rfl⟩⟩
  case round =>
    obtain ⟨i, A, c, Q, rfl, rfl, hi, HBR, HOW, HOQ, HPT⟩ := hrel
    by_cases hlt : i < N
    · have hlt' : (i : Int) < (N : Int) := by omega
      have hi0 : (0 : Int) ≤ (i : Int) := by omega
      obtain ⟨p, hp⟩ : ∃ p, s.L[i]? = some p := ⟨_, List.getElem?_eq_getElem (by have := HN.out; omega)⟩
      have HP := Aside0.mk hp
      obtain ⟨gk, e0, hgk, hkc⟩ := HKC.out i p hp
      subst e0
      have hpm : p ∈ s.L := List.mem_of_getElem? hp
      obtain ⟨x, v⟩ := p
      obtain ⟨hv1, hv2, hv3⟩ := HOK.out.vecs _ hpm
      replace hv1 : isV v = true := hv1
      replace hv2 : (v.length : Int) = s.dim := hv2
      replace hv3 : (Lit.int .i64 x).wf = true := hv3
      have hlk : look s.L x = some v := look_of_mem HOK.out.rise hpm
      have r1 : wr.cell? ⟨gk, i, none⟩ = some (.int .i64 x) := pw_cell_below (by rw [HB.out]; exact HBR.out) hkc
      have hBw : Below W.heap.size W wr := HBW2.out.trans (HBR.out.mono (by rw [← HB.out]; exact HBW2.out.size))
      have HBWR := Aside0.mk hBw
      have c3 : wr.cell? ⟨g, 2, none⟩ = some (.map (some ma)) := pw_cell_below hBw c2
      have hsm : (f x).isSome = true := by rw [HQ6.out x, hlk]; rfl
      obtain ⟨val, hval⟩ := Option.isSome_iff_exists.1 hsm
      obtain ⟨v', hv', hva⟩ := HQ7.out x val hval
      rw [hlk] at hv'
      cases hv'
      have hva2 := (hva.keep (Kp.below hBw))
      obtain ⟨A2, c22, rfl, hC2, _⟩ := hva2.form (by have := (isV_len hv1).2; omega)
      have lk : (Instr.lookup 66 (.map (some ma)) (.int .i64 x) false).run Try.prog wr = .ok (.slice A2 v.length c22) wr := by
        have := (HQ2.out.below hBw).look law Try.underlying3 Try.underlying66 (zero23 _) x hv3
        rw [hval] at this
        exact this
      have HCL := Aside0.mk (clone_calls A2 c22 v wr hC2 (by have := isV_len hv1; omega) (by have := isV_len hv1; omega))
      have HV : Aside0 (isV v = true ∧ v.length = s.dim.toNat ∧ (Lit.int .i64 x).wf = true) := ⟨hv1, by omega, hv3⟩
      obtain ⟨vn, hvn⟩ : ∃ vn, v.length = vn := ⟨_, rfl⟩
      rw [hvn] at HCL lk
      have HBZ : Aside0 (B ≤ wr.heap.size) := ⟨by rw [← HB.out]; exact HBR.out.size⟩
      clear hp hkc hpm hv1 hv2 hv3 hlk hBw hsm hval hva hva2 hC2 hvn
      go_wp2_with (first
        | (go_at_call 30; refine HCL.out.mono ?_; rintro e w3 ⟨⟨nval, rfl, hnv⟩, hb3⟩; have HNV := Aside0.mk hnv; have HB3 := Aside0.mk hb3; have HOW4 : Aside0 ((w3.alloc (.cells #[.int .i64 x, nval] 37)).ownsRow B 37 2 (.slice A i c) i (rowE Q)) := ⟨own_move HOW.out (fun j hj => (below_alloc HB3.out _).block j (own_lt HOW.out j hj))⟩; obtain ⟨An, ln, cn, hnsl⟩ := slice_val hnv; subst hnsl; have HNW := Aside0.mk (news_cells w3 x (.slice An ln cn)); clear hnv hb3)
        | (at_builtin; refine wpList_append_mine rfl _ _ 22 rfl B 37 i0 (.agg #[.int .i64 0, .slice none 0 0]) 2 32 Try.underlying22 HI.out HZ0.out HZ1.out HZ2.out rfl (by decide) (.slice A i c) i (rowE Q) rfl HOW4.out ⟨w3.heap.size, 0, none⟩ 1 1 [.int .i64 x, .slice An ln cn] rfl rfl HNW.out (fun u hu => by simp at hu; rcases hu with rfl | rfl <;> rfl) (i + 1) rfl (by unfold maxLen; omega) (by omega) (Nat.le_trans HBZ.out (below_alloc HB3.out _).size) ?_; intro A' c' w5 hown5 hgrow5 hloc5; clear hloc5; have HO5 := Aside0.mk hown5; have HG5 := Aside0.mk hgrow5; clear hown5 hgrow5))
      have hadd := row_add HBZ.out HOW.out HOQ.out HB3.out HNV.out HV.out.1 HV.out.2.1 HV.out.2.2 HG5.out
      have HAD := Aside0.mk hadd
      clear hadd
      go_roundw
      case rel => exact ⟨i + 1, A', c', Q ++ [(x, v, .slice An ln cn)], rfl, rfl, hlt, ⟨HBR.out.trans HAD.out.2⟩, ⟨by have := HO5.out; unfold rowE at this ⊢; rw [List.flatMap_append]; simpa [encE] using this⟩, ⟨HAD.out.1⟩, ⟨by rw [List.map_append, HPT.out, List.take_add_one, HP.out]; rfl⟩⟩
      case measure => simp [intOf]; omega
    · have ei : i = N := by omega
      subst ei
      go_wp2_with fail
      go_ret
      have hN := HN.out
      have hlen : Q.length = s.L.length := by
        have := congrArg List.length HPT.out
        rw [List.length_map, List.length_take] at this
        omega
      refine ⟨⟨A, c, Q, by rw [hN]; rfl, hlen, ?_, HOQ.out, ?_⟩, HBW2.out.trans (HBR.out.mono (by rw [← HB.out]; exact HBW2.out.size))⟩
      · rw [hN]
        exact own_less HOW.out (by rw [← HB.out]; exact HBW2.out.size)
      · rw [HPT.out, ← hN, List.take_length]
end Go.Proofs.Ytealiaafdkhonaa.Vp

namespace Go.Proofs.Ytealiaafdkhonaa.Vp
open Go.RowKit Go.Sort Mb Base Go.Proofs.YtealiaafdkhonaaW.PrintWords Go.Proofs.YtealiaafdkhonaaW.PrintLast Go.Proofs.YtealiaafdkhonaaW.PrintMore
set_option linter.unusedVariables false
set_option linter.unusedSimpArgs false
theorem sub_len : ∀ (d L : List Int), d.Nodup → (∀ x ∈ d, x ∈ L) → d.length ≤ L.length
  | [], _, _, _ => Nat.zero_le _
  | x :: d, L, hn, hs => by
    obtain ⟨h1, h2⟩ := List.nodup_cons.1 hn
    have hx := hs x (by simp)
    have := sub_len d (L.erase x) h2 (fun y hy => (List.mem_erase_of_ne (fun (e : y = x) => h1 (by rw [← e]; exact hy))).2 (hs y (List.mem_cons_of_mem _ hy)))
    rw [List.length_erase_of_mem hx] at this
    have := List.length_pos_of_mem hx
    simp only [List.length_cons]
    omega
structure BuiltTree (W : World) (g ma mi : Nat) (s : TS) (e : Ending) (w' : World) : Prop where
  ret : e = .returned (.int .i64 0)
  ex : ∃ mi' T, TreeAt w' g ma mi' ⟨s.dim, s.L, fun x => (look s.L x).isSome, T⟩ ∧ (VOK s.dim.toNat T ∧ Ball T ∧ T.pts.Perm s.L) ∧ W.heap.size ≤ mi'
  turns : Turns (fun j => j = g ∨ j = ma ∨ j = mi) W w'
def cameV (done : List Int) (x : Int) : Option Value := if x ∈ done then some (.bool true) else none
theorem came_add (done : List Int) (x : Int) : upd (cameV done) x (some (.bool true)) = cameV (done ++ [x]) := by
  funext y
  unfold upd cameV
  by_cases h : y = x <;> simp [h]
set_option maxRecDepth 100000 in
set_option maxHeartbeats 4000000 in
theorem make_calls (W : World) (g ma mi : Nat) (s : TS) (h : TreeAt W g ma mi s) (hok : TSok s) : Calls Try.prog 18 #[.pointer (some ⟨g, 0, none⟩)] W (BuiltTree W g ma mi s) := by
  have hmm := @run_makeMap Try.prog
  have HT := Aside0.mk h
  have HOK := Aside0.mk hok
  have hd : 0 < s.dim := by have := hok.d1; omega
  have c0 := h.dimc
  have HPO := Aside0.mk (points_ok W g ma mi s h hok)
  have HGL := Aside0.mk h.lt
  obtain ⟨⟨root, f, ni, q1, q2, q3, q4, q5, q6, q7⟩, n1, n2, n3⟩ := h
  have HQ1 := Aside0.mk q1
  have HQ2 := Aside0.mk q2
  have HQ6 := Aside0.mk q6
  have HQ7 := Aside0.mk q7
  have HN1 := Aside0.mk n1
  obtain ⟨N, hN⟩ : ∃ N, s.L.length = N := ⟨_, rfl⟩
  have HN := Aside0.mk hN
  have HPB : Aside0 (∀ w3 A c Q, Q.length = N → w3.ownsRow W.heap.size 37 2 (.slice A N c) N (rowE Q) → (∀ q ∈ Q, OkE w3 s.dim.toNat q) → Calls Try.prog 37 #[.slice A N c] w3 (BuildDone w3 s.dim.toNat Q)) := ⟨fun w3 A c Q hl ho hq => by
    have h1 := own_le ho
    subst hl
    have h3 := hok.few
    have h4 := hok.d1
    have h5 := hok.d2
    exact build_calls s.dim.toNat (by omega) (by omega) w3 A c Q (by omega) (PRead.of_own ho hq) h1⟩
  clear hok q1 q2 q3 q4 q5 q6 q7 n1 n2 n3 hN
  go_enter Try.func18, Try.ntmps18
  go_upto_region 5 with (first
    | (go_at_call 28; refine (given_calls g s.dim hd _ c0).mono ?_; rintro e w' ⟨rfl, rfl⟩)
    | (go_at_call 22; refine HPO.out.mono ?_; rintro e w3 ⟨⟨A, c, Q, rfl, hql, hown, hokq, hpt⟩, hb3⟩; rw [HN.out] at hown; rw [HN.out]; have HBD := Aside0.mk (HPB.out w3 A c Q (hql.trans HN.out) hown hokq); have HPT := Aside0.mk hpt; have HB3 := Aside0.mk hb3; clear hown hokq hb3 hql hpt)
    | (go_at_call 37; refine HBD.out.mono ?_; rintro e w4 ⟨⟨T, p, rfl, hnl, hx⟩, hb4⟩; obtain ⟨pq, hpq⟩ := node_lo_ptr hnl; subst hpq; have HNL := Aside0.mk hnl; have HX := Aside0.mk hx; have HB4 : Aside0 (RowKit.Below W.heap.size W w4) := ⟨below_step HB3.out hb4⟩; have HG4 := Aside0.mk (blk_below HQ1.out HB4.out); have k1 : w4.cell? ⟨g, 1, none⟩ = some root := (blk_cell HG4.out 1).trans rfl; have k2 : w4.frozen? ⟨g, 1, none⟩ = false := blk_frozen HG4.out 1; have HG5 := Aside0.mk (blk_alloc (blk_put HG4.out 1 (.pointer pq) rfl) (.map #[] 0)); have k3 : ((w4.setCell ⟨g, 1, none⟩ (.pointer pq)).alloc (.map #[] 0)).cell? ⟨g, 3, none⟩ = some (.map (some mi)) := (blk_cell HG5.out 3).trans rfl; have k4 : ((w4.setCell ⟨g, 1, none⟩ (.pointer pq)).alloc (.map #[] 0)).frozen? ⟨g, 3, none⟩ = false := blk_frozen HG5.out 3; clear hnl hx hb4))
  obtain ⟨m, hm⟩ : ∃ m, w4.heap.size = m := ⟨_, rfl⟩
  have HM := Aside0.mk hm
  have hgl := HGL.out
  have hwm : W.heap.size ≤ m := by rw [← hm]; exact HB4.out.size
  have HG6 := Aside0.mk (blk_put HG5.out 3 (.map (some m)) rfl)
  have HA6 : Aside0 (IMap Try.prog 3 (((w4.setCell ⟨g, 1, none⟩ (.pointer pq)).alloc (.map #[] 0)).setCell ⟨g, 3, none⟩ (.map (some m))) ma f N) := ⟨by
    rw [← HN.out]
    exact ((((HQ2.out.below HB4.out).setCell (a := ⟨g, 1, none⟩) (Ne.symm HN1.out) _).alloc _).setCell (a := ⟨g, 3, none⟩) (Ne.symm HN1.out) _)⟩
  have HI6 : Aside0 (IMap Try.prog 3 (((w4.setCell ⟨g, 1, none⟩ (.pointer pq)).alloc (.map #[] 0)).setCell ⟨g, 3, none⟩ (.map (some m))) m (cameV []) 0) := ⟨by
    have h1 := IMap.made (P := Try.prog) (k := 3) (w4.setCell ⟨g, 1, none⟩ (.pointer pq))
    have h2 : (w4.setCell ⟨g, 1, none⟩ (.pointer pq)).heap.size = m := by rw [← hm]; simp [World.setCell]
    rw [h2] at h1
    exact (h1.setCell (a := ⟨g, 3, none⟩) (by show m ≠ g; omega) _).congr (fun x _ => rfl)⟩
  have HT6 : Aside0 (Turns (fun j => j = g) w4 (((w4.setCell ⟨g, 1, none⟩ (.pointer pq)).alloc (.map #[] 0)).setCell ⟨g, 3, none⟩ (.map (some m)))) :=
    ⟨turns_put (F := fun j => j = g) ((turns_put (F := fun j => j = g) (Turns.rfl_ _) (p := ⟨g, 1, none⟩) rfl _).trans_ (Turns.of_below (below_alloc (Below.refl _ _) _))) (p := ⟨g, 3, none⟩) rfl _⟩
  have hs6 : (((w4.setCell ⟨g, 1, none⟩ (.pointer pq)).alloc (.map #[] 0)).setCell ⟨g, 3, none⟩ (.map (some m))).heap.size = m + 1 := by rw [← hm]; simp [World.setCell]
  rw [hm]
  obtain ⟨w6, hw6⟩ : ∃ w6, ((w4.setCell ⟨g, 1, none⟩ (.pointer pq)).alloc (.map #[] 0)).setCell ⟨g, 3, none⟩ (.map (some m)) = w6 := ⟨_, rfl⟩
  rw [hw6] at HG6 HA6 HI6 HT6 hs6
  rw [hw6]
  clear hw6 k1 k2 k3 k4 hm HG5
  have k6 : w6.cell? ⟨g, 2, none⟩ = some (.map (some ma)) := (blk_cell HG6.out 2).trans rfl
  go_wp2_with (first
    | (at_range; refine wpList_range_imap rfl _ rfl law Try.underlying3 Try.underlying66 rfl HA6.out ?_; intro w0 cnt0 hrg0 hg0 hs0; have HR0 := Aside0.mk hrg0; have HG0 := Aside0.mk hg0; have HS0 := Aside0.mk hs0; clear hrg0 hg0 hs0)
    | go_in)
  go_frame
  rw [hs6] at HR0 HS0
  rw [hs6]
  have HGW0 := Aside0.mk (blk_grown HG6.out HG0.out (by simp))
  have HI0 := Aside0.mk (HI6.out.kept HG0.out (by simp))
  have HT0 : Aside0 (Turns (fun j => j = g ∨ j = m ∨ j = m + 1) w4 w0) := ⟨(HT6.out.wide (fun j h => .inl h)).trans_ ((Turns.of_grown HG0.out).wide (fun j h => by cases h))⟩
  clear k6 hs6
  go_loopw [3] (fun _ wr => ∃ (done : List Int) (cnt : Nat), Aside0 (IRange Try.prog 3 wr ma (m + 1) N f done cnt) ∧ Aside0 (IMap Try.prog 3 wr m (cameV done) done.length) ∧ Aside0 (wr.heap[g]? = some (.cells #[.int .i64 s.dim, .pointer pq, .map (some ma), .map (some m)] 69 (0, 0))) ∧
      Aside0 (Turns (fun j => j = g ∨ j = m ∨ j = m + 1) w4 wr)) (fun _ wr => wr.rangeLeft ma (m + 1))
  case atStart => exact ⟨[], cnt0, HR0, HI0, HGW0, HT0⟩
  case round =>
    obtain ⟨done, cnt, HRI, HIM, HGR, HTR⟩ := hrel
    go_wp2_with (first
      | (at_next; refine wpList_next_imap rfl _ rfl law Try.underlying3 rfl HRI.out ?_ ?_)
      | go_in)
    · intro hall
      have HALL := Aside0.mk hall
      clear hall
      go_wp2_with fail
      go_ret
      have hwr := HTR.out.size
      have hM := HM.out
      have hkp : Kp w4.heap.size w4 wr := Kp.turns HTR.out (fun j hj hf => by
        rcases hf with rfl | rfl | rfl
        · exact blk_soft HG4.out (by decide) (by decide)
        · omega
        · omega)
      have hlen : done.length ≤ 512 := by
        obtain ⟨D, left, _, _, h3, _, h5⟩ := HRI.out
        have h6 := sub_len done (s.L.map (·.1)) h3 (fun y hy => by
          have := (h5 y hy).2
          rw [HQ6.out y] at this
          exact look_isSome.1 this)
        rw [List.length_map] at h6
        have := HOK.out.few
        omega
      have hin : IMap Try.prog 3 wr m (inV fun x => (look s.L x).isSome) done.length := HIM.out.congr (fun x hx => by
        unfold inV cameV
        by_cases h1 : x ∈ done
        · obtain ⟨D, left, _, _, h3, _, h5⟩ := HRI.out
          have h2 := (h5 x h1).2
          rw [HQ6.out x] at h2
          rw [if_pos h1]; exact if_pos h2
        · rw [if_neg h1]
          rw [if_neg]
          intro h2
          have h2 : (look s.L x).isSome = true := h2
          rw [← HQ6.out x] at h2
          exact h1 (HALL.out x hx h2))
      have hma : IMap Try.prog 3 wr ma f s.L.length := (HQ2.out.below HB4.out).move (HTR.out.block ma (by omega) (by rintro (h | h | h) <;> first | omega | exact HN1.out h.symm))
      refine ⟨rfl, ⟨m, T, ⟨⟨.pointer pq, f, _, HGR.out, hma, hin, hlen, ((HNL.out.at_).keep hkp).more hwr, HQ6.out, fun x val hx => ?_⟩, HN1.out, by omega, by omega⟩, ⟨HX.out.1, HX.out.2.1, ?_⟩, hwm⟩, ⟨?_, ?_, ?_, ?_, ?_⟩⟩
      · obtain ⟨v, hv, hva⟩ := HQ7.out x val hx
        have h1 := (hva.keep (Kp.below HB4.out)).more HB4.out.size
        exact ⟨v, hv, (h1.keep hkp).more hwr⟩
      · rw [← HPT.out]; exact HX.out.2.2
      · exact HTR.out.os.trans HB4.out.os
      · exact HTR.out.tape.trans HB4.out.tape
      · exact HTR.out.output.trans HB4.out.output
      · omega
      · intro j hj hf
        exact (HTR.out.block j (by omega) (by rintro (h | h | h) <;> first | omega | exact hf (.inl h))).trans (HB4.out.block j hj)
    · intro x u wn cnt1 hwx hfx hxn hrg1 hlt hg1 hs1 hen
      have HRI1 := Aside0.mk hrg1
      have HCN := Aside0.mk hlt
      have HGN := Aside0.mk (blk_grown HGR.out hg1 (by simp; omega))
      have HIN := Aside0.mk (HIM.out.kept hg1 (by simp))
      have HTN : Aside0 (Turns (fun j => j = g ∨ j = m ∨ j = m + 1) w4 wn) := ⟨HTR.out.trans_ ((Turns.of_grown hg1).wide (fun j h => by cases h; exact .inr (.inr rfl)))⟩
      have k3 : wn.cell? ⟨g, 3, none⟩ = some (.map (some m)) := (blk_cell HGN.out 3).trans rfl
      have hlen : done.length ≤ 512 := by
        obtain ⟨D, left, _, _, h3, _, h5⟩ := HRI.out
        have h6 := sub_len done (s.L.map (·.1)) h3 (fun y hy => by
          have := (h5 y hy).2
          rw [HQ6.out y] at this
          exact look_isSome.1 this)
        rw [List.length_map] at h6
        have := HOK.out.few
        omega
      have HXN : Aside0 ((cameV done x).isSome = false) := ⟨by unfold cameV; rw [if_neg hxn]; rfl⟩
      have HLM := Aside0.mk HRI.out.left_eq
      clear hrg1 hlt hg1 hs1 hfx hxn HRI
      go_wp2_with (first
        | (refine wpList_store_imap rfl _ _ _ rfl law Try.underlying3 Try.underlying67 rfl HIN.out (by unfold maxLen; omega) x rfl hwx (.bool true) rfl ?_; intro w8 him8 htd8; have HI8 := Aside0.mk him8; have HT8 := Aside0.mk (turned_block htd8); clear him8 htd8)
        | go_in)
      have hma8 : ma < wn.heap.size := by have := HTN.out.size; have := HM.out; omega
      have HRI8 : Aside0 (IRange Try.prog 3 w8 ma (m + 1) N f (done ++ [x]) cnt1) := ⟨HRI1.out.move (HT8.out.block ma hma8 (by omega)) (HT8.out.block (m + 1) HRI1.out.lt (by omega))⟩
      simp only [Act.put]
      go_roundw
      case rel =>
        refine ⟨done ++ [x], cnt1, HRI8, ⟨?_⟩, ⟨HT8.out.keep HGN.out (by omega)⟩, ⟨HTN.out.trans_ (HT8.out.wide (fun j h => .inr (.inl h)))⟩⟩
        have h1 := HI8.out
        rw [HXN.out, came_add] at h1
        simpa using h1
      case measure => rw [HRI8.out.left_eq, HLM.out]; exact HCN.out
end Go.Proofs.Ytealiaafdkhonaa.Vp

namespace Go.Proofs.Ytealiaafdkhonaa.Vp
open Go.RowKit Go.Sort Mb Base Go.Proofs.YtealiaafdkhonaaW.PrintWords Go.Proofs.YtealiaafdkhonaaW.PrintLast Go.Proofs.YtealiaafdkhonaaW.PrintMore
set_option linter.unusedVariables false
set_option linter.unusedSimpArgs false
def BT (s : TS) (T : VT) : Prop := VOK s.dim.toNat T ∧ Ball T ∧ T.pts.Perm s.L
theorem Tidy.ok {s s' : TS} (h : Tidy BT s s') (hs : TSok s) : TSok s' ∧ s'.L = s.L ∧ s'.dim = s.dim := by
  cases h with
  | same => exact ⟨hs, rfl, rfl⟩
  | anew T hb => exact ⟨hs.built hb.1 hb.2.1 hb.2.2, rfl, rfl⟩
theorem tidies_all (W : World) (g ma mi : Nat) (s : TS) (h : TreeAt W g ma mi s) (hok : TSok s) : Calls Try.prog 31 #[.pointer (some ⟨g, 0, none⟩)] W (TidyDone BT W g ma mi s) := by
  have HT := Aside0.mk h
  have HMK := Aside0.mk (fun m => make_calls (W.drewN m) g ma mi s (h.drewN m) hok)
  have hf := hok.few
  have c2 := h.allc
  have c3 := h.insc
  have hl := fun m => (h.drewN m).len
  obtain ⟨⟨_, _, ni, _, _, q3, q4, _⟩, _⟩ := h
  have hl3 := fun (m : Nat) ty => (q3.drewN m).len Try.underlying67 ty
  obtain ⟨n, hnn⟩ : ∃ n, s.L.length = n := ⟨_, rfl⟩
  rw [hnn] at hl hf
  by_cases h0 : (16 : Int) + (ni : Int) < (n : Int) - (ni : Int)
  · clear q3 hnn hok
    go_enter Try.func31, Try.ntmps31
    go_upto_region 0 with (fail)
    go_quiet (fail)
    go_wp2_with (go_at_call 18; refine (HMK.out _).mono ?_; rintro e w9 ⟨rfl, ⟨mi9, T9, ht9, hb9, hm9⟩, htu9⟩; have HT9 := Aside0.mk ht9; have HB9 := Aside0.mk hb9; have HM9 := Aside0.mk hm9; have HU9 := Aside0.mk htu9; clear ht9 hb9 hm9 htu9)
    refine bodyPost_end (results_none rfl _ _ _) rfl ?_
    exact ⟨rfl, ⟨mi9, _, HT9.out, .anew T9 HB9.out, .inr HM9.out⟩, ((Turns.rfl_ W).drewN _).trans_ HU9.out⟩
  · clear q3 hnn hok
    go_enter Try.func31, Try.ntmps31
    go_upto_region 0 with (fail)
    go_quiet (fail)
    go_wp2_with fail
    refine bodyPost_end (results_none rfl _ _ _) rfl ?_
    exact ⟨rfl, ⟨mi, s, HT.out.drewN _, .same, .inl rfl⟩, (Turns.rfl_ W).drewN _⟩
/-- A tree that took a call: the points L, in the same box and map. -/
structure Took (W : World) (g ma mi : Nat) (dim : Int) (L : List (Int × List Int)) (v : Value) (e : Ending) (w' : World) : Prop where
  ret : e = .returned v
  ex : ∃ mi' s', TreeAt w' g ma mi' s' ∧ TSok s' ∧ s'.L = L ∧ s'.dim = dim ∧ (mi' = mi ∨ W.heap.size ≤ mi')
  turns : Turns (fun j => j = g ∨ j = ma ∨ j = mi) W w'
theorem put_ok (W : World) (g ma mi : Nat) (s : TS) (h : TreeAt W g ma mi s) (hok : TSok s) (id : Int) (hw : (Lit.int .i64 id).wf = true) (A : Option Addr) (c : Nat) (v : List Int) (hC : Kd.C (Kd.int .i64) W A v.length v) (hv : isV v = true) (hl : (v.length : Int) = s.dim)
    (was : Bool) (hwas : (look s.L id).isSome = was) (hfull : was = true ∨ s.L.length < 512) :
    Calls Try.prog 15 #[.pointer (some ⟨g, 0, none⟩), .agg #[.int .i64 id, .slice A v.length c]] W (Took W g ma mi s.dim (putL id v s.L) (.tuple #[.bool was, .int .i64 0])) := by
  have h5 := isV_len hv
  have hs : TSok (putS s id v) := hok.put hv hl hw (by rw [hwas]; exact hfull)
  have hd := hok.d1
  have h1 := put_calls BT W g ma mi s h (by omega) hok.rise hok.few id hw A c v hC (if_pos ⟨hv, hl⟩) h5.1 (by omega) was hwas hfull (fun W' hT => tidies_all W' g ma mi _ hT hs)
  refine h1.mono ?_
  rintro e w' ⟨h2, ⟨mi', s', h3, h4, h5⟩, h6⟩
  obtain ⟨h7, h8, h9⟩ := Tidy.ok h4 hs
  exact ⟨h2, ⟨mi', s', h3, h7, h8, h9, h5⟩, h6⟩
end Go.Proofs.Ytealiaafdkhonaa.Vp
