/- benc.Put: a chart's value as bytes. -/
import Derived.Test.YtjhalgoondljgaaDoorPv
import Derived.Test.YtjhalgoondljgaaDoorXc
namespace Go.Proofs.YtjhalgoondljgaaDoor.Re
open Go.Lib (decDigits itoa_length_le itoa_nonneg byteCells_length byteCells_append strCells_eq)
open Go.RowKit PChartTexts Go.Proofs.YtjhalgoondljgaaDoorW.PrintWords Go.Proofs.YtjhalgoondljgaaDoorW.PrintLast Go.Proofs.YtjhalgoondljgaaDoorW.PrintMore Base
set_option linter.unusedVariables false
set_option linter.unusedSimpArgs false

mutual
def toS : V → S36
  | .num n => ⟨1, n, ⟨#[]⟩, []⟩
  | .str s => ⟨2, 0, s, []⟩
  | .list l => ⟨3, 0, ⟨#[]⟩, toSs l⟩
def toSs : List V → List S36
  | [] => []
  | v :: l => toS v :: toSs l
end
theorem toSs_map (l : List V) : toSs l = l.map toS := by
  induction l with
  | nil => rfl
  | cons v l ih => rw [toSs, ih, List.map_cons]
theorem w64 (n : Int) (h0 : -9223372036854775808 ≤ n) (h1 : n ≤ 9223372036854775807) : wrap64 n = n := by
  unfold wrap64
  omega
def Ev (f : Nat → Option Int) (r : Int) : Prop := ∃ k0, ∀ k, k0 ≤ k → f k = some r

theorem check_l0 (wi : Int) (L : List S36) (hlen : L.length ≤ 65536) (hel : ∀ x ∈ L, Ev (fun k => benc_check.f k x.f0 x.f1 x.f2 x.f3 (wrap64 (wi + 1))) 0) : ∀ (m i : Nat), i + m = L.length → Ev (fun k => benc_check.l0 k wi 0 L (L.length : Int) (i : Int)) 0
  | 0, i, h => ⟨1, fun k hk => by
    obtain ⟨j, rfl⟩ : ∃ j, k = j + 1 := ⟨k - 1, by omega⟩
    simp only [benc_check.l0]
    rw [if_neg (by omega)]⟩
  | m + 1, i, h => by
    obtain ⟨k1, h1⟩ := check_l0 wi L hlen hel m (i + 1) (by omega)
    have hi : i < L.length := by omega
    obtain ⟨k2, h2⟩ := hel _ (List.getElem_mem hi)
    refine ⟨k1 + k2 + 1, fun k hk => ?_⟩
    obtain ⟨j, rfl⟩ : ∃ j, k = j + 1 := ⟨k - 1, by omega⟩
    simp only [benc_check.l0]
    rw [if_pos (by omega), if_pos (by omega), if_pos (by omega)]
    have e : rd_T36 L (i : Int) = L[i] := by
      unfold rd_T36
      rw [Int.toNat_natCast, List.getD_eq_getElem?_getD, List.getElem?_eq_getElem hi]
      rfl
    have h2' : benc_check.f j L[i].f0 L[i].f1 L[i].f2 L[i].f3 (wrap64 (wi + 1)) = some 0 := h2 j (by omega)
    rw [e, h2']
    simp only [Option.bind_some]
    rw [if_neg (by decide), if_neg (by decide), w64 _ (by omega) (by omega)]
    have := h1 j (by omega)
    simpa using this
/-- The check of a good value. -/
theorem check_good : ∀ (d : Nat) (v : V), Good d v → (∀ l, v = .list l → l.length ≤ 65536) → (enc v).length ≤ 65536 → ∀ (wi : Int), 0 ≤ wi → wi + d ≤ 8 → Ev (fun k => benc_check.f k (toS v).f0 (toS v).f1 (toS v).f2 (toS v).f3 wi) 0
  | d, .num n, _, _, _, wi, h0, h8 => ⟨2, fun k hk => by
    obtain ⟨j, rfl⟩ : ∃ j, k = j + 2 := ⟨k - 2, by omega⟩
    simp [benc_check.f, benc_check.j0, toS]⟩
  | d, .str s, hg, _, _, wi, h0, h8 => by cases hg
  | d, .list l, hg, _, hen, wi, h0, h8 => by
    cases hg with
    | list d l hl =>
      have hll := encs_len l hl
      rw [enc] at hen
      simp at hen
      obtain ⟨k1, h1⟩ := check_l0 wi (toSs l) (by rw [toSs_map, List.length_map]; omega) (fun x hx => by
        rw [toSs_map] at hx
        obtain ⟨v, hv, rfl⟩ := List.mem_map.1 hx
        rw [w64 _ (by omega) (by omega)]
        obtain ⟨i, hi, rfl⟩ := List.mem_iff_getElem.1 hv
        have hsp := congrArg List.length (encs_split l i hi)
        simp only [List.length_append] at hsp
        exact check_good d _ (hl _ hv) (fun l' e => by
          have := hl _ hv
          rw [e] at this hsp
          cases this with
          | list d' _ hl' =>
            have := encs_len l' hl'
            rw [enc] at hsp
            simp at hsp
            omega) (by omega) (wi + 1) (by omega) (by omega)) (toSs l).length 0 (by omega)
      refine ⟨k1 + 3, fun k hk => ?_⟩
      obtain ⟨j, rfl⟩ : ∃ j, k = j + 3 := ⟨k - 3, by omega⟩
      have := h1 j (by omega)
      simp only [benc_check.f, benc_check.j0, benc_check.j1, toS]
      simp only [if_true]
      have h9 : ¬ wi ≥ 8 := by omega
      simp [h9]
      simpa using this

theorem VAt.toK36 {G : Nat → Prop} {w : World} {v : V} {k n s l : Value} (h : VAt G w v k n s l) : k36.K w (toS v) [k, n, s, l] := by
  induction h with
  | num n => exact k36_mk w ⟨1, n, ⟨#[]⟩, []⟩ (A3 := none) (c3 := 0) (by simp) ⟨rfl, by simp, fun h => by simp at h⟩
  | str s => exact k36_mk w ⟨2, 0, s, []⟩ (A3 := none) (c3 := 0) (by simp) ⟨rfl, by simp, fun h => by simp at h⟩
  | list l A c f hs hcap hA h ih =>
    have e : (toSs l).length = l.length := by rw [toSs_map, List.length_map]
    rw [show Value.slice A l.length c = Value.slice A (toSs l).length c by rw [e]]
    refine k36_mk w ⟨3, 0, ⟨#[]⟩, toSs l⟩ (by rw [e]; exact hcap) ⟨rfl, by show (toSs l).length ≤ _; omega, fun h0 => ?_⟩
    rcases hA with hA | ⟨g, rfl, hg, hc⟩
    · subst hA; simp [toSs] at h0
    · refine ⟨_, rfl, fun j p hp => ?_⟩
      rw [toSs_map, List.getElem?_map] at hp
      obtain ⟨v, hv, rfl⟩ := Option.map_eq_some_iff.1 hp
      obtain ⟨hj, rfl⟩ := List.getElem?_eq_some_iff.1 hv
      refine ⟨[f j 0, f j 1, f j 2, f j 3], rfl, ih j hj, fun i u hu => ?_⟩
      have hsz : k36.sz = 4 := rfl
      have hi : i < 4 := (List.getElem?_eq_some_iff.1 hu).1
      rw [hsz, YtjhalgoondljgaaDoorW.PrintWords.add_plain, hc j i hj hi]
      rw [← hu]
      have : i = 0 ∨ i = 1 ∨ i = 2 ∨ i = 3 := by omega
      rcases this with rfl | rfl | rfl | rfl <;> rfl
theorem bcheck_calls {G : Nat → Prop} {w : World} {v : V} {k n s l : Value} (h : VAt G w v k n s l) (d : Nat) (hg : Good d v) (hd : d ≤ 8) (hen : (enc v).length ≤ 65536) : Calls Tryd.prog 21 #[.agg #[k, n, s, l], .int .i64 0] w fun e w' => e = .returned (.int .i64 0) ∧ Below w.heap.size w w' := by
  obtain ⟨k0, h0⟩ := check_good d v hg (fun l' e => by
    rw [e] at hg hen
    cases hg with
    | list d' _ hl' =>
      have := encs_len l' hl'
      rw [enc] at hen
      simp at hen
      omega) hen 0 (by omega) (by omega)
  obtain ⟨A3, c3, e, hl3, hC⟩ := k36_open h.toK36
  injection e with e0 e; injection e with e1 e; injection e with e2 e; injection e with e3 _
  subst e0 e1 e2 e3
  exact benc_check.calls k0 _ _ _ _ _ _ 0 0 w hC hl3 (h0 k0 (Nat.le_refl _))

set_option maxRecDepth 100000 in
set_option maxHeartbeats 4000000 in
theorem bput_calls {G : Nat → Prop} {w : World} {v : V} {k n s l : Value} (h : VAt G w v k n s l) (d : Nat) (hg : Good d v) (hd : d ≤ 8) (hen : (enc v).length ≤ 65536) (ht : Tab w) :
    Calls Tryd.prog 12 #[.agg #[k, n, s, l]] w fun e w' => e = .returned (.tuple #[.string ⟨(enc v).toArray⟩, .int .i64 0]) ∧ Below w.heap.size w w' := by
  obtain ⟨x0, x1, x2, A3, n3, c3, rfl, rfl, rfl, rfl⟩ := h.form
  have HV := Aside0.mk (h.mono (H := fun g => g < w.heap.size) (fun i _ hi => hi))
  have HG := Aside0.mk hg
  have HT := Aside0.mk ht
  obtain ⟨B, hB⟩ : ∃ B, w.heap.size = B := ⟨_, rfl⟩
  have HBE := Aside0.mk hB
  obtain ⟨E, hE⟩ : ∃ E, enc v = E := ⟨_, rfl⟩
  have HEE := Aside0.mk hE
  rw [hE] at hen ⊢
  clear h hg ht hE
  go_enter Tryd.func12, Tryd.ntmps12
  go_wp2_with fail
  have hw1 := below_alloc (Below.refl w.heap.size w) (.cells #[.int .i64 x0, .int .i64 x1, .string x2, .slice A3 n3 c3] 36)
  have HV1 := Aside0.mk (HV.out.turns (F := fun _ => False) (Turns.of_below hw1) (fun _ _ _ h => h))
  have HW1 := Aside0.mk hw1
  have HB1 := Aside0.mk (blk_new w (.cells #[.int .i64 x0, .int .i64 x1, .string x2, .slice A3 n3 c3] 36))
  rw [hB] at HB1
  generalize w.alloc (.cells #[.int .i64 x0, .int .i64 x1, .string x2, .slice A3 n3 c3] 36) = w1 at hw1 HV1 HW1 HB1 ⊢
  clear hw1 hB
  refine (bcheck_calls HV1.out d HG.out hd (by rw [HEE.out]; exact hen)).mono ?_
  rintro e w2 ⟨rfl, hb2⟩
  have HB2 := Aside0.mk (blk_below HB1.out hb2)
  have HW2 := Aside0.mk (below_step HW1.out hb2)
  have HV2 := Aside0.mk (HV1.out.turns (F := fun _ => False) (Turns.of_below hb2) (fun _ _ _ h => h))
  clear hb2
  go_upto_region 5 with (fail)
  obtain ⟨b, hb⟩ : ∃ b, w2.heap.size = b := ⟨_, rfl⟩
  have hw3 := below_alloc (Below.refl w2.heap.size w2) (.cells #[.pointer none, .slice none 0 0] 50)
  have HV3 := Aside0.mk (HV2.out.turns (F := fun _ => False) (Turns.of_below hw3) (fun _ _ _ h => h))
  have HW3 := Aside0.mk (below_step HW2.out hw3)
  have HP3 := Aside0.mk (blk_new w2 (.cells #[.pointer none, .slice none 0 0] 50))
  have HB3 := Aside0.mk (blk_below HB2.out hw3)
  have HS3 := Aside0.mk hw3.size
  rw [hb] at HP3
  rw [hb]
  generalize w2.alloc (.cells #[.pointer none, .slice none 0 0] 50) = w3 at hw3 HV3 HW3 HP3 HB3 HS3 ⊢
  have hbw : w.heap.size ≤ b := by have := HW2.out.size; omega
  have HSZ : Aside0 (w.heap.size ≤ w3.heap.size) := ⟨HW3.out.size⟩
  have HBU : Aside0 (Lib.IsBuilderF 50 5 w.heap.size b (Lib.byteCells []) w3) := ⟨.inl ⟨hbw, .slice none 0 0, HP3.out, World.ownsRowF_nil _ _ _ _, by simp [Value.ownBlock]⟩⟩
  have HTT : Aside0 (∀ W, Below w.heap.size w3 W → Tab W) := ⟨fun W hW => HT.out.below (HW3.out.trans hW)⟩
  clear hw3 hb
  have r0 : w3.cell? ⟨B, 0, none⟩ = some (.int .i64 x0) := (blk_cell HB3.out 0).trans rfl
  have r1 : w3.cell? ⟨B, 1, none⟩ = some (.int .i64 x1) := (blk_cell HB3.out 1).trans rfl
  have r2 : w3.cell? ⟨B, 2, none⟩ = some (.string x2) := (blk_cell HB3.out 2).trans rfl
  have r3 : w3.cell? ⟨B, 3, none⟩ = some (.slice A3 n3 c3) := (blk_cell HB3.out 3).trans rfl
  go_wp2_with fail
  refine (put_ok d w3 w.heap.size b [] v _ _ _ _ HG.out HV3.out HBU.out HSZ.out (by rw [HEE.out]; simpa using hen) (HT.out.below HW3.out) HTT.out).mono ?_
  rintro e w4 ⟨rfl, hi4, hb4, ho4⟩
  rw [List.nil_append, HEE.out] at hi4
  have HI4 := Aside0.mk hi4
  have HB4 := Aside0.mk (HW3.out.trans hb4)
  clear hi4 hb4 ho4 r0 r1 r2 r3
  go_wp2_with fail
  refine (Tryd.Builder_Len w.heap.size b _ w4 HI4.out).mono ?_
  rintro e w5 ⟨rfl, hw5⟩
  rw [hw5, byteCells_length]
  clear hw5 w5
  have hen' : ¬ (65536 : Int) < (E.length : Int) := by omega
  go_wp2_with fail
  refine (Tryd.Builder_String w.heap.size b E w4 HI4.out HB4.out.size).mono ?_
  rintro e w6 ⟨rfl, hi6, hb6, ho6⟩
  have HB6 := Aside0.mk (HB4.out.trans hb6)
  clear hi6 hb6 ho6
  go_wp2_with fail
  go_ret2
  exact ⟨rfl, HB6.out⟩
end Go.Proofs.YtjhalgoondljgaaDoor.Re
