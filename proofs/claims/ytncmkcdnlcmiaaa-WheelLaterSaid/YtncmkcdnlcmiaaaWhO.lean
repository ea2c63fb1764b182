/- WheelOnce's walk. -/
import Derived.Test.YtncmkcdnlcmiaaaWhM
namespace Go.Proofs.Ytncmkcdnlcmiaaa.Wh
open Go.RowKit Mb Go.Proofs.YtncmkcdnlcmiaaaW.PrintWords Go.Proofs.YtncmkcdnlcmiaaaW.PrintLast Go.Proofs.YtncmkcdnlcmiaaaW.PrintMore
set_option linter.unusedVariables false
set_option linter.unusedSimpArgs false

def dsk (xs : List Int) (k : Nat) : List Int := (xs.take k).map (fun x => 0 + (1 + x % 64))
theorem dsk_len (xs : List Int) (k : Nat) (h : k ≤ xs.length) : (dsk xs k).length = k := by unfold dsk; rw [List.length_map, List.length_take]; omega
theorem dsk_succ (xs : List Int) (k : Nat) (h : k < xs.length) : dsk xs (k + 1) = dsk xs k ++ [0 + (1 + xs[k] % 64)] := by
  unfold dsk
  rw [List.take_add_one, List.getElem?_eq_getElem h, List.map_append]; rfl
theorem dsk_get (xs : List Int) (k m : Nat) (h : k < m) (hm : m ≤ xs.length) (y : Int) (hy : 1 + xs[k] % 64 = y) : ∃ h2 : k < (dsk xs m).length, (dsk xs m)[k] = y := by
  refine ⟨by rw [dsk_len xs m hm]; exact h, ?_⟩
  unfold dsk
  rw [List.getElem_map, List.getElem_take]
  omega
theorem idxF_app : ∀ (l1 l2 : List Int) (i : Nat) (t : Int), idxF i (l1 ++ l2) t = idxF i l1 t ++ idxF (i + l1.length) l2 t
  | [], l2, i, t => by simp [idxF]
  | d :: l1, l2, i, t => by
    rw [List.cons_append, idxF, idxF, idxF_app l1 l2 (i + 1) t, show i + 1 + l1.length = i + (d :: l1).length by simp; omega]
    split <;> rfl
theorem idx_no (ds : List Int) (i : Nat) (t : Int) (h : i < ds.length) (e : ds[i] ≠ t) : idxF 0 (ds.take (i + 1)) t = idxF 0 (ds.take i) t := by
  rw [List.take_add_one, List.getElem?_eq_getElem h, idxF_app]
  simp [idxF, e]
theorem idx_yes (ds : List Int) (i : Nat) (t : Int) (h : i < ds.length) (e : ds[i] = t) :
    (idxF 0 (ds.take (i + 1)) t).length = (idxF 0 (ds.take i) t).length + 1 ∧ ∃ hk : (idxF 0 (ds.take i) t).length < (idxF 0 ds t).length, (idxF 0 ds t)[(idxF 0 (ds.take i) t).length] = (i : Int) := by
  have e1 : idxF 0 (ds.take (i + 1)) t = idxF 0 (ds.take i) t ++ [(i : Int)] := by
    rw [List.take_add_one, List.getElem?_eq_getElem h, idxF_app]
    simp [idxF, e]
    omega
  have e2 : idxF 0 ds t = idxF 0 (ds.take (i + 1)) t ++ idxF (0 + (ds.take (i + 1)).length) (ds.drop (i + 1)) t := by rw [← idxF_app, List.take_append_drop]
  have e3 : idxF 0 ds t = idxF 0 (ds.take i) t ++ ((i : Int) :: idxF (0 + (ds.take (i + 1)).length) (ds.drop (i + 1)) t) := by rw [e2, e1]; simp
  refine ⟨by rw [e1]; simp, ?_⟩
  generalize idxF 0 (ds.take i) t = u at *
  generalize idxF (0 + (ds.take (i + 1)).length) (ds.drop (i + 1)) t = v at *
  simp only [e3]
  exact ⟨by simp, by simp⟩
theorem cnt_end (ds : List Int) (now : Int) (h : ∀ d ∈ ds, d ≤ now) : cnt ds now = 0 := by
  unfold cnt
  rw [List.filter_eq_nil_iff.2 (fun d hd => by have := h d hd; simp; omega)]
  rfl
theorem dsk_le (xs : List Int) (m : Nat) : ∀ d ∈ dsk xs m, d ≤ 64 := by
  intro d hd
  unfold dsk at hd
  obtain ⟨x, _, rfl⟩ := List.mem_map.1 hd
  omega
theorem dsk_ge (xs : List Int) (m : Nat) : ∀ d ∈ dsk xs m, 1 ≤ d := by
  intro d hd
  unfold dsk at hd
  obtain ⟨x, _, rfl⟩ := List.mem_map.1 hd
  omega
theorem cnt_all (ds : List Int) (h : ∀ d ∈ ds, 1 ≤ d) : cnt ds 0 = ds.length := by
  unfold cnt
  rw [List.filter_eq_self.2 (fun d hd => by have := h d hd; simp; omega)]

set_option maxRecDepth 100000 in
set_option maxHeartbeats 1000000 in
theorem once_calls (w : World) (A : Option Addr) (c : Nat) (xs : List Int) (hr : Kd.C (Kd.int .i64) w A xs.length xs) (hc : xs.length ≤ c) : Calls Try.prog 3 #[.slice A xs.length c] w (Yes w) := by
  have HR := Aside0.mk hr
  clear hr hc
  go_enter Try.func3, Try.ntmps3
  go_wp2_with fail
  refine (wnew _).mono ?_
  rintro e W1 ⟨F, p, rfl, h1, hB, hb1⟩
  have HW1 : Aside0 (Many W1 F p 0 [] 0) := ⟨many_new h1⟩
  have HM : Aside0 (Mine w W1 F) := ⟨Mine.mk hB hb1⟩
  clear h1 hB hb1
  go_wp2_with fail
  obtain ⟨m, hm⟩ : ∃ m : Nat, min (xs.length : Int) 100 = (m : Int) := ⟨min xs.length 100, by omega⟩
  have hmx : m ≤ xs.length := by omega
  have hm1 : m ≤ 100 := by omega
  simp only [hm]
  clear hm
  go_loopw [5] (fun i wr => ∃ (k : Nat) (F' : Nat → Prop), k ≤ m ∧ i = .int .i64 k ∧ Aside0 (Many wr F' p 0 (dsk xs k) k) ∧ Aside0 (Mine w wr F')) (fun i _ => m - (intOf i).toNat)
  case atStart => exact ⟨0, F, by omega, rfl, HW1, HM⟩
  case round =>
    clear HW1 HM
    obtain ⟨k, F', hk, rfl, HW, HM⟩ := hrel
    by_cases hlt : k < m
    · have hlt' : (k : Int) < (m : Int) := by omega
      have hk0 : (0 : Int) ≤ (k : Int) := by omega
      have hkl : (k : Int) < (xs.length : Int) := by omega
      obtain ⟨ad, ea, hx⟩ := at_nat HR.out k (by omega)
      cases ea
      replace hx := (HM.out.below.cell (World.block_lt_of_cell? w _ hx)).trans hx
      obtain ⟨z, i63, hz, hz0, hz1⟩ : ∃ z : Int, bits .and .i64 xs[k] 63 = z ∧ 1 + xs[k] % 64 = 1 + z ∧ 0 ≤ z ∧ z ≤ 63 := ⟨_, i64_and63 xs[k], rfl, by omega, by omega⟩
      have HY := Aside0.mk hz
      clear hz
      go_wp2_with fail
      refine (many_set HW.out (k : Int) (1 + z) (by rw [dsk_len xs k (by omega)]) (by omega) (by omega) (by rw [dsk_len xs k (by omega)]; omega) (by omega) (by omega) (by omega)).mono ?_
      rintro e w' ⟨rfl, ⟨F2, h2, hF2⟩, ht2⟩
      rw [← HY.out, ← dsk_succ xs k (by omega)] at h2
      have HW2 := Aside0.mk h2
      have HM2 := Aside0.mk (HM.out.set ht2 hF2)
      clear h2 hF2 ht2
      go_wp2_with fail
      go_roundw
      case rel => exact ⟨k + 1, F2, by omega, by go_num, HW2, HM2⟩
      case measure => simp [intOf]; omega
    · have ek : k = m := by omega
      subst ek
      have hlt' : ¬ (k : Int) < (k : Int) := by omega
      have hdl := dsk_len xs k hmx
      go_wp2_with fail
      go_loopw [6, 7] (fun left t wr => ∃ (j cn : Nat), j ≤ 64 ∧ t = .int .i64 (j + 1) ∧ left = .int .i64 cn ∧ cn ≤ 100 ∧ Aside0 (cnt (dsk xs k) j = cn) ∧ Aside0 (Many wr F' p j (dsk xs k) k) ∧ Aside0 (Mine w wr F')) (fun _ t _ => 65 - (intOf t).toNat)
      case atStart => exact ⟨0, k, by omega, rfl, rfl, hm1, ⟨by rw [show ((0 : Nat) : Int) = 0 from rfl, cnt_all _ (dsk_ge xs k), hdl]⟩, HW, HM⟩
      case round =>
        clear HW HM
        obtain ⟨j, cn, hj, rfl, rfl, hcn, HCN, HW, HM⟩ := hrel
        by_cases hlt2 : j < 64
        · have hlt3 : (j : Int) + 1 ≤ 64 := by omega
          go_wp2_with fail
          refine (many_tick HW.out (by omega) (by omega) (by omega)).mono ?_
          rintro e w2 ⟨⟨Av, cv, rfl, hown⟩, h2, h3⟩
          have hq := idxF_len (dsk xs k) 0 (j : Int)
          obtain ⟨q, hql⟩ : ∃ q, (idxF 0 (dsk xs k) ((j : Int) + 1)).length = q := ⟨_, rfl⟩
          rw [hql] at hq hown
          rw [hql]
          have HOW := Aside0.mk hown
          have HW2 := Aside0.mk h2
          have HM2 := Aside0.mk (HM.out.tick h3)
          have HQL := Aside0.mk hql
          rw [HCN.out] at hq
          have HQ := Aside0.mk hq
          have hqle : q ≤ cn := hq.2
          have HDL := Aside0.mk hdl
          clear h2 h3 hown hql hq hdl
          go_wp2_with fail
          go_loop [9, 10] (fun kk i => ∃ (a u : Nat), a ≤ k ∧ i = .int .i64 a ∧ kk = .int .i64 u ∧ u ≤ q ∧ Aside0 ((idxF 0 ((dsk xs k).take a) ((j : Int) + 1)).length = u)) (fun _ i => k - (intOf i).toNat)
          case atStart => exact ⟨0, 0, by omega, rfl, rfl, by omega, ⟨rfl⟩⟩
          case round =>
            obtain ⟨a, u, ha, rfl, rfl, huq, HU⟩ := hrel
            by_cases hla : a < k
            · have hla' : (a : Int) < (k : Int) := by omega
              have ha0 : (0 : Int) ≤ (a : Int) := by omega
              have hax : (a : Int) < (xs.length : Int) := by omega
              obtain ⟨ad, ea, hx⟩ := at_nat HR.out a (by omega)
              cases ea
              replace hx := (HM2.out.below.cell (World.block_lt_of_cell? w _ hx)).trans hx
              obtain ⟨z, i63, hz, hz0, hz1⟩ : ∃ z : Int, bits .and .i64 xs[a] 63 = z ∧ 1 + xs[a] % 64 = 1 + z ∧ 0 ≤ z ∧ z ≤ 63 := ⟨_, i64_and63 xs[a], rfl, by omega, by omega⟩
              obtain ⟨hg1, hg2⟩ := dsk_get xs a k hla hmx (1 + z) hz
              clear hz
              by_cases hyj : 1 + z = (j : Int) + 1
              · have g1 : (1 + z == (j : Int) + 1) = true := by rw [beq_iff_eq]; exact hyj
                obtain ⟨hi1, hi2, hi3⟩ := idx_yes (dsk xs k) a ((j : Int) + 1) hg1 (by rw [hg2, hyj])
                have HI1 := Aside0.mk hi1
                have hi4 : u < q := by rw [HU.out, HQL.out] at hi2; exact hi2
                obtain ⟨ad2, ea2, hx2⟩ := at_nat (show Kd.C (Kd.int .i64) w2 Av (idxF 0 (dsk xs k) ((j : Int) + 1)).length (idxF 0 (dsk xs k) ((j : Int) + 1)) from by rw [HQL.out]; exact Kd.C_of_reads (own_reads' HOW.out)) (idxF 0 ((dsk xs k).take a) ((j : Int) + 1)).length hi2
                cases ea2
                rw [hi3, HU.out] at hx2
                have hi5 : (u : Int) < (q : Int) := by omega
                have hi6 : (0 : Int) ≤ (u : Int) := by omega
                clear hi1 hi2 hi3 hyj hg2
                go_wp2_with fail
                go_round
                case rel => exact ⟨a + 1, u + 1, by omega, by go_num, by go_num, by omega, ⟨by rw [HI1.out, HU.out]⟩⟩
                case measure => simp [intOf]; omega
              · have g1 : (1 + z == (j : Int) + 1) = false := by rw [beq_eq_false_iff_ne]; exact hyj
                have hi1 := idx_no (dsk xs k) a ((j : Int) + 1) hg1 (by rw [hg2]; exact hyj)
                have HI1 := Aside0.mk hi1
                clear hi1 hyj hg2
                go_wp2_with fail
                go_round
                case rel => exact ⟨a + 1, u, by omega, by go_num, rfl, by omega, ⟨by rw [HI1.out, HU.out]⟩⟩
                case measure => simp [intOf]; omega
            · have ea : a = k := by omega
              subst ea
              have hla' : ¬ (a : Int) < (a : Int) := by omega
              have huq2 : u = q := by
                have := HU.out
                rw [List.take_of_length_le (by rw [HDL.out]; omega), HQL.out] at this
                exact this.symm
              subst huq2
              have hcn' : (0 : Int) ≤ (cn : Int) - (u : Int) := by omega
              go_wp2_with fail
              refine (wlen HW2.out.is ((cn : Int) - (u : Int)) (by have := HQ.out; omega)).mono ?_
              rintro e w3 ⟨rfl, rfl⟩
              go_wp2_with fail
              go_roundw
              case rel => exact ⟨j + 1, cn - u, by omega, by go_num, by go_num, by omega, ⟨by have := HQ.out.1; rw [show (((j + 1 : Nat)) : Int) = (j : Int) + 1 by omega]; omega⟩, HW2, HM2⟩
              case measure => simp [intOf]; omega
        · have ej : j = 64 := by omega
          subst ej
          have hlt3 : ¬ ((64 : Nat) : Int) + 1 ≤ 64 := by omega
          have hc0 : cn = 0 := by
            have h1 := HCN.out
            rw [show ((64 : Nat) : Int) = 64 from rfl, cnt_end _ _ (dsk_le xs k)] at h1
            exact h1.symm
          subst hc0
          go_wp2_with (go_at_call 13; refine (awake_calls _).mono ?_; rintro e w7 ⟨rfl, hb7⟩)
          go_ret
          exact ⟨rfl, below_then HM.out.below HM.out.below.size hb7⟩

end Go.Proofs.Ytncmkcdnlcmiaaa.Wh
