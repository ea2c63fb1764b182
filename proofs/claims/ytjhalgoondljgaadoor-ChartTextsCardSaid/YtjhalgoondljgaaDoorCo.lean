/- chart.Of: the chart of a text, or that it is none. -/
import Derived.Test.YtjhalgoondljgaaDoorTx
import Derived.Test.YtjhalgoondljgaaDoorOl
namespace Go.Proofs.YtjhalgoondljgaaDoor.Re
open Go.Lib (decDigits itoa_length_le itoa_nonneg byteCells_length byteCells_append strCells_eq)
open Go.RowKit PChartTexts Ch Go.Proofs.YtjhalgoondljgaaDoorW.PrintWords Go.Proofs.YtjhalgoondljgaaDoorW.PrintLast Go.Proofs.YtjhalgoondljgaaDoorW.PrintMore Base
set_option linter.unusedVariables false
set_option linter.unusedSimpArgs false

def numOf : V → Int
  | .num n => n
  | _ => 0
def listOf : V → List V
  | .list l => l
  | _ => []
theorem VAt.num_ {G : Nat → Prop} {w : World} {v : V} {k n s l : Value} (h : VAt G w v k n s l) : n = .int .i64 (numOf v) := by cases h <;> rfl
theorem VAt.list_ {G : Nat → Prop} {w : World} {v : V} {k n s l : Value} (h : VAt G w v k n s l) : ∃ A c, l = .slice A (listOf v).length c ∧ (listOf v).length ≤ 4096 ∧
    ((listOf v) = [] ∨ ∃ (g : Nat) (f : Nat → Nat → Value), A = some ⟨g, 0, none⟩ ∧ (∀ i j, i < (listOf v).length → j < 4 → w.cell? ⟨g, i * 4 + j, none⟩ = some (f i j)) ∧ ∀ i (hi : i < (listOf v).length), VAt G w (listOf v)[i] (f i 0) (f i 1) (f i 2) (f i 3)) := by
  cases h with
  | num n => exact ⟨none, 0, rfl, by simp [listOf], .inl rfl⟩
  | str s => exact ⟨none, 0, rfl, by simp [listOf], .inl rfl⟩
  | list l A c f hs hcap hA h =>
    refine ⟨A, c, rfl, hs, ?_⟩
    rcases hA with hA | ⟨g, e, _, hc⟩
    · exact .inl hA
    · exact .inr ⟨g, f, e, hc, h⟩
/-- What Of makes of a value. -/
def epOf (v : V) : Int := numOf ((listOf v).getD 0 (.num 0))
def nodesOf (v : V) : List Int := (listOf ((listOf v).getD 1 (.num 0))).map numOf
def okV (v : V) (s : ByteArray) : Prop := (listOf v).length = 2 ∧ mayB (epOf v) (nodesOf v) = true ∧ chartT (epOf v) (nodesOf v) = s
def COfDone (N : Prop) (Q : V → Nat → Prop) (s : ByteArray) (w : World) (e : Ending) (w' : World) : Prop :=
  Below w.heap.size w w' ∧ (((N ∨ ∃ v c, Q v c ∧ (c < s.size ∨ ¬ okV v s)) ∧ e = .returned (.tuple #[.agg #[.int .i64 0, .slice none 0 0], .int .i64 20])) ∨
    ∃ (v : V) (c : Nat) (A : Option Addr) (cp : Nat), Q v c ∧ okV v s ∧ e = .returned (.tuple #[.agg #[.int .i64 (epOf v), .slice A (nodesOf v).length cp], .int .i64 0]) ∧ Kd.C (Kd.int .i64) w' A (nodesOf v).length (nodesOf v) ∧ (nodesOf v).length ≤ cp)

theorem C_own {W : World} {B : Nat} {A : Option Addr} {c : Nat} {l : List Int} (h : W.ownsRow B 3 1 (.slice A l.length c) l.length (nums .i64 l)) : Kd.C (Kd.int .i64) W A l.length l := Kd.C_of_reads (own_reads' h)
theorem own_cap3 {W : World} {b n c : Nat} {A : Option Addr} {xs : List Value} (h : W.ownsRow b 3 1 (.slice A n c) n xs) : n ≤ c := by
  rcases h.2 with ⟨e1, e2⟩ | ⟨g', cap, cur, e1, hB, hg, hcap, _⟩
  · omega
  · injection e1 with _ _ e3
    omega
theorem nums_take {xs : List Int} {k : Nat} (h : k < xs.length) : nums .i64 (xs.take (k + 1)) = nums .i64 (xs.take k) ++ [.int .i64 (rd xs (k : Int))] := by
  rw [← List.take_append_getElem h, nums, List.map_append]
  unfold rd
  rw [Int.toNat_natCast, List.getD_eq_getElem?_getD, List.getElem?_eq_getElem h]
  rfl
theorem bytes_ne {a b : ByteArray} (h : ¬ a = b) : ¬ a.toList = b.toList := fun e => h (by
  rw [ByteArray.toList_eq, ByteArray.toList_eq] at e
  cases a; cases b
  simpa using e)
theorem info3 : (Tryd.prog.info? 3).map (fun i => (i.zero, i.size, i.bytes)) = some (some (.int .i64 0), 1, 8) := by kernel_rfl

set_option maxRecDepth 100000 in
set_option maxHeartbeats 4000000 in
theorem cof_calls (N : Prop) (Q : V → Nat → Prop) (s : ByteArray) (hs : s.size ≤ 2048) (hv : ReadsTo N Q s) (w : World) (ht : Tab w) : Calls Tryd.prog 7 #[.string s] w (COfDone N Q s w) := by
  have HV := Aside0.mk hv
  have HT := Aside0.mk ht
  clear hv ht
  obtain ⟨B, hB⟩ : ∃ B, w.heap.size = B := ⟨_, rfl⟩
  have HBE := Aside0.mk hB
  go_enter Tryd.func7, Tryd.ntmps7
  go_wp2_with fail
  obtain ⟨w2, hw2⟩ : ∃ w2, (w.alloc (.cells #[.int .i64 0, .slice none 0 0] 24)) = w2 := ⟨_, rfl⟩
  have HB2 : Aside0 (w2.heap[B]? = some (.cells #[.int .i64 0, .slice none 0 0] 24 (0, 0))) := ⟨by rw [← hw2, ← HBE.out]; exact blk_new _ _⟩
  have HW2 : Aside0 (Below w.heap.size w w2) := ⟨by rw [← hw2]; exact below_alloc (Below.refl _ _) _⟩
  have HS2 : Aside0 (w2.heap.size = B + 1) := ⟨by rw [← hw2, size_alloc, HBE.out]⟩
  rw [hw2]
  clear hw2 hB
  refine (only_calls N Q s hs HV.out w2).mono ?_
  rintro e w3 ⟨hb3, hcase⟩
  have HW3 : Aside0 (Below w.heap.size w w3) := ⟨HW2.out.trans (hb3.mono HW2.out.size)⟩
  have HB3 : Aside0 (w3.heap[B]? = some (.cells #[.int .i64 0, .slice none 0 0] 24 (0, 0))) := ⟨blk_below HB2.out hb3⟩
  have HS3 : Aside0 (B < w3.heap.size) := ⟨by have := hb3.size; rw [HS2.out] at this; omega⟩
  clear hb3
  obtain ⟨p, hp⟩ : ∃ p, w3.heap.size = p := ⟨_, rfl⟩
  have HP := Aside0.mk hp
  have hBp : ¬ B = p := by have := HS3.out; omega
  rcases hcase with ⟨hN, er, her, rfl⟩ | ⟨v, c, k, n, t, l, rfl, hv, hq, hcs⟩
  · have HN : Aside0 (N ∨ ∃ v c, Q v c ∧ (c < s.size ∨ ¬ okV v s)) := ⟨by
      rcases hN with h | ⟨v, c, h1, h2⟩
      · exact .inl h
      · exact .inr ⟨v, c, h1, .inl h2⟩⟩
    clear hN
    go_upto_region 3 with (fail)
    obtain ⟨w4, hw4⟩ : ∃ w4, w3.alloc (.cells #[.int .i64 0, .int .i64 0, .string ⟨#[]⟩, .slice none 0 0] 36) = w4 := ⟨_, rfl⟩
    have HB4 : Aside0 (w4.heap[B]? = some (.cells #[.int .i64 0, .slice none 0 0] 24 (0, 0))) := ⟨by rw [← hw4]; exact blk_alloc HB3.out _⟩
    have HW4 : Aside0 (Below w.heap.size w w4) := ⟨by rw [← hw4]; exact below_alloc HW3.out _⟩
    rw [hw4]
    clear hw4 hp
    have r0 : w4.cell? ⟨B, 0, none⟩ = some (.int .i64 0) := (blk_cell HB4.out 0).trans rfl
    have z0 := blk_frozen HB4.out 0
    have r1 : w4.cell? ⟨B, 1, none⟩ = some (.slice none 0 0) := (blk_cell HB4.out 1).trans rfl
    have z1 := blk_frozen HB4.out 1
    go_wp2_with fail
    have hbF := blk_put (blk_put HB4.out 0 (.int .i64 0) rfl) 1 (.slice none 0 0) rfl
    have y0 := (blk_cell hbF 0).trans (rfl : _ = some (.int .i64 0 : Value))
    have y1 := (blk_cell hbF 1).trans (rfl : _ = some (.slice none 0 0 : Value))
    clear hbF
    have HBF := Aside0.mk ((HW4.out.setCell (p := ⟨B, 0, none⟩) (by rw [HBE.out]; exact Nat.le_refl _) (.int .i64 0)).setCell (p := ⟨B, 1, none⟩) (by rw [HBE.out]; exact Nat.le_refl _) (.slice none 0 0))
    refine bodyPost_ret (v := .tuple #[.agg #[.int .i64 0, .slice none 0 0], .int .i64 20]) (by simp [results, Tryd.results7, go_sem, y0, y1]) rfl ⟨HBF.out, .inl ⟨HN.out, rfl⟩⟩
  · obtain ⟨A, cA, rfl, hlen, hlist⟩ := hv.list_
    obtain ⟨x0, x1, x2, A3, n3, c3, rfl, rfl, rfl, he⟩ := hv.form
    clear he
    have HQ := Aside0.mk hq
    have HVV := Aside0.mk hv
    obtain ⟨m, hm⟩ : ∃ m, (listOf v).length = m := ⟨_, rfl⟩
    have HM := Aside0.mk hm
    rw [hm] at hlen ⊢
    clear hq hv hm
    obtain ⟨w4, hw4⟩ : ∃ w4, w3.alloc (.cells #[.int .i64 x0, .int .i64 x1, .string x2, .slice A m cA] 36) = w4 := ⟨_, rfl⟩
    have HB4 : Aside0 (w4.heap[B]? = some (.cells #[.int .i64 0, .slice none 0 0] 24 (0, 0))) := ⟨by rw [← hw4]; exact blk_alloc HB3.out _⟩
    have HP4 : Aside0 (w4.heap[p]? = some (.cells #[.int .i64 x0, .int .i64 x1, .string x2, .slice A m cA] 36 (0, 0))) := ⟨by rw [← hw4, ← HP.out]; exact blk_new _ _⟩
    have HW4 : Aside0 (Below w.heap.size w w4) := ⟨by rw [← hw4]; exact below_alloc HW3.out _⟩
    have HX4 : Aside0 (Below w3.heap.size w3 w4) := ⟨by rw [← hw4]; exact below_alloc (Below.refl _ _) _⟩
    have HS4 : Aside0 (w4.heap.size = p + 1) := ⟨by rw [← hw4, size_alloc, HP.out]⟩
    have q3 : w4.cell? ⟨p, 3, none⟩ = some (.slice A m cA) := (blk_cell HP4.out 3).trans rfl
    by_cases hm2 : m = 2
    · subst hm2
      have hm := HM.out
      obtain ⟨g, f, rfl, hcell, hel⟩ : ∃ (g : Nat) (f : Nat → Nat → Value), A = some ⟨g, 0, none⟩ ∧ (∀ i j, i < (listOf v).length → j < 4 → w3.cell? ⟨g, i * 4 + j, none⟩ = some (f i j)) ∧ ∀ i (hi : i < (listOf v).length), VAt (fun g => w2.heap.size ≤ g) w3 (listOf v)[i] (f i 0) (f i 1) (f i 2) (f i 3) := by
        rcases hlist with h | h
        · rw [h] at hm; cases hm
        · exact h
      have h0 : 0 < (listOf v).length := by omega
      have h1 : 1 < (listOf v).length := by omega
      have hep : f 0 1 = .int .i64 (epOf v) := by
        have := (hel 0 h0).num_
        rw [this]
        unfold epOf
        rw [List.getD_eq_getElem?_getD, List.getElem?_eq_getElem h0]
        rfl
      have hn1 : (listOf v).getD 1 (.num 0) = (listOf v)[1] := by rw [List.getD_eq_getElem?_getD, List.getElem?_eq_getElem h1]; rfl
      obtain ⟨A1, c1, hf13, hlen1, hlist1⟩ := (hel 1 h1).list_
      have hnl : (nodesOf v).length = (listOf (listOf v)[1]).length := by unfold nodesOf; rw [List.length_map, hn1]
      obtain ⟨M, hM⟩ : ∃ M, (nodesOf v).length = M := ⟨_, rfl⟩
      obtain ⟨ep, hepv⟩ : ∃ ep, epOf v = ep := ⟨_, rfl⟩
      obtain ⟨xs, hxs⟩ : ∃ xs, nodesOf v = xs := ⟨_, rfl⟩
      have HNL : Aside0 (M = 0 ∨ ∃ (g1 : Nat) (f1 : Nat → Nat → Value), A1 = some ⟨g1, 0, none⟩ ∧ (∀ i j, i < M → j < 4 → w3.cell? ⟨g1, i * 4 + j, none⟩ = some (f1 i j)) ∧ ∀ i, i < M → ∃ y0 y2 A4 n4 c4, f1 i 0 = .int .i64 y0 ∧ f1 i 1 = .int .i64 (rd xs (i : Int)) ∧ f1 i 2 = .string y2 ∧ f1 i 3 = .slice A4 n4 c4) := ⟨by
        rcases hlist1 with h | ⟨g1, f1, e1, e2, e3⟩
        · left; rw [← hM, hnl, h]; rfl
        · right
          refine ⟨g1, f1, e1, fun i j hi hj => e2 i j (by omega) hj, fun i hi => ?_⟩
          have hi' : i < (listOf (listOf v)[1]).length := by omega
          obtain ⟨y0, y1, y2, A4, n4, c4, z0, z1, z2, z3⟩ := (e3 i hi').form
          refine ⟨y0, y2, A4, n4, c4, z0, ?_, z2, z3⟩
          rw [(e3 i hi').num_]
          have : rd xs (i : Int) = numOf (listOf (listOf v)[1])[i] := by
            rw [← hxs]
            unfold rd nodesOf
            rw [Int.toNat_natCast, List.getD_eq_getElem?_getD, List.getElem?_map, hn1, List.getElem?_eq_getElem hi']
            rfl
          rw [this]⟩
      have q1 : w4.cell? ⟨g, 1, none⟩ = some (.int .i64 ep) := pw_cell_below HX4.out ((hcell 0 1 h0 (by omega)).trans (by rw [hep, hepv]))
      have q7 : w4.cell? ⟨g, 7, none⟩ = some (.slice A1 M c1) := pw_cell_below HX4.out ((hcell 1 3 h1 (by omega)).trans (by rw [hf13, ← hnl, hM]))
      rw [← hnl, hM] at hlen1
      have HXS : Aside0 (xs.length = M) := ⟨by rw [← hxs]; exact hM⟩
      have HNX := Aside0.mk hxs
      have HEP := Aside0.mk hepv
      clear hm hel hcell hlist hlist1 hnl hf13 hn1 hep hM hepv hxs h0 h1
      go_upto_region 4 with (fail)
      have hs4 := HS4.out
      clear hw4 hp
      go_upto_region 5 with (fail)
      obtain ⟨w5, hw5⟩ : ∃ w5, w4.alloc (.cells #[.int .i64 ep, .slice none 0 0] 24) = w5 := ⟨_, rfl⟩
      have HX5 : Aside0 (Below w4.heap.size w4 w5) := ⟨by rw [← hw5]; exact below_alloc (Below.refl _ _) _⟩
      have HP5 : Aside0 (w5.heap[p + 1]? = some (.cells #[.int .i64 ep, .slice none 0 0] 24 (0, 0))) := ⟨by rw [← hw5, ← HS4.out]; exact blk_new _ _⟩
      have HS5 : Aside0 (w5.heap.size = p + 2) := ⟨by rw [← hw5, size_alloc, HS4.out]⟩
      replace q3 : w5.cell? ⟨p, 3, none⟩ = some (.slice (some ⟨g, 0, none⟩) 2 cA) := pw_cell_below HX5.out q3
      replace q7 : w5.cell? ⟨g, 7, none⟩ = some (.slice A1 M c1) := pw_cell_below HX5.out q7
      rw [hw5]
      clear hw5 hs4 q1
      go_wp2_with fail
      go_loopw [37] (fun i wr => ∃ (k : Nat) (Ad : Option Addr) (cp : Nat), i = .int .i64 k ∧ k ≤ M ∧ Aside0 (wr.ownsRow (p + 2) 3 1 (.slice Ad k cp) k (nums .i64 (xs.take k))) ∧ Aside0 (wr.heap[p + 1]? = some (.cells #[.int .i64 ep, .slice Ad k cp] 24 (0, 0))) ∧ Aside0 (Below (p + 1) w4 wr)) (fun i _ => M - (intOf i).toNat)
      case atStart => exact ⟨0, none, 0, rfl, by omega, ⟨own_nil _ _ _ _⟩, ⟨HP5.out⟩, ⟨HX5.out.mono (by rw [HS4.out]; exact Nat.le_refl _)⟩⟩
      case round =>
        obtain ⟨k, Ad, cp, rfl, hk, HOW, HPK, HBW⟩ := hrel
        clear q3 q7
        have HXW : Aside0 (Below w3.heap.size w3 wr) := ⟨HX4.out.trans (HBW.out.mono (by have := HP.out; omega))⟩
        have HSK : Aside0 (p + 2 ≤ wr.heap.size) := ⟨by have := blk_lt HPK.out; omega⟩
        have HWK : Aside0 (Below w.heap.size w wr) := ⟨HW4.out.trans (HBW.out.mono (by have := HS3.out; have := HBE.out; have := HP.out; omega))⟩
        have k0 : wr.cell? ⟨p + 1, 0, none⟩ = some (.int .i64 ep) := (blk_cell HPK.out 0).trans rfl
        have k1 : wr.cell? ⟨p + 1, 1, none⟩ = some (.slice Ad k cp) := (blk_cell HPK.out 1).trans rfl
        have kz := blk_frozen HPK.out 1
        by_cases hlt : k < M
        · have hlt' : (k : Int) < (M : Int) := by omega
          have hk0 : (0 : Int) ≤ (k : Int) := by omega
          obtain ⟨g1, f1, rfl, hcell, hform⟩ : ∃ (g1 : Nat) (f1 : Nat → Nat → Value), A1 = some ⟨g1, 0, none⟩ ∧ (∀ i j, i < M → j < 4 → w3.cell? ⟨g1, i * 4 + j, none⟩ = some (f1 i j)) ∧ ∀ i, i < M → ∃ y0 y2 A4 n4 c4, f1 i 0 = .int .i64 y0 ∧ f1 i 1 = .int .i64 (rd xs (i : Int)) ∧ f1 i 2 = .string y2 ∧ f1 i 3 = .slice A4 n4 c4 := by
            rcases HNL.out with h | h
            · omega
            · exact h
          obtain ⟨y0, y2, A4, n4, c4, e0, e1, e2, e3⟩ := hform k hlt
          obtain ⟨x, hx⟩ : ∃ x, rd xs (k : Int) = x := ⟨_, rfl⟩
          rw [hx] at e1
          have c0 : wr.cell? ⟨g1, k * 4, none⟩ = some (.int .i64 y0) := pw_cell_below HXW.out ((hcell k 0 hlt (by omega)).trans (by rw [e0]))
          have c1 : wr.cell? ⟨g1, k * 4 + 1, none⟩ = some (.int .i64 x) := pw_cell_below HXW.out ((hcell k 1 hlt (by omega)).trans (by rw [e1]))
          have c2 : wr.cell? ⟨g1, k * 4 + 2, none⟩ = some (.string y2) := pw_cell_below HXW.out ((hcell k 2 hlt (by omega)).trans (by rw [e2]))
          have c3 : wr.cell? ⟨g1, k * 4 + 3, none⟩ = some (.slice A4 n4 c4) := pw_cell_below HXW.out ((hcell k 3 hlt (by omega)).trans (by rw [e3]))
          have HX := Aside0.mk hx
          obtain ⟨i0, hi, hz0, hz1, hz2⟩ := info_parts info3
          have HI := Aside0.mk hi
          have HZ0 := Aside0.mk hz0
          have HZ1 := Aside0.mk hz1
          have HZ2 := Aside0.mk hz2
          clear hcell hform e0 e1 e2 e3 hx hi hz0 hz1 hz2
          go_upto_region 8 with (fail)
          obtain ⟨w6, hw6⟩ : ∃ w6, wr.alloc (.cells #[.int .i64 y0, .int .i64 x, .string y2, .slice A4 n4 c4] 36) = w6 := ⟨_, rfl⟩
          have HX6 : Aside0 (Below wr.heap.size wr w6) := ⟨by rw [← hw6]; exact below_alloc (Below.refl _ _) _⟩
          have HQ6 : Aside0 (w6.heap[wr.heap.size]? = some (.cells #[.int .i64 y0, .int .i64 x, .string y2, .slice A4 n4 c4] 36 (0, 0))) := ⟨by rw [← hw6]; exact blk_new _ _⟩
          rw [hw6]
          clear hw6 c0 c1 c2 c3 k0 k1 kz
          obtain ⟨q, hq⟩ : ∃ q, wr.heap.size = q := ⟨_, rfl⟩
          have HQE := Aside0.mk hq
          rw [hq] at HQ6 ⊢
          have c1 : w6.cell? ⟨q, 1, none⟩ = some (.int .i64 x) := (blk_cell HQ6.out 1).trans rfl
          have HP6 := Aside0.mk (blk_below HPK.out HX6.out)
          have k1 : w6.cell? ⟨p + 1, 1, none⟩ = some (.slice Ad k cp) := (blk_cell HP6.out 1).trans rfl
          have HO7 : Aside0 ((w6.alloc (.cells #[.int .i64 x] 3)).ownsRow (p + 2) 3 1 (.slice Ad k cp) k (nums .i64 (xs.take k))) := ⟨pw_own_below HOW.out (below_alloc HX6.out _)⟩
          have HNW : Aside0 (∀ (j : Nat) (u : Value), [(.int .i64 x : Value)][j]? = some u → (w6.alloc (.cells #[.int .i64 x] 3)).cell? ((⟨w6.heap.size, 0, none⟩ : Addr).add j) = some u) := ⟨fun j u hu => by
            rw [add_plain]
            refine (blk_cell (blk_new w6 _) j).trans ?_
            simpa using hu⟩
          have HSZ : Aside0 (p + 2 ≤ (w6.alloc (.cells #[.int .i64 x] 3)).heap.size) := ⟨by
            have h1 := HSK.out
            have h2 := (below_alloc HX6.out (.cells #[.int .i64 x] 3)).size
            omega⟩
          clear hq
          go_wp2_with (at_builtin; refine wpList_append_loc rfl _ _ 22 rfl (p + 2) 3 i0 _ 1 8 Tryd.underlying22 HI.out HZ0.out HZ1.out HZ2.out rfl (by decide) (.slice Ad k cp) k (nums .i64 (xs.take k)) rfl HO7.out ⟨w6.heap.size, 0, none⟩ 1 1 [(.int .i64 x : Value)] rfl rfl HNW.out (by intro u hu; simp at hu; subst hu; rfl) (k + 1) rfl (by unfold maxLen; omega) (by omega) HSZ.out ?_; intro A' c' w8 hown8 hgrow8 hloc8; have HP8 : Aside0 (w8.heap[p + 1]? = some (.cells #[.int .i64 ep, .slice Ad k cp] 24 (0, 0))) := ⟨(hgrow8.block (p + 1) (by have := blk_lt HP6.out; rw [size_alloc]; omega) (fun e => by have := own_base HO7.out (p + 1) e.symm; omega)).trans (blk_alloc HP6.out _)⟩; have kz8 := blk_frozen HP8.out 1; have k18 : w8.cell? ⟨p + 1, 1, none⟩ = some (.slice Ad k cp) := (blk_cell HP8.out 1).trans rfl; have HO8 := Aside0.mk hown8; have HG8 := Aside0.mk hgrow8; clear hown8 hgrow8 hloc8)
          go_roundw
          case rel =>
            refine ⟨k + 1, A', c', rfl, hlt, ⟨?_⟩, ⟨blk_put HP8.out 1 (.slice A' (k + 1) c') rfl⟩, ⟨?_⟩⟩
            · rw [nums_take (by rw [HXS.out]; exact hlt), HX.out]
              exact own_move HO8.out (fun j hj => Below.heap_setCell _ _ _ _ (by have := own_base HO8.out j hj; show ¬ j = p + 1; omega))
            · have h1 : Below (p + 1) w4 (w6.alloc (.cells #[.int .i64 x] 3)) := HBW.out.trans ((below_alloc HX6.out _).mono (by have := HSK.out; omega))
              have h2 := pw_below_grown h1 _ (by have := HSZ.out; omega) HG8.out (fun i hi => by have := own_base HO7.out i hi; omega)
              exact h2.setCell (p := ⟨p + 1, 1, none⟩) (Nat.le_refl _) _
          case measure => simp [intOf]; omega
        · have ek : k = M := by omega
          subst ek
          have hlt' : ¬ (k : Int) < (k : Int) := by omega
          have hxk : xs.length = k := HXS.out
          have HRW : Aside0 (wr.ownsRow (p + 2) 3 1 (.slice Ad xs.length cp) xs.length (nums .i64 xs)) := ⟨by have := HOW.out; rw [hxk]; rwa [← hxk, List.take_length, hxk] at this⟩
          have HCX : Aside0 (Kd.C (Kd.int .i64) wr Ad xs.length xs) := ⟨C_own HRW.out⟩
          have HBR : Aside0 (wr.heap[B]? = some (.cells #[.int .i64 0, .slice none 0 0] 24 (0, 0))) := ⟨by rw [← HB4.out]; exact HBW.out.block B (by have := HS3.out; have := HP.out; omega)⟩
          clear HOW
          cases hmay : mayB ep xs with
          | false =>
            have HCK := Aside0.mk (text_no ep Ad cp xs wr HCX.out (by omega) hmay)
            rw [hxk] at HCK
            have HNO : Aside0 (N ∨ ∃ v c, Q v c ∧ (c < s.size ∨ ¬ okV v s)) := ⟨.inr ⟨v, c, HQ.out, .inr (fun h => by have := h.2.1; rw [HEP.out, HNX.out, hmay] at this; cases this)⟩⟩
            clear hxk hmay
            go_wp2_with fail
            refine HCK.out.mono ?_
            rintro e w7 ⟨rfl, hb7⟩
            have HB7 := Aside0.mk (blk_below HBR.out hb7)
            have HW7 := Aside0.mk (below_step HWK.out hb7)
            clear hb7 k0 k1 kz
            go_upto_region 12 with (fail)
            have r0 : w7.cell? ⟨B, 0, none⟩ = some (.int .i64 0) := (blk_cell HB7.out 0).trans rfl
            have z0 := blk_frozen HB7.out 0
            have r1 : w7.cell? ⟨B, 1, none⟩ = some (.slice none 0 0) := (blk_cell HB7.out 1).trans rfl
            have z1 := blk_frozen HB7.out 1
            go_wp2_with fail
            have hbF := blk_put (blk_put HB7.out 0 (.int .i64 0) rfl) 1 (.slice none 0 0) rfl
            have y0 := (blk_cell hbF 0).trans (rfl : _ = some (.int .i64 0 : Value))
            have y1 := (blk_cell hbF 1).trans (rfl : _ = some (.slice none 0 0 : Value))
            clear hbF
            have HBF := Aside0.mk ((HW7.out.setCell (p := ⟨B, 0, none⟩) (by rw [HBE.out]; exact Nat.le_refl _) (.int .i64 0)).setCell (p := ⟨B, 1, none⟩) (by rw [HBE.out]; exact Nat.le_refl _) (.slice none 0 0))
            refine bodyPost_ret (v := .tuple #[.agg #[.int .i64 0, .slice none 0 0], .int .i64 20]) (by simp [results, Tryd.results7, go_sem, y0, y1]) rfl ⟨HBF.out, .inl ⟨HNO.out, rfl⟩⟩
          | true =>
            have HCK := Aside0.mk (text_ok ep Ad cp xs wr HCX.out hmay (HT.out.below HWK.out))
            obtain ⟨T, hTT⟩ : ∃ T, chartT ep xs = T := ⟨_, rfl⟩
            rw [hxk, hTT] at HCK
            have HTE := Aside0.mk hTT
            have HMY := Aside0.mk hmay
            have HXK := Aside0.mk hxk
            clear hxk hmay hTT
            go_wp2_with fail
            refine HCK.out.mono ?_
            rintro e w7 ⟨rfl, hb7⟩
            have HB7 := Aside0.mk (blk_below HBR.out hb7)
            have HP7 := Aside0.mk (blk_below HPK.out hb7)
            have HW7 := Aside0.mk (below_step HWK.out hb7)
            have HR7 := Aside0.mk (pw_own_below HRW.out hb7)
            clear hb7 k0 k1 kz
            by_cases hts : T = s
            · subst hts
              have k0 : w7.cell? ⟨p + 1, 0, none⟩ = some (.int .i64 ep) := (blk_cell HP7.out 0).trans rfl
              have k1 : w7.cell? ⟨p + 1, 1, none⟩ = some (.slice Ad k cp) := (blk_cell HP7.out 1).trans rfl
              go_upto_region 13 with (fail)
              have HOK : Aside0 (okV v T) := ⟨by rw [HM.out], by rw [HEP.out, HNX.out]; exact HMY.out, by rw [HEP.out, HNX.out]; exact HTE.out⟩
              have HRF : Aside0 (((w7.setCell ⟨B, 0, none⟩ (.int .i64 ep)).setCell ⟨B, 1, none⟩ (.slice Ad k cp)).ownsRow (p + 2) 3 1 (.slice Ad xs.length cp) xs.length (nums .i64 xs)) := ⟨own_move HR7.out (fun j hj => by
                have hb := own_base HR7.out j hj
                have hBs := HS3.out
                have hPs := HP.out
                have hne : ¬ j = B := by omega
                rw [Below.heap_setCell _ _ _ _ hne, Below.heap_setCell _ _ _ _ hne])⟩
              have r0 : w7.cell? ⟨B, 0, none⟩ = some (.int .i64 0) := (blk_cell HB7.out 0).trans rfl
              have z0 := blk_frozen HB7.out 0
              have r1 : w7.cell? ⟨B, 1, none⟩ = some (.slice none 0 0) := (blk_cell HB7.out 1).trans rfl
              have z1 := blk_frozen HB7.out 1
              go_wp2_with fail
              have hbF := blk_put (blk_put HB7.out 0 (.int .i64 ep) rfl) 1 (.slice Ad k cp) rfl
              have y0 := (blk_cell hbF 0).trans (rfl : _ = some (.int .i64 ep : Value))
              have y1 := (blk_cell hbF 1).trans (rfl : _ = some (.slice Ad k cp : Value))
              clear hbF
              have HBF := Aside0.mk ((HW7.out.setCell (p := ⟨B, 0, none⟩) (by rw [HBE.out]; exact Nat.le_refl _) (.int .i64 ep)).setCell (p := ⟨B, 1, none⟩) (by rw [HBE.out]; exact Nat.le_refl _) (.slice Ad k cp))
              refine bodyPost_ret (v := .tuple #[.agg #[.int .i64 ep, .slice Ad k cp], .int .i64 0]) (by simp [results, Tryd.results7, go_sem, y0, y1]) rfl ⟨HBF.out, .inr ⟨v, c, Ad, cp, HQ.out, HOK.out, by rw [HEP.out, HNX.out, HXK.out], by rw [HNX.out]; exact C_own HRF.out, by rw [HNX.out]; exact own_cap3 HRF.out⟩⟩
            · have HNO : Aside0 (N ∨ ∃ v c, Q v c ∧ (c < s.size ∨ ¬ okV v s)) := ⟨.inr ⟨v, c, HQ.out, .inr (fun h => hts (by rw [← HTE.out, ← HEP.out, ← HNX.out]; exact h.2.2))⟩⟩
              have hts2 : (T.toList == s.toList) = false := beq_eq_false_iff_ne.2 (bytes_ne hts)
              have hts3 : (T.toList != s.toList) = true := bne_iff_ne.2 (bytes_ne hts)
              go_upto_region 12 with (fail)
              have r0 : w7.cell? ⟨B, 0, none⟩ = some (.int .i64 0) := (blk_cell HB7.out 0).trans rfl
              have z0 := blk_frozen HB7.out 0
              have r1 : w7.cell? ⟨B, 1, none⟩ = some (.slice none 0 0) := (blk_cell HB7.out 1).trans rfl
              have z1 := blk_frozen HB7.out 1
              go_wp2_with fail
              have hbF := blk_put (blk_put HB7.out 0 (.int .i64 0) rfl) 1 (.slice none 0 0) rfl
              have y0 := (blk_cell hbF 0).trans (rfl : _ = some (.int .i64 0 : Value))
              have y1 := (blk_cell hbF 1).trans (rfl : _ = some (.slice none 0 0 : Value))
              clear hbF
              have HBF := Aside0.mk ((HW7.out.setCell (p := ⟨B, 0, none⟩) (by rw [HBE.out]; exact Nat.le_refl _) (.int .i64 0)).setCell (p := ⟨B, 1, none⟩) (by rw [HBE.out]; exact Nat.le_refl _) (.slice none 0 0))
              refine bodyPost_ret (v := .tuple #[.agg #[.int .i64 0, .slice none 0 0], .int .i64 20]) (by simp [results, Tryd.results7, go_sem, y0, y1]) rfl ⟨HBF.out, .inl ⟨HNO.out, rfl⟩⟩
    · have hm2' : ¬ (m : Int) = 2 := by omega
      have HNO : Aside0 (N ∨ ∃ v c, Q v c ∧ (c < s.size ∨ ¬ okV v s)) := ⟨.inr ⟨v, c, HQ.out, .inr (fun h => hm2 (by rw [← HM.out]; exact h.1))⟩⟩
      clear hlist
      go_upto_region 2 with (fail)
      clear hw4 hp
      go_upto_region 3 with (fail)
      have r0 : w4.cell? ⟨B, 0, none⟩ = some (.int .i64 0) := (blk_cell HB4.out 0).trans rfl
      have z0 := blk_frozen HB4.out 0
      have r1 : w4.cell? ⟨B, 1, none⟩ = some (.slice none 0 0) := (blk_cell HB4.out 1).trans rfl
      have z1 := blk_frozen HB4.out 1
      go_wp2_with fail
      have hbF := blk_put (blk_put HB4.out 0 (.int .i64 0) rfl) 1 (.slice none 0 0) rfl
      have y0 := (blk_cell hbF 0).trans (rfl : _ = some (.int .i64 0 : Value))
      have y1 := (blk_cell hbF 1).trans (rfl : _ = some (.slice none 0 0 : Value))
      clear hbF
      have HBF := Aside0.mk ((HW4.out.setCell (p := ⟨B, 0, none⟩) (by rw [HBE.out]; exact Nat.le_refl _) (.int .i64 0)).setCell (p := ⟨B, 1, none⟩) (by rw [HBE.out]; exact Nat.le_refl _) (.slice none 0 0))
      refine bodyPost_ret (v := .tuple #[.agg #[.int .i64 0, .slice none 0 0], .int .i64 20]) (by simp [results, Tryd.results7, go_sem, y0, y1]) rfl ⟨HBF.out, .inl ⟨HNO.out, rfl⟩⟩
end Go.Proofs.YtjhalgoondljgaaDoor.Re
