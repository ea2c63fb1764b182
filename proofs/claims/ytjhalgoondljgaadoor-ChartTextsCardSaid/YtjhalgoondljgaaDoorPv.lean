/- benc.put: a value's bytes into a builder. -/
import Derived.Test.YtjhalgoondljgaaDoorTk
import Derived.Test.YtjhalgoondljgaaDoorLy
import Derived.Lib.ItoaLen
import Derived.Lib.SmallJoins
import Derived.Sort.Grow
namespace Go.Proofs.YtjhalgoondljgaaDoor.Re
open Go.Lib (decDigits itoa_length_le itoa_nonneg byteCells_length byteCells_append strCells_eq)
open Go.RowKit Go.Proofs.YtjhalgoondljgaaDoorW.PrintWords Go.Proofs.YtjhalgoondljgaaDoorW.PrintLast Go.Proofs.YtjhalgoondljgaaDoorW.PrintMore Base
set_option linter.unusedVariables false
set_option linter.unusedSimpArgs false

/-- The table of the powers of ten lies. -/
def Tab (w : World) : Prop := Lib.TabIs Tryd.prog w "internal/strconv.uint64pow10" .u64 Lib.pow10Tab
theorem gpow : Tryd.prog.globalNamed "internal/strconv.uint64pow10" = some 0 := by kernel_rfl
theorem Tab.below {w w' : World} (h : Tab w) (hb : Below w.heap.size w w') : Tab w' := Joins.tab_stays gpow h hb (Nat.le_refl _)
theorem below_grow (w : World) (k : Nat) (os : Array Obj) : Below w.heap.size w (Sort.grow (w.drewN k) os) :=
  ⟨rfl, rfl, rfl, by simp [Sort.grow], fun i hi => Sort.heap_grow_old (w.drewN k) os hi⟩
theorem itoa_calls (n : Nat) (hn : n ≤ 1099511627776) (w : World) (ht : Tab w) : Calls Tryd.prog 32 #[.int .i64 n] w fun e w' => e = .returned (.string ⟨(decDigits n).toArray⟩) ∧ Below w.heap.size w w' := by
  refine (Any.strconv_Itoa Tryd.itoaM (n : Int) (by omega) (by omega) w ht).mono ?_
  rintro e w' ⟨rfl, k, os, rfl⟩
  refine ⟨?_, below_grow _ _ _⟩
  rw [itoa_nonneg]
theorem ownF_below {w w' : World} {B : Nat} {v : Value} {n : Nat} {xs : List Value} (h : w.ownsRowF B 5 1 v n xs) (hb : Below w.heap.size w w') : w'.ownsRowF B 5 1 v n xs := by
  refine ⟨h.1, ?_⟩
  rcases h.2 with h | ⟨g, cap, cur, fz, e, h1, h2, h3⟩
  · exact .inl h
  · exact .inr ⟨g, cap, cur, fz, e, h1, blk_below h2 hb, h3⟩
theorem built_below {B b : Nat} {bs : List Value} {w w' : World} (h : Lib.IsBuilderF 50 5 B b bs w) (hb : Below w.heap.size w w') : Lib.IsBuilderF 50 5 B b bs w' := by
  have key : ∀ p, Lib.BuilderAtF 50 5 B b p bs w → Lib.BuilderAtF 50 5 B b p bs w' := by
    rintro p ⟨hB, v, hbk, hown, hne⟩
    exact ⟨hB, v, blk_below hbk hb, ownF_below hown hb, hne⟩
  exact h.imp (key _) (key _)
theorem others_below {b : Option Nat} {w w' : World} (hb : Below w.heap.size w w') : Lib.OthersKept 5 b w w' := fun k o h _ _ => by
  rw [hb.block k (by
    rcases Nat.lt_or_ge k w.heap.size with h' | h'
    · exact h'
    · simp [Array.getElem?_eq_none h'] at h)]
  exact h

def PutDone (B b : Nat) (bs : List UInt8) (v : V) (w : World) (e : Ending) (w' : World) : Prop :=
  e = .returned (.tuple #[]) ∧ Lib.IsBuilderF 50 5 B b (Lib.byteCells (bs ++ enc v)) w' ∧ Below B w w' ∧ Lib.OthersKept 5 (some b) w w'
def PX (d : Nat) : Prop := ∀ (w : World) (B b : Nat) (bs : List UInt8) (v : V) (k n s l : Value), Good d v → VAt (fun g => g < B) w v k n s l → Lib.IsBuilderF 50 5 B b (Lib.byteCells bs) w → B ≤ w.heap.size → bs.length + (enc v).length ≤ 65536 → Tab w → (∀ W, Below B w W → Tab W) →
  Calls Tryd.prog 22 #[.pointer (some ⟨b, 0, none⟩), .agg #[k, n, s, l]] w (PutDone B b bs v w)

set_option maxRecDepth 100000 in
set_option maxHeartbeats 4000000 in
theorem put_num (n : Nat) (hn : n ≤ 1099511627776) (w : World) (B b : Nat) (bs : List UInt8) (h : Lib.IsBuilderF 50 5 B b (Lib.byteCells bs) w) (hB : B ≤ w.heap.size) (hl : bs.length ≤ 65536) (ht : Tab w) :
    Calls Tryd.prog 22 #[.pointer (some ⟨b, 0, none⟩), .agg #[.int .i64 1, .int .i64 n, .string ⟨#[]⟩, .slice none 0 0]] w (PutDone B b bs (.num n) w) := by
  have HT := Aside0.mk (ht.below (below_alloc (Below.refl _ w) (.cells #[.int .i64 1, .int .i64 n, .string ⟨#[]⟩, .slice none 0 0] 36)))
  have HI := Aside0.mk (built_below h (below_alloc (Below.refl _ w) (.cells #[.int .i64 1, .int .i64 n, .string ⟨#[]⟩, .slice none 0 0] 36)))
  have HB0 := Aside0.mk (blk_new w (.cells #[.int .i64 1, .int .i64 n, .string ⟨#[]⟩, .slice none 0 0] 36))
  have HBL := Aside0.mk ((Below.refl B w).alloc hB (.cells #[.int .i64 1, .int .i64 n, .string ⟨#[]⟩, .slice none 0 0] 36))
  have HBO := Aside0.mk (others_below (b := some b) (below_alloc (Below.refl _ w) (.cells #[.int .i64 1, .int .i64 n, .string ⟨#[]⟩, .slice none 0 0] 36)))
  have hlen : (Lib.byteCells bs).length = bs.length := byteCells_length bs
  have HL := Aside0.mk hlen
  have hl' : ¬ (65536 : Int) < (bs.length : Int) := by omega
  clear h ht hlen
  go_enter Tryd.func22, Tryd.ntmps22
  obtain ⟨p, hp⟩ : ∃ p, w.heap.size = p := ⟨_, rfl⟩
  rw [hp] at HB0
  have HS : Aside0 (B ≤ (w.alloc (.cells #[.int .i64 1, .int .i64 n, .string ⟨#[]⟩, .slice none 0 0] 36)).heap.size) := ⟨by rw [size_alloc]; omega⟩
  go_wp2_with fail
  obtain ⟨w1, hw1⟩ : ∃ w1, w.alloc (.cells #[.int .i64 1, .int .i64 n, .string ⟨#[]⟩, .slice none 0 0] 36) = w1 := ⟨_, rfl⟩
  rw [hw1] at HT HI HB0 HBL HBO HS ⊢
  clear hw1 hp
  have c0 : w1.cell? ⟨p, 0, none⟩ = some (.int .i64 1) := (blk_cell HB0.out 0).trans rfl
  have c1 : w1.cell? ⟨p, 1, none⟩ = some (.int .i64 n) := (blk_cell HB0.out 1).trans rfl
  refine (Tryd.Builder_Len B b _ w1 HI.out).mono ?_
  rintro e w2 ⟨rfl, hw2⟩
  rw [hw2]
  clear hw2 w2
  rw [HL.out]
  go_wp2_with fail
  refine (itoa_calls n hn _ HT.out).mono ?_
  rintro e w3 ⟨rfl, hb3⟩
  have HB3 := Aside0.mk hb3
  have HI3 := Aside0.mk (built_below HI.out hb3)
  clear hb3
  obtain ⟨ds, hds⟩ : ∃ ds : ByteArray, ({ data := (decDigits n).toArray } : ByteArray) = ds := ⟨_, rfl⟩
  have HDS := Aside0.mk hds
  rw [hds]
  have hsz : ds.size ≤ 21 := by
    rw [← hds]
    have := itoa_length_le n (by omega) (by omega)
    rw [itoa_nonneg] at this
    show (decDigits n).toArray.size ≤ 21
    simpa using this
  clear hds
  go_wp2_with fail
  have HSZ3 : Aside0 (B ≤ w3.heap.size) := ⟨Nat.le_trans HS.out HB3.out.size⟩
  generalize hss : ({ data := #[105] } ++ ds ++ { data := #[101] } : ByteArray) = ss
  have hls : ss.size ≤ 23 := by
    rw [← hss]
    simp only [ByteArray.size_append]
    have : (ByteArray.mk #[105]).size = 1 := rfl
    have : (ByteArray.mk #[101]).size = 1 := rfl
    omega
  have HSS := Aside0.mk hss
  clear hss
  refine (Tryd.Builder_WriteString B b _ ss w3 HI3.out (by rw [HL.out]; omega) HSZ3.out).mono ?_
  rintro e w4 ⟨rfl, hi4, hb4, ho4⟩
  have HO4 := Aside0.mk ho4
  have HI4 := Aside0.mk hi4
  have HB4 := Aside0.mk hb4
  clear hi4 hb4 ho4
  go_wp2_with fail
  refine bodyPost_end (results_none rfl _ _ _) rfl ⟨rfl, .inr ?_, HBL.out.trans ((HB3.out.mono HS.out).trans HB4.out), (HBO.out.trans (others_below HB3.out)).trans HO4.out⟩
  have e : Lib.byteCells bs ++ Lib.strCells ss = Lib.byteCells (bs ++ enc (.num n)) := by
    rw [← HSS.out, strCells_eq, ← byteCells_append, enc, ← HDS.out]
    simp
  rw [← e]
  exact HI4.out

set_option maxRecDepth 100000 in
set_option maxHeartbeats 4000000 in
theorem put_list (d : Nat) (hrec : PX d) (w : World) (B b : Nat) (bs : List UInt8) (vs : List V) (A : Option Addr) (c : Nat) (f : Nat → Nat → Value) (hg : ∀ x ∈ vs, Good d x) (hA : vs = [] ∨ ∃ g, A = some ⟨g, 0, none⟩ ∧ g < B ∧ ∀ i j, i < vs.length → j < 4 → w.cell? ⟨g, i * 4 + j, none⟩ = some (f i j))
    (hv : ∀ i (hi : i < vs.length), VAt (fun g => g < B) w vs[i] (f i 0) (f i 1) (f i 2) (f i 3)) (h : Lib.IsBuilderF 50 5 B b (Lib.byteCells bs) w) (hB : B ≤ w.heap.size) (hl : bs.length + (enc (.list vs)).length ≤ 65536) (ht : Tab w) (htt : ∀ W, Below B w W → Tab W) :
    Calls Tryd.prog 22 #[.pointer (some ⟨b, 0, none⟩), .agg #[.int .i64 3, .int .i64 0, .string ⟨#[]⟩, .slice A vs.length c]] w (PutDone B b bs (.list vs) w) := by
  obtain ⟨N, hN⟩ : ∃ N, vs.length = N := ⟨_, rfl⟩
  have HN := Aside0.mk hN
  rw [hN]
  have HI := Aside0.mk (built_below h (below_alloc (Below.refl _ w) (.cells #[.int .i64 3, .int .i64 0, .string ⟨#[]⟩, .slice A N c] 36)))
  have HB0 := Aside0.mk (blk_new w (.cells #[.int .i64 3, .int .i64 0, .string ⟨#[]⟩, .slice A N c] 36))
  have HBL := Aside0.mk ((Below.refl B w).alloc hB (.cells #[.int .i64 3, .int .i64 0, .string ⟨#[]⟩, .slice A N c] 36))
  have HBO := Aside0.mk (others_below (b := some b) (below_alloc (Below.refl _ w) (.cells #[.int .i64 3, .int .i64 0, .string ⟨#[]⟩, .slice A N c] 36)))
  have hbp : b < w.heap.size := by rcases h with h | h <;> exact h.lt
  have hlen : (Lib.byteCells bs).length = bs.length := byteCells_length bs
  have HL := Aside0.mk hlen
  rw [enc] at hl
  simp at hl
  have hl' : ¬ (65536 : Int) < (bs.length : Int) := by omega
  have hNb : N ≤ 65536 := by have := encs_len vs hg; omega
  have HA := Aside0.mk hA
  have HV := Aside0.mk hv
  have HG := Aside0.mk hg
  have HTT := Aside0.mk htt
  have HIH := Aside0.mk hrec
  have HEN : Aside0 (enc (.list vs) = 108 :: (encs vs ++ [101])) := ⟨by rw [enc]⟩
  clear h ht hlen hA hv hg htt hrec hN
  go_enter Tryd.func22, Tryd.ntmps22
  obtain ⟨p, hp⟩ : ∃ p, w.heap.size = p := ⟨_, rfl⟩
  rw [hp] at HB0
  have HS : Aside0 (B ≤ (w.alloc (.cells #[.int .i64 3, .int .i64 0, .string ⟨#[]⟩, .slice A N c] 36)).heap.size) := ⟨by rw [size_alloc]; omega⟩
  go_wp2_with fail
  obtain ⟨w1, hw1⟩ : ∃ w1, w.alloc (.cells #[.int .i64 3, .int .i64 0, .string ⟨#[]⟩, .slice A N c] 36) = w1 := ⟨_, rfl⟩
  rw [hw1] at HI HB0 HBL HBO HS ⊢
  clear hw1 
  have hpB : B ≤ p := by omega
  have hpb : ¬ p = b := by omega
  clear hp
  have c0 : w1.cell? ⟨p, 0, none⟩ = some (.int .i64 3) := (blk_cell HB0.out 0).trans rfl
  refine (Tryd.Builder_Len B b _ w1 HI.out).mono ?_
  rintro e w2 ⟨rfl, hw2⟩
  rw [hw2]
  clear hw2 w2
  rw [HL.out]
  go_wp2_with fail
  generalize hss : ({ data := #[108] } : ByteArray) = ss
  have hls : ss.size ≤ 1 := by rw [← hss]; exact Nat.le_refl _
  have HSS := Aside0.mk hss
  clear hss
  refine (Tryd.Builder_WriteString B b _ ss w1 HI.out (by rw [HL.out]; omega) HS.out).mono ?_
  rintro e w3 ⟨rfl, hi3, hb3, ho3⟩
  have HI3 : Aside0 (Lib.IsBuilderF 50 5 B b (Lib.byteCells (bs ++ [108])) w3) := ⟨.inr (by
    have e : Lib.byteCells bs ++ Lib.strCells ss = Lib.byteCells (bs ++ [108]) := by rw [← HSS.out, strCells_eq, ← byteCells_append]
    rw [← e]
    exact hi3)⟩
  have HB3 : Aside0 (Below B w w3) := ⟨HBL.out.trans hb3⟩
  have HSZ3 : Aside0 (B ≤ w3.heap.size) := ⟨Nat.le_trans HS.out hb3.size⟩
  have c3 : w3.cell? ⟨p, 3, none⟩ = some (.slice A N c) := (blk_cell (ho3 p _ HB0.out (fun e => hpb (Option.some.inj e)) (fun _ _ e => by injection e with _ e _; exact absurd e (by decide))) 3).trans rfl
  have HO3 := Aside0.mk (HBO.out.trans ho3)
  clear hi3 hb3 ho3 c0 HSS
  go_wp2_with fail
  clear c3 HB0
  go_loopw [16] (fun i wr => ∃ k : Nat, i = .int .i64 k ∧ k ≤ N ∧ Aside0 (Lib.IsBuilderF 50 5 B b (Lib.byteCells (bs ++ 108 :: encs (vs.take k))) wr) ∧ Aside0 (Below B w wr) ∧ Aside0 (Lib.OthersKept 5 (some b) w wr)) (fun i _ => N - (intOf i).toNat)
  case atStart => exact ⟨0, rfl, by omega, ⟨by simpa [encs] using HI3.out⟩, HB3, HO3⟩
  case round =>
    obtain ⟨k, rfl, hk, HIK, HBK, HOK⟩ := hrel
    have HSK : Aside0 (B ≤ wr.heap.size) := ⟨Nat.le_trans hB HBK.out.size⟩
    by_cases hlt : k < N
    · have hlt' : (k : Int) < (N : Int) := by omega
      have hk0 : (0 : Int) ≤ (k : Int) := by omega
      have hin : k < vs.length := by rw [HN.out]; exact hlt
      obtain ⟨g, rfl, hgB, hcell⟩ : ∃ g, A = some ⟨g, 0, none⟩ ∧ g < B ∧ ∀ i j, i < vs.length → j < 4 → w.cell? ⟨g, i * 4 + j, none⟩ = some (f i j) := by
        rcases HA.out with h | h
        · rw [h] at hin; simp at hin
        · exact h
      have q0 : wr.cell? ⟨g, k * 4, none⟩ = some (f k 0) := (World.cell?_of_block (HBK.out.block g hgB)).trans (hcell k 0 hin (by omega))
      have q1 : wr.cell? ⟨g, k * 4 + 1, none⟩ = some (f k 1) := (World.cell?_of_block (HBK.out.block g hgB)).trans (hcell k 1 hin (by omega))
      have q2 : wr.cell? ⟨g, k * 4 + 2, none⟩ = some (f k 2) := (World.cell?_of_block (HBK.out.block g hgB)).trans (hcell k 2 hin (by omega))
      have q3 : wr.cell? ⟨g, k * 4 + 3, none⟩ = some (f k 3) := (World.cell?_of_block (HBK.out.block g hgB)).trans (hcell k 3 hin (by omega))
      have HCV := Aside0.mk ((HV.out k hin).turns (F := fun i => B ≤ i) ⟨HBK.out.os, HBK.out.tape, HBK.out.output, HBK.out.size, fun i hi hn => HBK.out.block i (by omega)⟩ (fun i hi _ h => by omega))
      obtain ⟨x0, x1, x2, A3, n3, c3, e0, e1, e2, e3⟩ := HCV.out.form
      rw [e0] at q0 HCV
      rw [e1] at q1 HCV
      rw [e2] at q2 HCV
      rw [e3] at q3 HCV
      have HGK := Aside0.mk (HG.out _ (List.getElem_mem hin))
      have hspl := encs_split vs k hin
      have hspl2 := congrArg List.length hspl
      simp only [List.length_append] at hspl2
      have HSUC := Aside0.mk (encs_succ vs k hin)
      clear hcell hspl HA e0 e1 e2 e3
      go_wp2_with fail
      have HW4 := Aside0.mk (below_alloc (Below.refl wr.heap.size wr) (.cells #[.int .i64 x0, .int .i64 x1, .string x2, .slice A3 n3 c3] 36))
      have hw4 : Below wr.heap.size wr (wr.alloc (.cells #[.int .i64 x0, .int .i64 x1, .string x2, .slice A3 n3 c3] 36)) := HW4.out
      generalize wr.alloc (.cells #[.int .i64 x0, .int .i64 x1, .string x2, .slice A3 n3 c3] 36) = w4 at hw4 HW4 ⊢
      clear hw4
      have HB4 : Aside0 (Below B w w4) := ⟨HBK.out.trans (HW4.out.mono HSK.out)⟩
      refine (HIH.out w4 B b (bs ++ 108 :: encs (vs.take k)) vs[k] _ _ _ _ HGK.out (HCV.out.turns (F := fun _ => False) (Turns.of_below HW4.out) (fun _ _ _ h => h)) (built_below HIK.out HW4.out) (Nat.le_trans HSK.out HW4.out.size) (by simp only [List.length_append, List.length_cons]; omega) (HTT.out w4 HB4.out) (fun W hW => HTT.out W (HB4.out.trans hW))).mono ?_
      rintro e w5 ⟨rfl, hi5, hb5, ho5⟩
      have HI5 := Aside0.mk hi5
      have HB5 := Aside0.mk (HB4.out.trans hb5)
      have HO5 := Aside0.mk ((HOK.out.trans (others_below HW4.out)).trans ho5)
      clear hi5 hb5 ho5
      go_wp2_with fail
      go_roundw
      case rel =>
        refine ⟨k + 1, rfl, hlt, ⟨?_⟩, HB5, HO5⟩
        rw [HSUC.out]
        have := HI5.out
        simpa using this
      case measure => simp [intOf]; omega
    · have ek : k = N := by omega
      subst ek
      have hlt' : ¬ (k : Int) < (k : Int) := by omega
      have HIE : Aside0 (Lib.IsBuilderF 50 5 B b (Lib.byteCells (bs ++ 108 :: encs vs)) wr) := ⟨by have := HIK.out; rwa [← HN.out, List.take_length] at this⟩
      clear HIK HA
      go_wp2_with fail
      generalize hss : ({ data := #[101] } : ByteArray) = s2
      have hls2 : s2.size ≤ 1 := by rw [← hss]; exact Nat.le_refl _
      have HSS := Aside0.mk hss
      clear hss
      refine (Tryd.Builder_WriteString B b _ s2 wr HIE.out (by rw [byteCells_length]; simp only [List.length_append, List.length_cons]; omega) HSK.out).mono ?_
      rintro e w6 ⟨rfl, hi6, hb6, ho6⟩
      have HI6 := Aside0.mk hi6
      have HB6 := Aside0.mk (HBK.out.trans hb6)
      have HO6 := Aside0.mk (HOK.out.trans ho6)
      clear hi6 hb6 ho6
      go_wp2_with fail
      refine bodyPost_end (results_none rfl _ _ _) rfl ⟨rfl, .inr ?_, HB6.out, HO6.out⟩
      have e : Lib.byteCells (bs ++ 108 :: encs vs) ++ Lib.strCells s2 = Lib.byteCells (bs ++ enc (.list vs)) := by
        rw [← HSS.out, strCells_eq, ← byteCells_append, HEN.out]
        simp
      rw [← e]
      exact HI6.out
theorem put_ok : ∀ d, PX d
  | 0 => by
    intro w B b bs v k n s l hg hv hi hB hl ht htt
    cases hg with
    | num _ n' hn =>
      cases hv with
      | num n'' => exact put_num n' hn w B b bs hi hB (by omega) ht
  | d + 1 => by
    intro w B b bs v k n s l hg hv hi hB hl ht htt
    cases hg with
    | num _ n' hn =>
      cases hv with
      | num n'' => exact put_num n' hn w B b bs hi hB (by omega) ht
    | list _ vs hvs =>
      cases hv with
      | list _ A c f hs hcap hA h => exact put_list d (put_ok d) w B b bs vs A c f hvs hA h hi hB hl ht htt
end Go.Proofs.YtjhalgoondljgaaDoor.Re
