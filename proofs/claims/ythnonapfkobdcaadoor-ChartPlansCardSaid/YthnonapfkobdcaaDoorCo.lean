/- RingComes: its walk. -/
import Derived.Test.YthnonapfkobdcaaDoorAw
namespace Go.Proofs.YthnonapfkobdcaaDoor.Ri
open Go.RowKit Cr Rg Mb Go.Proofs.YthnonapfkobdcaaDoorW.PrintWords Go.Proofs.YthnonapfkobdcaaDoorW.PrintLast Go.Proofs.YthnonapfkobdcaaDoorW.PrintMore
set_option linter.unusedVariables false
set_option linter.unusedSimpArgs false

theorem i64_and7 (n : Int) : bits .and .i64 n 7 = n % 8 := by
  have hm : (BitVec.ofInt 64 7).toNat = 2 ^ 3 - 1 := by decide
  have key : (BitVec.ofInt 64 n &&& BitVec.ofInt 64 7).toNat = (n % ((2 ^ 64 : Nat) : Int)).toNat % 2 ^ 3 := by
    rw [BitVec.toNat_and, BitVec.toNat_ofInt, hm, Nat.and_two_pow_sub_one_eq_mod]
  show IntKind.i64.wrap ((BitVec.ofInt 64 n &&& BitVec.ofInt 64 7).toNat : Nat) = n % 8
  rw [key, IntKind.wrap_i64]
  omega

theorem i64_and63 (n : Int) : bits .and .i64 n 63 = n % 64 := by
  have hm : (BitVec.ofInt 64 63).toNat = 2 ^ 6 - 1 := by decide
  have key : (BitVec.ofInt 64 n &&& BitVec.ofInt 64 63).toNat = (n % ((2 ^ 64 : Nat) : Int)).toNat % 2 ^ 6 := by
    rw [BitVec.toNat_and, BitVec.toNat_ofInt, hm, Nat.and_two_pow_sub_one_eq_mod]
  show IntKind.i64.wrap ((BitVec.ofInt 64 n &&& BitVec.ofInt 64 63).toNat : Nat) = n % 64
  rw [key, IntKind.wrap_i64]
  omega

theorem i64_and16 (n : Int) : bits .and .i64 n 65535 = n % 65536 := by
  have hm : (BitVec.ofInt 64 65535).toNat = 2 ^ 16 - 1 := by decide
  have key : (BitVec.ofInt 64 n &&& BitVec.ofInt 64 65535).toNat = (n % ((2 ^ 64 : Nat) : Int)).toNat % 2 ^ 16 := by
    rw [BitVec.toNat_and, BitVec.toNat_ofInt, hm, Nat.and_two_pow_sub_one_eq_mod]
  show IntKind.i64.wrap ((BitVec.ofInt 64 n &&& BitVec.ofInt 64 65535).toNat : Nat) = n % 65536
  rw [key, IntKind.wrap_i64]
  omega

theorem i64_and24 (n : Int) : bits .and .i64 n 16777215 = n % 16777216 := by
  have hm : (BitVec.ofInt 64 16777215).toNat = 2 ^ 24 - 1 := by decide
  have key : (BitVec.ofInt 64 n &&& BitVec.ofInt 64 16777215).toNat = (n % ((2 ^ 64 : Nat) : Int)).toNat % 2 ^ 24 := by
    rw [BitVec.toNat_and, BitVec.toNat_ofInt, hm, Nat.and_two_pow_sub_one_eq_mod]
  show IntKind.i64.wrap ((BitVec.ofInt 64 n &&& BitVec.ofInt 64 16777215).toNat : Nat) = n % 16777216
  rw [key, IntKind.wrap_i64]
  omega

/-- Two rows of the call's own, apart. -/
structure Mem2 (w wr : World) (A : Option Addr) (c : Nat) (few : List Int) (A2 : Option Addr) (c2 : Nat) (all : List Int) : Prop where
  below : Below w.heap.size w wr
  o1 : wr.ownsRow w.heap.size 3 1 (.slice A few.length c) few.length (nums .i64 few)
  o2 : wr.ownsRow w.heap.size 3 1 (.slice A2 all.length c2) all.length (nums .i64 all)
  ne : ∀ x, (Value.slice A few.length c).ownBlock = some x → (Value.slice A2 all.length c2).ownBlock ≠ some x
theorem Mem2.add1 {w wr w4 : World} {A A2 A3 : Option Addr} {c c2 c3 : Nat} {few all : List Int} (h : Mem2 w wr A c few A2 c2 all) (o : Obj) (x : Int)
    (r1 : w4.ownsRow w.heap.size 3 1 (.slice A3 (few ++ [x]).length c3) (few ++ [x]).length (nums .i64 (few ++ [x]))) (r2 : (wr.alloc o).grownBy w4 (Value.slice A few.length c).ownBlock)
    (r3 : (Value.slice A3 (few ++ [x]).length c3).ownBlock = (Value.slice A few.length c).ownBlock ∨ (Value.slice A3 (few ++ [x]).length c3).ownBlock = some (wr.alloc o).heap.size) : Mem2 w w4 A3 c3 (few ++ [x]) A2 c2 all := by
  have hs := h.below.size
  have hl : ∀ k, (Value.slice A2 all.length c2).ownBlock = some k → k < (wr.alloc o).heap.size := fun k hk => by have := own_lt h.o2 k hk; simp; omega
  refine ⟨(below_alloc h.below _).grown r2 (by simp; omega) (fun k hk => own_base h.o1 k hk), r1, own_move (own_alloc h.o2 o) (fun k hk => r2.block k (hl k hk) (fun e => h.ne k e.symm hk)), fun y hy e => ?_⟩
  rcases r3 with e3 | e3
  · exact h.ne y (by rw [← e3]; exact hy) e
  · rw [e3] at hy
    injection hy with hy
    have := hl y e
    omega
theorem Mem2.add2 {w wr w4 : World} {A A2 A3 : Option Addr} {c c2 c3 : Nat} {few all : List Int} (h : Mem2 w wr A c few A2 c2 all) (o : Obj) (x : Int)
    (r1 : w4.ownsRow w.heap.size 3 1 (.slice A3 (all ++ [x]).length c3) (all ++ [x]).length (nums .i64 (all ++ [x]))) (r2 : (wr.alloc o).grownBy w4 (Value.slice A2 all.length c2).ownBlock)
    (r3 : (Value.slice A3 (all ++ [x]).length c3).ownBlock = (Value.slice A2 all.length c2).ownBlock ∨ (Value.slice A3 (all ++ [x]).length c3).ownBlock = some (wr.alloc o).heap.size) : Mem2 w w4 A c few A3 c3 (all ++ [x]) := by
  have hs := h.below.size
  have hl : ∀ k, (Value.slice A few.length c).ownBlock = some k → k < (wr.alloc o).heap.size := fun k hk => by have := own_lt h.o1 k hk; simp; omega
  refine ⟨(below_alloc h.below _).grown r2 (by simp; omega) (fun k hk => own_base h.o2 k hk), own_move (own_alloc h.o1 o) (fun k hk => r2.block k (hl k hk) (fun e => h.ne k hk e.symm)), r1, fun y hy e => ?_⟩
  rcases r3 with e3 | e3
  · exact h.ne y hy (by rw [← e3]; exact e)
  · rw [e3] at e
    injection e with e
    have := hl y hy
    omega
/-- What the two rows hold: some nodes, and the same with one more. -/
structure Pur (k m : Nat) (few all : List Int) : Prop where
  nf : Nodes few
  na : Nodes all
  lf : ∀ x ∈ few, x < (m : Int) ∧ x ≠ (k : Int)
  la : ∀ x ∈ all, x < (m : Int)
  sub : ∀ x ∈ few, x ∈ all
  back : ∀ x ∈ all, x = (k : Int) ∨ x ∈ few
  kin : k < m → (k : Int) ∈ all
theorem Nodes.snoc {l : List Int} {m : Nat} (h : Nodes l) (hm : m < 8) (hl : ∀ x ∈ l, x < (m : Int)) : Nodes (l ++ [(m : Int)]) := by
  refine ⟨fun n hn => ?_, ?_⟩
  · rcases List.mem_append.1 hn with h1 | h1
    · exact h.range n h1
    · have : n = (m : Int) := by simpa using h1
      omega
  · rw [List.nodup_append]
    exact ⟨h.nodup, by simp, fun a ha b hb e => by have h1 := hl a ha; have : b = (m : Int) := by simpa using hb
                                                   omega⟩
theorem Pur.start (k : Nat) : Pur k 0 [] [] := ⟨⟨by simp, by simp⟩, ⟨by simp, by simp⟩, by simp, by simp, by simp, by simp, fun h => by omega⟩
theorem Pur.same {k m : Nat} {few all : List Int} (h : Pur k m few all) (hmk : m ≠ k) : Pur k (m + 1) few all :=
  ⟨h.nf, h.na, fun x hx => by have := h.lf x hx; exact ⟨by omega, this.2⟩, fun x hx => by have := h.la x hx; omega, h.sub, h.back, fun hk => h.kin (by omega)⟩
theorem Pur.one {k m : Nat} {few all : List Int} (h : Pur k m few all) (hm : m < 8) (hmk : m = k) : Pur k (m + 1) few (all ++ [(m : Int)]) := by
  refine ⟨h.nf, h.na.snoc hm h.la, fun x hx => by have := h.lf x hx; exact ⟨by omega, this.2⟩, fun x hx => ?_, fun x hx => List.mem_append_left _ (h.sub x hx), fun x hx => ?_, fun _ => by rw [hmk]; simp⟩
  · rcases List.mem_append.1 hx with h1 | h1
    · have := h.la x h1; omega
    · have : x = (m : Int) := by simpa using h1
      omega
  · rcases List.mem_append.1 hx with h1 | h1
    · exact h.back x h1
    · have : x = (m : Int) := by simpa using h1
      exact .inl (by omega)
theorem Pur.two {k m : Nat} {few all : List Int} (h : Pur k m few all) (hm : m < 8) (hmk : m ≠ k) : Pur k (m + 1) (few ++ [(m : Int)]) (all ++ [(m : Int)]) := by
  refine ⟨h.nf.snoc hm (fun x hx => (h.lf x hx).1), h.na.snoc hm h.la, fun x hx => ?_, fun x hx => ?_, fun x hx => ?_, fun x hx => ?_, fun hk => List.mem_append_left _ (h.kin (by omega))⟩
  · rcases List.mem_append.1 hx with h1 | h1
    · have := h.lf x h1; exact ⟨by omega, this.2⟩
    · have : x = (m : Int) := by simpa using h1
      exact ⟨by omega, by omega⟩
  · rcases List.mem_append.1 hx with h1 | h1
    · have := h.la x h1; omega
    · have : x = (m : Int) := by simpa using h1
      omega
  · rcases List.mem_append.1 hx with h1 | h1
    · exact List.mem_append_left _ (h.sub x h1)
    · exact List.mem_append_right _ h1
  · rcases List.mem_append.1 hx with h1 | h1
    · rcases h.back x h1 with h2 | h2
      · exact .inl h2
      · exact .inr (List.mem_append_left _ h2)
    · exact .inr (List.mem_append_right _ h1)
theorem ring_nil (pl : Nat) : ring spN [] pl = [] := List.eq_nil_of_length_eq_zero (by rw [ring_len]; simp)
theorem C_own {W : World} {B : Nat} {A : Option Addr} {c : Nat} {l : List Int} (h : W.ownsRow B 3 1 (.slice A l.length c) l.length (nums .i64 l)) : Kd.C (Kd.int .i64) W A l.length l := Kd.C_of_reads (own_reads' h)

set_option maxRecDepth 100000 in
set_option maxHeartbeats 2000000 in
theorem comes_calls (which one spt : Int) (W : World) : Calls Tryd.prog 4 #[.int .i64 which, .int .i64 one, .int .i64 spt] W (Yes W) := by
  obtain ⟨k, hk, hk8⟩ : ∃ k : Nat, bits .and .i64 one 7 = (k : Int) ∧ k < 8 := ⟨(one % 8).toNat, by rw [i64_and7]; omega, by omega⟩
  obtain ⟨pl, hpl, hp1, hp2⟩ : ∃ pl : Nat, wrap64 (1 + bits .and .i64 (which / 256) 63) = (pl : Int) ∧ 1 ≤ pl ∧ pl ≤ 64 := ⟨(1 + which / 256 % 64).toNat, by rw [i64_and63]; unfold wrap64; omega, by omega, by omega⟩
  obtain ⟨t, ht, ht1, ht2⟩ : ∃ t : Int, bits .and .i64 spt 16777215 = t ∧ 0 ≤ t ∧ t < 16777216 := ⟨spt % 16777216, i64_and24 spt, by omega, by omega⟩
  obtain ⟨i0, hi, hz0, hz1, hz2⟩ := info_parts info3
  have HI := Aside0.mk hi
  have HZ0 := Aside0.mk hz0
  have HZ1 := Aside0.mk hz1
  have HZ2 := Aside0.mk hz2
  clear hi hz0 hz1 hz2
  go_enter Tryd.func4, Tryd.ntmps4
  go_wp2
  simp only [hpl]
  go_loopw [9, 10, 11] (fun f a n wr => ∃ (m : Nat) (A : Option Addr) (c : Nat) (few : List Int) (A2 : Option Addr) (c2 : Nat) (all : List Int), f = .slice A few.length c ∧ a = .slice A2 all.length c2 ∧ n = .int .i64 m ∧ m ≤ 8 ∧ Aside0 (Pur k m few all) ∧ Aside0 (Mem2 W wr A c few A2 c2 all)) (fun _ _ n _ => 8 - (intOf n).toNat)
  case atStart => exact ⟨0, none, 0, [], none, 0, [], rfl, rfl, rfl, by omega, ⟨Pur.start k⟩, ⟨⟨Below.refl _ _, own_nil _ _ _ _, own_nil _ _ _ _, fun x hx => by cases hx⟩⟩⟩
  case round =>
    obtain ⟨m, A, c, few, A2, c2, all, rfl, rfl, rfl, hm, HP, HM⟩ := hrel
    have hlf := HP.out.nf.len
    have hla := HP.out.na.len
    have HSZ := Aside0.mk HM.out.below.size
    by_cases hlt : m < 8
    · have hlt' : (m : Int) < 8 := by omega
      by_cases hmk : m = k
      · have HP2 := Aside0.mk (HP.out.one hlt hmk)
        subst hmk
        go_wp2_with (at_builtin; refine wpList_append_mine rfl _ _ 22 rfl W.heap.size 3 i0 (.int .i64 0) 1 8 Tryd.underlying22 HI.out HZ0.out HZ1.out HZ2.out rfl (by decide) (.slice A2 all.length c2) all.length (nums .i64 all) rfl (own_alloc HM.out.o2 _) ⟨wr.heap.size, 0, none⟩ 1 1 [.int .i64 (m : Int)] rfl rfl (cell_one_new _ _ _) (by intro u hu; simp at hu; rw [hu]; rfl) (all ++ [(m : Int)]).length (by simp) (by simp [maxLen]; omega) (by simp; omega) (by have := HSZ.out; simp; omega) ?_; intro A3 c3 w4 r1 r2 r3)
        rw [nums_app] at r1
        have HM2 := Aside0.mk (HM.out.add2 _ _ r1 r2 r3)
        go_roundw
        case rel => exact ⟨m + 1, A, c, few, A3, c3, all ++ [(m : Int)], rfl, by simp, by go_num, by omega, HP2, HM2⟩
        case measure => simp [intOf]; omega
      · have hmk1 : ¬ (m : Int) = (k : Int) := by omega
        have hmk2 : ((m : Int) == (k : Int)) = false := by simpa using hmk1
        by_cases hbit : bits .and .i64 (which / 2 ^ m) 1 = 1
        · have hbit2 : (bits .and .i64 (which / 2 ^ m) 1 == 1) = true := by simpa using hbit
          have HP2 := Aside0.mk (HP.out.two hlt hmk)
          clear hmk hbit
          go_upto_region 11 with (at_builtin; refine wpList_append_mine rfl _ _ 22 rfl W.heap.size 3 i0 (.int .i64 0) 1 8 Tryd.underlying22 HI.out HZ0.out HZ1.out HZ2.out rfl (by decide) (.slice A few.length c) few.length (nums .i64 few) rfl (own_alloc HM.out.o1 _) ⟨wr.heap.size, 0, none⟩ 1 1 [.int .i64 (m : Int)] rfl rfl (cell_one_new _ _ _) (by intro u hu; simp at hu; rw [hu]; rfl) (few ++ [(m : Int)]).length (by simp) (by simp [maxLen]; omega) (by simp; omega) (by have := HSZ.out; simp; omega) ?_; intro A3 c3 w4 r1 r2 r3)
          rw [nums_app] at r1
          have HM2 := Aside0.mk (HM.out.add1 _ _ r1 r2 r3)
          have HSZ2 := Aside0.mk HM2.out.below.size
          clear r1 r2 r3 HSZ
          have HSZ := HSZ2
          go_wp2_with (at_builtin; refine wpList_append_mine rfl _ _ 22 rfl W.heap.size 3 i0 (.int .i64 0) 1 8 Tryd.underlying22 HI.out HZ0.out HZ1.out HZ2.out rfl (by decide) (.slice A2 all.length c2) all.length (nums .i64 all) rfl (own_alloc HM2.out.o2 _) ⟨w4.heap.size, 0, none⟩ 1 1 [.int .i64 (m : Int)] rfl rfl (cell_one_new _ _ _) (by intro u hu; simp at hu; rw [hu]; rfl) (all ++ [(m : Int)]).length (by simp) (by simp [maxLen]; omega) (by simp; omega) (by have := HSZ.out; simp; omega) ?_; intro A5 c5 w6 r1 r2 r3)
          rw [nums_app] at r1
          have HM3 := Aside0.mk (HM2.out.add2 _ _ r1 r2 r3)
          go_roundw
          case rel => exact ⟨m + 1, A3, c3, few ++ [(m : Int)], A5, c5, all ++ [(m : Int)], by simp, by simp, by go_num, by omega, HP2, HM3⟩
          case measure => simp [intOf]; omega
        · have hbit2 : (bits .and .i64 (which / 2 ^ m) 1 == 1) = false := by simpa using hbit
          have HP2 := Aside0.mk (HP.out.same hmk)
          clear hmk
          go_wp2_with fail
          go_roundw
          case rel => exact ⟨m + 1, A, c, few, A2, c2, all, rfl, rfl, by go_num, by omega, HP2, HM⟩
          case measure => simp [intOf]; omega
    · have em : m = 8 := by omega
      subst em
      have hlt' : ¬ ((8 : Nat) : Int) < 8 := by omega
      go_wp2_with fail
      refine (new_calls A c few pl wr (C_own HM.out.o1) hp1 hp2).mono ?_
      rintro e w1 ⟨hex, hb1⟩
      rcases hex with ⟨_, p, rfl, hR, _⟩ | ⟨hn, _⟩
      rotate_left
      · exact absurd HP.out.nf hn
      have HR1 := Aside0.mk hR
      have HB1 := Aside0.mk (below_step HM.out.below hb1)
      have HC1 := Aside0.mk (Kd.C_below (C_own HM.out.o2) hb1)
      clear hR hb1
      go_wp2_with fail
      refine (new_calls A2 c2 all pl w1 HC1.out hp1 hp2).mono ?_
      rintro e w2 ⟨hex, hb2⟩
      rcases hex with ⟨_, p2, rfl, hR, _⟩ | ⟨hn, _⟩
      rotate_left
      · exact absurd HP.out.na hn
      have HR2 := Aside0.mk hR
      have HR1' := Aside0.mk (HR1.out.below hb2)
      have HB2 := Aside0.mk (below_step HB1.out hb2)
      clear hR hb2 HR1 HC1
      have hall : 0 < (ring spN all pl).length := by
        rw [ring_len]
        have h1 := List.length_pos_of_mem (HP.out.kin hk8)
        exact Nat.mul_pos h1 (by omega)
      have HALL := Aside0.mk hall
      have hcm := fun x y => comes (sp := spN) (few := few) (all := all) (places := pl) (k := (k : Int)) (spot := t) (x := x) (y := y) HP.out.sub HP.out.back
      have HCM := Aside0.mk hcm
      clear hall hcm
      by_cases hf : few = []
      · subst hf
        have HRE : Aside0 (RingIs w2 p []) := ⟨by have := HR1'.out; rw [ring_nil] at this; exact this⟩
        go_wp2_with fail
        refine (home_none HRE.out t ht1 ht2).mono ?_
        rintro e w3 ⟨rfl, rfl⟩
        go_wp2_with fail
        refine (home_some HR2.out HALL.out t ht1 ht2).mono ?_
        rintro e w4 ⟨⟨y, rfl, hy⟩, hb4⟩
        have hyk : y = (k : Int) := by
          rcases HCM.out y y hy with h | h
          · exact h
          · have := h.1; simp at this
        subst hyk
        have HB4 := Aside0.mk (below_step HB2.out hb4)
        clear hb4 hy
        go_wp2_with (go_at_call 18; refine (awake_calls _).mono ?_; rintro e w6 ⟨rfl, hb6⟩)
        go_ret
        exact ⟨rfl, below_step HB4.out hb6⟩
      · have hfl : 0 < few.length := List.length_pos_iff.2 hf
        have hfl' : (0 : Int) < (few.length : Int) := by omega
        have HFR : Aside0 (0 < (ring spN few pl).length) := ⟨by rw [ring_len]; exact Nat.mul_pos hfl (by omega)⟩
        clear hf
        go_wp2_with fail
        refine (home_some HR1'.out HFR.out t ht1 ht2).mono ?_
        rintro e w3 ⟨⟨x, rfl, hx⟩, hb3⟩
        have HX := Aside0.mk hx
        have HB3 := Aside0.mk (below_step HB2.out hb3)
        have HR3 := Aside0.mk (HR2.out.below hb3)
        clear hb3 hx
        go_wp2_with fail
        refine (home_some HR3.out HALL.out t ht1 ht2).mono ?_
        rintro e w4 ⟨⟨y, rfl, hy⟩, hb4⟩
        have hyk : y = (k : Int) ∨ x = y := by
          rcases HCM.out x y hy with h | h
          · exact .inl h
          · exact .inr (h.2 HX.out)
        have HB4 := Aside0.mk (below_step HB3.out hb4)
        clear hb4 hy
        by_cases hyk2 : y = (k : Int)
        · subst hyk2
          clear hyk
          go_wp2_with (go_at_call 18; refine (awake_calls _).mono ?_; rintro e w6 ⟨rfl, hb6⟩)
          go_ret
          exact ⟨rfl, below_step HB4.out hb6⟩
        · have hxy : x = y := hyk.resolve_left hyk2
          subst hxy
          have hyk3 : (x == (k : Int)) = false := by simpa using hyk2
          clear hyk
          go_wp2_with (go_at_call 18; refine (awake_calls _).mono ?_; rintro e w6 ⟨rfl, hb6⟩)
          go_ret
          exact ⟨rfl, below_step HB4.out hb6⟩
end Go.Proofs.YthnonapfkobdcaaDoor.Ri
