/- RingSpots: its walk. -/
import Derived.Test.YthnonapfkobdcaaDoorCo
import Derived.Test.YthnonapfkobdcaaDoorRf
namespace Go.Proofs.YthnonapfkobdcaaDoor.Ri
open Go.RowKit Cr Rg Mb Go.Proofs.YthnonapfkobdcaaDoorW.PrintWords Go.Proofs.YthnonapfkobdcaaDoorW.PrintLast Go.Proofs.YthnonapfkobdcaaDoorW.PrintMore
set_option linter.unusedVariables false
set_option linter.unusedSimpArgs false
attribute [local go_sem] min2_int min_two

/-- One row of the call's own. -/
structure Mem1 (w wr : World) (A : Option Addr) (c : Nat) (l : List Int) : Prop where
  below : Below w.heap.size w wr
  o1 : wr.ownsRow w.heap.size 3 1 (.slice A l.length c) l.length (nums .i64 l)
theorem Mem1.add {w wr w4 : World} {A A3 : Option Addr} {c c3 : Nat} {l : List Int} (h : Mem1 w wr A c l) (o : Obj) (x : Int)
    (r1 : w4.ownsRow w.heap.size 3 1 (.slice A3 (l ++ [x]).length c3) (l ++ [x]).length (nums .i64 (l ++ [x]))) (r2 : (wr.alloc o).grownBy w4 (Value.slice A l.length c).ownBlock) : Mem1 w w4 A3 c3 (l ++ [x]) := by
  have hs := h.below.size
  exact ⟨(below_alloc h.below _).grown r2 (by simp; omega) (fun k hk => own_base h.o1 k hk), r1⟩
/-- What the row holds: some nodes, n among them. -/
structure PurS (n m : Nat) (l : List Int) : Prop where
  nf : Nodes l
  la : ∀ x ∈ l, x < (m : Int)
  nin : n < m → (n : Int) ∈ l
theorem PurS.start (n : Nat) : PurS n 0 [] := ⟨⟨by simp, by simp⟩, by simp, fun h => by omega⟩
theorem PurS.same {n m : Nat} {l : List Int} (h : PurS n m l) (hmn : m ≠ n) : PurS n (m + 1) l := ⟨h.nf, fun x hx => by have := h.la x hx; omega, fun hk => h.nin (by omega)⟩
theorem PurS.one {n m : Nat} {l : List Int} (h : PurS n m l) (hm : m < 8) : PurS n (m + 1) (l ++ [(m : Int)]) := by
  refine ⟨h.nf.snoc hm h.la, fun x hx => ?_, fun hk => ?_⟩
  · rcases List.mem_append.1 hx with h1 | h1
    · have := h.la x h1; omega
    · have : x = (m : Int) := by simpa using h1
      omega
  · by_cases e : n = m
    · rw [e]; simp
    · exact List.mem_append_left _ (h.nin (by omega))
/-- The least node so far that stands at a place. -/
structure Lst (l : List Int) (pl : Nat) (t : Int) (i p : Nat) (y : Int) : Prop where
  mem : y ∈ l
  at_ : ∃ q, q < pl ∧ spN y q = t
  low : ∀ a (ha : a < l.length), a < i → ∀ q, q < pl → spN l[a] q = t → y ≤ l[a]
  cur : ∀ (hi : i < l.length) q, q < p → spN l[i] q = t → y ≤ l[i]
theorem Lst.no {l : List Int} {pl : Nat} {t : Int} {i p : Nat} {y : Int} (h : Lst l pl t i p y) (hi : i < l.length) (hne : spN l[i] p ≠ t) : Lst l pl t i (p + 1) y :=
  ⟨h.mem, h.at_, h.low, fun _ q hq e => by
    rcases Nat.lt_or_eq_of_le (Nat.lt_succ_iff.1 hq) with h1 | h1
    · exact h.cur hi q h1 e
    · subst h1; exact absurd e hne⟩
theorem Lst.yes {l : List Int} {pl : Nat} {t : Int} {i p : Nat} {y : Int} (h : Lst l pl t i p y) (hi : i < l.length) (hp : p < pl) (he : spN l[i] p = t) : Lst l pl t i (p + 1) (min y l[i]) := by
  by_cases hle : y ≤ l[i]
  · rw [Int.min_eq_left hle]
    exact ⟨h.mem, h.at_, h.low, fun _ q hq e => hle⟩
  · rw [Int.min_eq_right (by omega)]
    exact ⟨List.getElem_mem hi, ⟨p, hp, he⟩, fun a ha hai q hq e => by have := h.low a ha hai q hq e; omega, fun _ q hq e => by omega⟩
theorem Lst.next {l : List Int} {pl : Nat} {t : Int} {i : Nat} {y : Int} (h : Lst l pl t i pl y) : Lst l pl t (i + 1) 0 y :=
  ⟨h.mem, h.at_, fun a ha hai q hq e => by
    rcases Nat.lt_or_eq_of_le (Nat.lt_succ_iff.1 hai) with h1 | h1
    · exact h.low a ha h1 q hq e
    · subst h1; exact h.cur ha q hq e, fun _ q hq => by omega⟩
theorem Lst.least {l : List Int} {pl : Nat} {n : Nat} {j : Nat} {y m : Int} (h : Lst l pl (spN n j) l.length 0 y) (hn : (n : Int) ∈ l) (hj : j < pl) (hm : IsHome (ring spN l pl) (spN n j) m) : m = y := by
  refine spots hn hj hm ⟨h.mem, h.at_⟩ (fun i hi p hp e => ?_)
  obtain ⟨a, ha, rfl⟩ := List.getElem_of_mem hi
  exact h.low a ha ha p hp e

set_option maxRecDepth 100000 in
set_option maxHeartbeats 2000000 in
theorem spots_calls (which node kk : Int) (W : World) : Calls Tryd.prog 5 #[.int .i64 which, .int .i64 node, .int .i64 kk] W (Yes W) := by
  obtain ⟨n, hn, hn8⟩ : ∃ n : Nat, bits .and .i64 node 7 = (n : Int) ∧ n < 8 := ⟨(node % 8).toNat, by rw [i64_and7]; omega, by omega⟩
  obtain ⟨pl, hpl, hp1, hp2⟩ : ∃ pl : Nat, wrap64 (1 + bits .and .i64 (which / 256) 63) = (pl : Int) ∧ 1 ≤ pl ∧ pl ≤ 64 := ⟨(1 + which / 256 % 64).toNat, by rw [i64_and63]; unfold wrap64; omega, by omega, by omega⟩
  obtain ⟨q, hq⟩ : ∃ q : Nat, bits .and .i64 kk 65535 = (q : Int) := ⟨(kk % 65536).toNat, by rw [i64_and16]; omega⟩
  obtain ⟨j, hj, hjl⟩ : ∃ j : Nat, q % pl = j ∧ j < pl := ⟨_, rfl, Nat.mod_lt _ (by omega)⟩
  have hj1 : (q : Int).tmod (pl : Int) = (j : Int) := by rw [← hj]; rfl
  have hj2 : (q : Int) % (pl : Int) = (j : Int) := by rw [← hj]; rfl
  have hpz : ((pl : Int) == 0) = false := by rw [beq_eq_false_iff_ne]; omega
  have hpz2 : ¬ (pl : Int) = 0 := by omega
  obtain ⟨i0, hi, hz0, hz1, hz2⟩ := info_parts info3
  have HI := Aside0.mk hi
  have HZ0 := Aside0.mk hz0
  have HZ1 := Aside0.mk hz1
  have HZ2 := Aside0.mk hz2
  clear hi hz0 hz1 hz2 hj
  go_enter Tryd.func5, Tryd.ntmps5
  go_wp2
  simp only [hpl]
  go_quiet (fail)
  go_wp2
  (try simp only [hn, hq, hj1, hj2])
  go_loopw [10, 11] (fun a n' wr => ∃ (m : Nat) (A : Option Addr) (c : Nat) (l : List Int), a = .slice A l.length c ∧ n' = .int .i64 m ∧ m ≤ 8 ∧ Aside0 (PurS n m l) ∧ Aside0 (Mem1 W wr A c l)) (fun _ n' _ => 8 - (intOf n').toNat)
  case atStart => exact ⟨0, none, 0, [], rfl, rfl, by omega, ⟨PurS.start n⟩, ⟨⟨pw_below_drewN (Below.refl _ _) _, own_nil _ _ _ _⟩⟩⟩
  case round =>
    obtain ⟨m, A, c, l, rfl, rfl, hm, HP, HM⟩ := hrel
    have hll := HP.out.nf.len
    have HSZ := Aside0.mk HM.out.below.size
    by_cases hlt : m < 8
    · have hlt' : (m : Int) < 8 := by omega
      by_cases hbit : bits .and .i64 (which / 2 ^ m) 1 = 1
      · have hbit2 : (bits .and .i64 (which / 2 ^ m) 1 == 1) = true := by simpa using hbit
        have HP2 := Aside0.mk (HP.out.one hlt)
        clear hbit
        go_wp2_with (at_builtin; refine wpList_append_mine rfl _ _ 22 rfl W.heap.size 3 i0 (.int .i64 0) 1 8 Tryd.underlying22 HI.out HZ0.out HZ1.out HZ2.out rfl (by decide) (.slice A l.length c) l.length (nums .i64 l) rfl (own_alloc HM.out.o1 _) ⟨wr.heap.size, 0, none⟩ 1 1 [.int .i64 (m : Int)] rfl rfl (cell_one_new _ _ _) (by intro u hu; simp at hu; rw [hu]; rfl) (l ++ [(m : Int)]).length (by simp) (by simp [maxLen]; omega) (by simp; omega) (by have := HSZ.out; simp; omega) ?_; intro A3 c3 w4 r1 r2 r3)
        rw [nums_app] at r1
        have HM2 := Aside0.mk (HM.out.add _ _ r1 r2)
        go_roundw
        case rel => exact ⟨m + 1, A3, c3, l ++ [(m : Int)], by simp, by go_num, by omega, HP2, HM2⟩
        case measure => simp [intOf]; omega
      · have hbit2 : (bits .and .i64 (which / 2 ^ m) 1 == 1) = false := by simpa using hbit
        by_cases hmn : m = n
        · have HP2 := Aside0.mk (HP.out.one hlt)
          subst hmn
          clear hbit
          go_wp2_with (at_builtin; refine wpList_append_mine rfl _ _ 22 rfl W.heap.size 3 i0 (.int .i64 0) 1 8 Tryd.underlying22 HI.out HZ0.out HZ1.out HZ2.out rfl (by decide) (.slice A l.length c) l.length (nums .i64 l) rfl (own_alloc HM.out.o1 _) ⟨wr.heap.size, 0, none⟩ 1 1 [.int .i64 (m : Int)] rfl rfl (cell_one_new _ _ _) (by intro u hu; simp at hu; rw [hu]; rfl) (l ++ [(m : Int)]).length (by simp) (by simp [maxLen]; omega) (by simp; omega) (by have := HSZ.out; simp; omega) ?_; intro A3 c3 w4 r1 r2 r3)
          rw [nums_app] at r1
          have HM2 := Aside0.mk (HM.out.add _ _ r1 r2)
          go_roundw
          case rel => exact ⟨m + 1, A3, c3, l ++ [(m : Int)], by simp, by go_num, by omega, HP2, HM2⟩
          case measure => simp [intOf]; omega
        · have hmn1 : ¬ (m : Int) = (n : Int) := by omega
          have hmn2 : ((m : Int) == (n : Int)) = false := by simpa using hmn1
          have HP2 := Aside0.mk (HP.out.same hmn)
          clear hbit hmn
          go_wp2_with fail
          go_roundw
          case rel => exact ⟨m + 1, A, c, l, rfl, by go_num, by omega, HP2, HM⟩
          case measure => simp [intOf]; omega
    · have em : m = 8 := by omega
      subst em
      have hlt' : ¬ ((8 : Nat) : Int) < 8 := by omega
      go_wp2_with fail
      refine (new_calls A c l pl wr (C_own HM.out.o1) hp1 hp2).mono ?_
      rintro e w1 ⟨hex, hb1⟩
      rcases hex with ⟨_, p, rfl, hR, _⟩ | ⟨hno, _⟩
      rotate_left
      · exact absurd HP.out.nf hno
      have HR1 := Aside0.mk hR
      have HB1 := Aside0.mk (below_step HM.out.below hb1)
      have HC1 := Aside0.mk (Kd.C_below (C_own HM.out.o1) hb1)
      have hnl := HP.out.nin hn8
      have HNL := Aside0.mk hnl
      have HRL : Aside0 (0 < (ring spN l pl).length) := ⟨by rw [ring_len]; exact Nat.mul_pos (List.length_pos_of_mem hnl) (by omega)⟩
      clear hR hb1 hnl HM
      go_wp2_with fail
      refine (rspot_small kNode n j w1 (by decide) (by omega) (by omega)).mono ?_
      rintro e w' ⟨rfl, rfl⟩
      have ht := spot_range kNode n j
      have HT : Aside0 (spN (n : Int) j = spot kNode n j) := ⟨rfl⟩
      obtain ⟨t, htt⟩ : ∃ t, spot kNode n j = t := ⟨_, rfl⟩
      rw [htt] at ht HT ⊢
      clear htt
      obtain ⟨ht1, ht2⟩ := ht
      go_wp2_with fail
      go_loop [15, 16] (fun y i => ∃ (yi : Int) (i' : Nat), y = .int .i64 yi ∧ i = .int .i64 i' ∧ i' ≤ l.length ∧ Aside0 (Lst l pl t i' 0 yi)) (fun _ i => l.length - (intOf i).toNat)
      case atStart => exact ⟨n, 0, rfl, rfl, Nat.zero_le _, ⟨⟨HNL.out, ⟨j, hjl, HT.out⟩, fun a ha h => by omega, fun _ q h => by omega⟩⟩⟩
      case round =>
        obtain ⟨y, i, rfl, rfl, hil, HL⟩ := hrel
        by_cases hi2 : i < l.length
        · have hi3 : (i : Int) < (l.length : Int) := by omega
          have hi4 : (0 : Int) ≤ (i : Int) := by omega
          obtain ⟨ad, ea, hc⟩ := Kd.at_int HC1.out (i : Int) (by omega) (by omega)
          rw [Int.toNat_natCast, rd, Int.toNat_natCast, List.getD_eq_getElem?_getD, List.getElem?_eq_getElem hi2] at hc
          change w1.cell? (ad.add i) = some (.int .i64 l[i]) at hc
          cases ea
          have hrange := HP.out.nf.range _ (List.getElem_mem hi2)
          obtain ⟨a, haa⟩ : ∃ a : Nat, l[i] = (a : Int) := ⟨l[i].toNat, by omega⟩
          have HAA := Aside0.mk haa
          rw [haa] at hc hrange
          have ha8 : a < 8 := by omega
          clear haa hrange
          go_wp2_with fail
          go_loop [15, 17] (fun y p' => ∃ (yi : Int) (p : Nat), y = .int .i64 yi ∧ p' = .int .i64 p ∧ p ≤ pl ∧ Aside0 (Lst l pl t i p yi)) (fun _ p' => pl - (intOf p').toNat)
          case atStart => exact ⟨y, 0, rfl, rfl, Nat.zero_le _, HL⟩
          case round =>
            obtain ⟨z, x, rfl, rfl, hxl, HLZ⟩ := hrel
            by_cases hx2 : x < pl
            · have hx3 : (x : Int) < (pl : Int) := by omega
              go_wp2_with fail
              refine (rspot_small kNode a x w1 (by decide) (by omega) (by omega)).mono ?_
              rintro e w' ⟨rfl, rfl⟩
              have HU : Aside0 (spN (l[i]'hi2) x = spot kNode a x) := ⟨by rw [HAA.out]; rfl⟩
              obtain ⟨u, huu⟩ : ∃ u, spot kNode a x = u := ⟨_, rfl⟩
              rw [huu] at HU ⊢
              clear huu
              by_cases hut : u = t
              · have HL2 := Aside0.mk (HLZ.out.yes hi2 hx2 (HU.out.trans hut))
                rw [HAA.out, show min z (a : Int) = (if (a : Int) < z then (a : Int) else z) by split <;> omega] at HL2
                subst hut
                go_wp2_with fail
                go_round
                case rel => exact ⟨_, x + 1, rfl, by go_num, by omega, HL2⟩
                case measure => simp [intOf]; omega
              · have hut2 : (u == t) = false := by simpa using hut
                have HL2 := Aside0.mk (HLZ.out.no hi2 (by rw [HU.out]; exact hut))
                clear hut
                go_wp2_with fail
                go_round
                case rel => exact ⟨z, x + 1, rfl, by go_num, by omega, HL2⟩
                case measure => simp [intOf]; omega
            · have ex : x = pl := by omega
              have hx3 : ¬ (x : Int) < (pl : Int) := by omega
              have HL2 := Aside0.mk (Lst.next (by have := HLZ.out; rw [ex] at this; exact this))
              go_wp2_with fail
              go_round
              case rel => exact ⟨z, i + 1, rfl, by go_num, by omega, HL2⟩
              case measure => simp [intOf]; omega
        · have ei : i = l.length := by omega
          subst ei
          have hi3 : ¬ (l.length : Int) < (l.length : Int) := by omega
          go_wp2_with fail
          refine (home_some HR1.out HRL.out t ht1 ht2).mono ?_
          rintro e w4 ⟨⟨x, rfl, hx⟩, hb4⟩
          have hxy : x = y := by
            have h1 := HL.out
            rw [← HT.out] at h1 hx
            exact h1.least HNL.out hjl hx
          subst hxy
          have HB4 := Aside0.mk (below_step HB1.out hb4)
          clear hb4 hx
          go_wp2_with (go_at_call 18; refine (awake_calls _).mono ?_; rintro e w6 ⟨rfl, hb6⟩)
          go_ret
          exact ⟨rfl, below_step HB4.out hb6⟩
end Go.Proofs.YthnonapfkobdcaaDoor.Ri
