/- WheelLater's walk. -/
import Derived.Test.YtncmkcdnlcmiaaaWhP
import Derived.Test.YtncmkcdnlcmiaaaOp
namespace Go.Proofs.Ytncmkcdnlcmiaaa.Wh
open Go.RowKit Mb Go.Proofs.Ytncmkcdnlcmiaaa.Op Go.Proofs.YtncmkcdnlcmiaaaW.PrintWords Go.Proofs.YtncmkcdnlcmiaaaW.PrintLast Go.Proofs.YtncmkcdnlcmiaaaW.PrintMore
set_option linter.unusedVariables false
set_option linter.unusedSimpArgs false

theorem at_pair {W : World} {A : Option Addr} {l : List (Int × Int)} (h : ReadsRow I2 2 W A l.length l) (k : Nat) (hk : k < l.length) : ∃ ad, A = some ad ∧ W.cell? (ad.add (k * 2)) = some (.int .i64 l[k].1) ∧ W.cell? ⟨(ad.add (k * 2)).block, (ad.add (k * 2)).off + 1, none⟩ = some (.int .i64 l[k].2) := by
  obtain ⟨ad, e, hc⟩ := h.2.2 (by omega)
  obtain ⟨c, _, ⟨rfl, _⟩, hx⟩ := hc k _ (List.getElem?_eq_getElem hk)
  exact ⟨ad, e, hx 0 _ rfl, by have := hx 1 _ rfl; rw [← Addr.add_add] at this; exact this⟩

theorem i64_and15' (n : Int) : ∃ y : Nat, bits .and .i64 n 15 = (y : Int) ∧ y ≤ 15 := ⟨(n % 16).toNat, by rw [i64_and15]; omega, by omega⟩
theorem i64_and63' (n : Int) : ∃ y : Int, bits .and .i64 n 63 = y ∧ 0 ≤ y ∧ y ≤ 63 := ⟨n % 64, i64_and63 n, by omega, by omega⟩

set_option maxRecDepth 100000 in
set_option maxHeartbeats 1000000 in
theorem later_calls (w : World) (A : Option Addr) (c : Nat) (l : List (Int × Int)) (hr : ReadsRow I2 2 w A l.length l) (hc : l.length ≤ c) : Calls Try.prog 5 #[.slice A l.length c] w (Yes w) := by
  have HR := Aside0.mk hr
  clear hr hc
  go_enter Try.func5, Try.ntmps5
  go_wp2_with fail
  refine (wnew _).mono ?_
  rintro e W1 ⟨F, p, rfl, h1, hB, hb1⟩
  have HW1 : Aside0 (Many W1 F p 0 [] 0) := ⟨many_new h1⟩
  have HM : Aside0 (Mine w W1 F) := ⟨Mine.mk hB hb1⟩
  clear h1 hB hb1
  by_cases hlen : l.length ≤ 60
  · have hlen' : (l.length : Int) ≤ 60 := by omega
    obtain ⟨i0, hi, hz0, hz1, hz2⟩ := info_parts (show (Try.prog.info? 3).map (fun i => (i.zero, i.size, i.bytes)) = some (some (.int .i64 0), 1, 8) by kernel_rfl)
    have HI := Aside0.mk hi
    have HZ0 := Aside0.mk hz0
    have HZ1 := Aside0.mk hz1
    have HZ2 := Aside0.mk hz2
    clear hi hz0 hz1 hz2
    go_wp2_with fail
    go_loopw [4, 5, 6] (fun now du i wr => ∃ (k t : Nat) (F' : Nat → Prop) (ds : List Int) (A2 : Option Addr) (c2 : Nat), k ≤ l.length ∧ i = .int .i64 k ∧ now = .int .i64 t ∧ t ≤ 15 * k ∧ du = .slice A2 ds.length c2 ∧ Aside0 (ds.length = k) ∧ Aside0 (∀ d ∈ ds, d ≤ (t : Int) + 64) ∧ Aside0 (Later w wr F' p t ds k ds A2 c2)) (fun _ _ i _ => l.length - (intOf i).toNat)
    case atStart => exact ⟨0, 0, F, [], none, 0, by omega, rfl, rfl, by omega, rfl, ⟨rfl⟩, ⟨by simp⟩, ⟨HW1.out, HM.out, own_nil _ _ _ _, fun k hk => by cases hk⟩⟩
    case round =>
      clear HW1 HM
      obtain ⟨k, t, F', ds, A2, c2, hk, rfl, rfl, ht, rfl, HDL, HDB, HL⟩ := hrel
      by_cases hlt : k < l.length
      · have hlt' : (k : Int) < (l.length : Int) := by omega
        have hk0 : (0 : Int) ≤ (k : Int) := by omega
        obtain ⟨ad, ea, hx0, hx1⟩ := at_pair HR.out k hlt
        cases ea
        have HX0 := Aside0.mk hx0
        have HX1 := Aside0.mk hx1
        obtain ⟨y, i15, hy⟩ := i64_and15' l[k].1
        obtain ⟨z, i63, hz0, hz1⟩ := i64_and63' l[k].2
        clear hx0 hx1
        go_wp2_with fail
        go_loopw [4, 7] (fun now kk wr => ∃ (t' j : Nat), j ≤ y ∧ kk = .int .i64 j ∧ now = .int .i64 t' ∧ t' ≤ 15 * k + j ∧ Aside0 (∀ d ∈ ds, d ≤ (t' : Int) + 64) ∧ Aside0 (Later w wr F' p t' ds k ds A2 c2)) (fun _ kk _ => y - (intOf kk).toNat)
        case atStart => exact ⟨t, 0, by omega, rfl, rfl, by omega, HDB, HL⟩
        case round =>
          clear HDB HL
          obtain ⟨t', j, hj, rfl, rfl, ht', HDB, HL⟩ := hrel
          have q0 := (HL.out.mine.below.cell (World.block_lt_of_cell? w _ HX0.out)).trans HX0.out
          have q1 := (HL.out.mine.below.cell (World.block_lt_of_cell? w _ HX1.out)).trans HX1.out
          by_cases hjy : j < y
          · have hjy' : (j : Int) < (y : Int) := by omega
            go_wp2_with fail
            refine (many_tick HL.out.many (by omega) (by omega) (by omega)).mono ?_
            rintro e w2 ⟨⟨Av, cv, rfl, hown⟩, h2, h3⟩
            obtain ⟨q, hql⟩ : ∃ q, (idxF 0 ds ((t' : Int) + 1)).length = q := ⟨_, rfl⟩
            rw [hql] at hown
            rw [hql]
            have HQL := Aside0.mk hql
            have HOW := Aside0.mk hown
            have HL2 := Aside0.mk (HL.out.tick h2 h3)
            clear h2 h3 hown hql q0 q1
            go_wp2_with fail
            refine (tells_calls _ Av A2 q cv c2 ds ((t' : Int) + 1) HQL.out (Kd.C_of_reads (own_reads' HOW.out)) (Kd.C_of_reads (own_reads' HL2.out.row)) (by have := HDL.out; omega)).mono ?_
            rintro e w3 ⟨rfl, rfl⟩
            go_wp2_with fail
            go_roundw
            case rel => exact ⟨t' + 1, j + 1, by omega, by go_num, by go_num, by omega, ⟨fun d hd => by have := HDB.out d hd; omega⟩, HL2⟩
            case measure => simp [intOf]; omega
          · have ejy : j = y := by omega
            subst ejy
            have hjy' : ¬ (j : Int) < (j : Int) := by omega
            go_wp2_with fail
            refine (many_set HL.out.many (k : Int) (1 + z) (by have := HDL.out; omega) (by omega) (by omega) (by have := HDL.out; omega) (by omega) (by omega) (by omega)).mono ?_
            rintro e w2 ⟨rfl, ⟨F2, h2, hF2⟩, h3⟩
            have HL2 := Aside0.mk (HL.out.set h2 hF2 h3)
            have q2 := (HL2.out.mine.below.cell (World.block_lt_of_cell? w _ HX1.out)).trans HX1.out
            have HSZ := Aside0.mk HL2.out.mine.below.size
            clear h2 hF2 h3 q0 q1
            go_wp2_with (at_builtin; refine wpList_append_mine rfl _ _ 22 rfl w.heap.size 3 i0 (.int .i64 0) 1 8 Try.underlying22 HI.out HZ0.out HZ1.out HZ2.out rfl (by decide) (.slice A2 ds.length c2) ds.length (nums .i64 ds) rfl (own_alloc HL2.out.row _) ⟨w2.heap.size, 0, none⟩ 1 1 [.int .i64 ((t' : Int) + 1 + z)] rfl rfl (cell_one_new _ _ _) (by intro u hu; simp at hu; rw [hu]; rfl) (ds ++ [(t' : Int) + 1 + z]).length (by simp) (by have := HDL.out; simp [maxLen]; omega) (by have := HDL.out; simp; omega) (by have := HSZ.out; simp; omega) ?_; intro A3 c3 w4 r1 r2 r3)
            rw [nums_app] at r1
            have HL4 := Aside0.mk (HL2.out.app r1 r2 r3)
            clear r1 r2 r3
            go_roundw
            case rel => exact ⟨k + 1, t', F2, ds ++ [(t' : Int) + 1 + z], A3, c3, by omega, by go_num, rfl, by omega, by simp, ⟨by have := HDL.out; simp; omega⟩, ⟨fun d hd => by
              rcases List.mem_append.1 hd with h | h
              · exact HDB.out d h
              · simp at h; omega⟩, ⟨by have := HL4.out; rw [show (t' : Int) + (1 + z) = (t' : Int) + 1 + z by omega] at this; exact this⟩⟩
            case measure => simp [intOf]; omega
      · have ek : k = l.length := by omega
        have hlt' : ¬ (k : Int) < (l.length : Int) := by omega
        go_wp2_with fail
        go_loopw [4, 8] (fun now kk wr => ∃ (t' j : Nat), j ≤ 65 ∧ kk = .int .i64 j ∧ now = .int .i64 t' ∧ t' ≤ 900 + j ∧ Aside0 (∀ d ∈ ds, d ≤ (t' : Int) + 64 - (j : Int)) ∧ Aside0 (Later w wr F' p t' ds k ds A2 c2)) (fun _ kk _ => 65 - (intOf kk).toNat)
        case atStart => exact ⟨t, 0, by omega, rfl, rfl, by omega, ⟨fun d hd => by have := HDB.out d hd; omega⟩, HL⟩
        case round =>
          clear HDB HL
          obtain ⟨t', j, hj, rfl, rfl, ht', HDB, HL⟩ := hrel
          by_cases hjy : j < 65
          · have hjy' : (j : Int) < 65 := by omega
            go_wp2_with fail
            refine (many_tick HL.out.many (by omega) (by omega) (by omega)).mono ?_
            rintro e w2 ⟨⟨Av, cv, rfl, hown⟩, h2, h3⟩
            obtain ⟨q, hql⟩ : ∃ q, (idxF 0 ds ((t' : Int) + 1)).length = q := ⟨_, rfl⟩
            rw [hql] at hown
            rw [hql]
            have HQL := Aside0.mk hql
            have HOW := Aside0.mk hown
            have HL2 := Aside0.mk (HL.out.tick h2 h3)
            clear h2 h3 hown hql
            go_wp2_with fail
            refine (tells_calls _ Av A2 q cv c2 ds ((t' : Int) + 1) HQL.out (Kd.C_of_reads (own_reads' HOW.out)) (Kd.C_of_reads (own_reads' HL2.out.row)) (by have := HDL.out; omega)).mono ?_
            rintro e w3 ⟨rfl, rfl⟩
            go_wp2_with fail
            go_roundw
            case rel => exact ⟨t' + 1, j + 1, by omega, by go_num, by go_num, by omega, ⟨fun d hd => by have := HDB.out d hd; omega⟩, HL2⟩
            case measure => simp [intOf]; omega
          · have ejy : j = 65 := by omega
            subst ejy
            have hjy' : ¬ ((65 : Nat) : Int) < 65 := by omega
            go_wp2_with fail
            refine (wlen HL.out.many.is 0 (by rw [cnt_end _ _ (fun d hd => by have := HDB.out d hd; omega)]; rfl)).mono ?_
            rintro e w3 ⟨rfl, rfl⟩
            go_wp2_with (go_at_call 13; refine (awake_calls _).mono ?_; rintro e w7 ⟨rfl, hb7⟩)
            go_ret
            exact ⟨rfl, below_then HL.out.mine.below HL.out.mine.below.size hb7⟩
  · have hlen' : ¬ (l.length : Int) ≤ 60 := by omega
    have hlen2 : (60 : Int) < (l.length : Int) := by omega
    go_wp2_with (go_at_call 13; refine (awake_calls _).mono ?_; rintro e w7 ⟨rfl, hb7⟩)
    go_ret
    exact ⟨rfl, below_then HM.out.below HM.out.below.size hb7⟩

end Go.Proofs.Ytncmkcdnlcmiaaa.Wh
