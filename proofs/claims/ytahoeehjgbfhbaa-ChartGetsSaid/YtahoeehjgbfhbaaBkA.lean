/- ChartBack: the law's walk. -/
import Derived.Test.YtahoeehjgbfhbaaChD
namespace Go.Proofs.Ytahoeehjgbfhbaa.Ch
open Base Go.RowKit Go.Proofs.YtahoeehjgbfhbaaW.PrintWords Go.Proofs.YtahoeehjgbfhbaaW.PrintLast Go.Proofs.YtahoeehjgbfhbaaW.PrintMore
set_option linter.unusedVariables false
set_option linter.unusedSimpArgs false

def Yes (w : World) (e : Ending) (w' : World) : Prop := e = .returned (.bool true) ∧ Below w.heap.size w w'

set_option maxHeartbeats 400000 in
theorem back_early (ep : Int) (A : Option Addr) (c : Nat) (xs : List Int) (shard tn : Int) (w : World) (hr : Kd.C (Kd.int .i64) w A xs.length xs) (_hcap : xs.length ≤ c) (hx : xs.length ≤ 9223372036854775807)
   (h : ckI ep xs = 1 ∨ 1099511627774 < ep) :
    Calls Try.prog 3 #[.agg #[.int .i64 ep, .slice A xs.length c], .int .i64 shard, .int .i64 tn] w (Yes w) := by
  have HR := Aside0.mk hr
  clear hr
  by_cases h1 : 1099511627774 < ep
  · clear h
    have HK := Aside0.mk (ck01 ep xs)
    rcases ck01 ep xs with hb | hb
    all_goals
      have HB := Aside0.mk hb
      clear hb HK
      go_enter Try.func3, Try.ntmps3
      go_wp2_with (first | (go_at_call 6; refine (check_calls ep _ c xs _ (Kd.C_below HR.out (below_alloc (Below.refl _ _) _)) hx).mono ?_; rintro e w' ⟨rfl, hb⟩; rw [HB.out]; obtain ⟨hc, hf⟩ := bcell hb) | (go_at_call 7; refine (awake_calls _).mono ?_; rintro e w'' ⟨rfl, hb2⟩))
      go_ret
      exact ⟨rfl, below_step (below_step (below_alloc (Below.refl _ _) _) hb) hb2⟩
  · have hb : ckI ep xs = 1 := by omega
    have HB := Aside0.mk hb
    clear hb h
    go_enter Try.func3, Try.ntmps3
    go_wp2_with (first | (go_at_call 6; refine (check_calls ep _ c xs _ (Kd.C_below HR.out (below_alloc (Below.refl _ _) _)) hx).mono ?_; rintro e w' ⟨rfl, hb⟩; rw [HB.out]; obtain ⟨hc, hf⟩ := bcell hb) | (go_at_call 7; refine (awake_calls _).mono ?_; rintro e w'' ⟨rfl, hb2⟩))
    go_ret
    exact ⟨rfl, below_step (below_step (below_alloc (Below.refl _ _) _) hb) hb2⟩

set_option maxHeartbeats 400000 in
theorem back_same (ep : Int) (A : Option Addr) (c : Nat) (xs : List Int) (shard tn : Int) (s : Nat) (sm n : Int) (w : World) (hr : Kd.C (Kd.int .i64) w A xs.length xs) (hcap : xs.length ≤ c) (hx : xs.length ≤ 9223372036854775807)
   (hb : ckI ep xs = 0) (h1 : ep ≤ 1099511627774) (h0 : (0 : Int) < (xs.length : Int)) (e1 : bits .and .i64 shard 255 = sm) (e2 : bits .and .i64 tn 7 = n) (e3 : sm % (xs.length : Int) = (s : Int)) (hs : s < xs.length) (b1 : 0 ≤ sm) (b2 : sm ≤ 255) (b3 : 0 ≤ n) (b4 : n < 8)
   (hn : (n == rd xs (s : Int)) = true) :
    Calls Try.prog 3 #[.agg #[.int .i64 ep, .slice A xs.length c], .int .i64 shard, .int .i64 tn] w (Yes w) := by
  have HR := Aside0.mk hr
  clear hr
  have HB := Aside0.mk hb
  clear hb
  obtain ⟨ad, ea, hcell⟩ := at_nat HR.out s hs
  cases ea
  go_enter Try.func3, Try.ntmps3
  go_wp2_with (go_at_call 6; refine (check_calls ep _ c xs _ (Kd.C_below HR.out (below_alloc (Below.refl _ _) _)) hx).mono ?_; rintro e w' ⟨rfl, hb⟩; rw [HB.out]; obtain ⟨hc, hf⟩ := bcell hb; have hcell' := pw_cell_below (below_step (below_alloc (Below.refl _ _) _) hb) hcell)
  have hb1 := below_step (below_alloc (Below.refl _ _) _) hb
  have HN := Aside0.mk (show n = rd xs (s : Int) by simpa using hn)
  refine (done_odd ep _ c xs s (rd xs (s : Int)) n _ (Kd.C_below HR.out hb1) hx HB.out (by have := HN.out; omega)).mono ?_
  rintro e w2 ⟨⟨A2, c2, rfl, _, _, _⟩, hb2⟩
  go_wp2_with (go_at_call 7; refine (awake_calls _).mono ?_; rintro e w3 ⟨rfl, hb3⟩)
  go_ret
  exact ⟨rfl, below_step (below_alloc (below_step hb1 hb2) _) hb3⟩

theorem ck_bounds {ep : Int} {xs : List Int} (h : ckI ep xs = 0) : 1 ≤ ep ∧ ep ≤ 1099511627776 ∧ 1 ≤ xs.length ∧ xs.length ≤ 16 := by
  unfold ckI mayB at h; simp at h; omega

set_option maxHeartbeats 1000000 in
theorem back_goes (ep : Int) (A : Option Addr) (c : Nat) (xs : List Int) (shard tn : Int) (s : Nat) (sm n : Int) (w : World) (hr : Kd.C (Kd.int .i64) w A xs.length xs) (hcap : xs.length ≤ c) (hx : xs.length ≤ 9223372036854775807)
   (hb : ckI ep xs = 0) (h1 : ep ≤ 1099511627774) (h0 : (0 : Int) < (xs.length : Int)) (e1 : bits .and .i64 shard 255 = sm) (e2 : bits .and .i64 tn 7 = n) (e3 : sm % (xs.length : Int) = (s : Int)) (hs : s < xs.length) (b1 : 0 ≤ sm) (b2 : sm ≤ 255) (b3 : 0 ≤ n) (b4 : n < 8)
   (hn : (n == rd xs (s : Int)) = false) (hn' : (rd xs (s : Int) == n) = false) (hb' : ckI (ep + 1) (doneN xs s n) = 0) (hs3 : rd (doneN xs s n) (s : Int) = n) (hs4 : doneN (doneN xs s n) s (rd xs (s : Int)) = xs) (hl : (doneN xs s n).length = xs.length)
   (hf0 : 0 ≤ rd xs (s : Int)) (hf8 : rd xs (s : Int) < 8)
   (hdiff : ∀ i : Nat, i < xs.length → i ≠ s → rd (doneN xs s n) (i : Int) = rd xs (i : Int)) :
    Calls Try.prog 3 #[.agg #[.int .i64 ep, .slice A xs.length c], .int .i64 shard, .int .i64 tn] w (Yes w) := by
  have HR := Aside0.mk hr
  clear hr
  have HB := Aside0.mk hb
  clear hb
  have HB' := Aside0.mk hb'
  clear hb'
  have HS3 := Aside0.mk hs3
  clear hs3
  have HS4 := Aside0.mk hs4
  clear hs4
  have HL := Aside0.mk hl
  clear hl
  have HD := Aside0.mk hdiff
  clear hdiff
  have hd2 : ∀ (A2 : Option Addr) (c2 : Nat) (W : World), xs.length ≤ c2 → Kd.C (Kd.int .i64) W A2 xs.length (doneN xs s n) → Calls Try.prog 8 #[.agg #[.int .i64 (ep + 1), .slice A2 xs.length c2], .agg #[.int .i64 (s : Int), .int .i64 n, .int .i64 (rd xs (s : Int))]] W (Gives W (ep + 1 + 1) xs 0) := by
    intro A2 c2 W hc hC
    have := done_ok (ep + 1) A2 c2 (doneN xs s n) s n (rd xs (s : Int)) W (by rw [HL.out]; exact hC) (by rw [HL.out]; exact hx) (by rw [HL.out]; exact hc) HB'.out (by rw [HL.out]; exact hs) hf0 hf8 hn' (by rw [HS3.out]; simp) (by rw [beq_eq_false_iff_ne]; omega)
    have e : (doneN xs s n).take s ++ [rd xs (s : Int)] ++ (doneN xs s n).drop (s + 1) = xs := HS4.out
    rw [HL.out, e] at this
    exact this
  have HD2 := Aside0.mk hd2
  clear hd2
  have HCAP := Aside0.mk hcap
  have w1 : IntKind.i64.wrap (ep + 1) = ep + 1 := IntWalk.i64_in _ (by have := ck_bounds HB.out; omega)
  have w2' : IntKind.i64.wrap (ep + 2) = ep + 1 + 1 := by rw [IntWalk.i64_in _ (by have := ck_bounds HB.out; omega)]; omega
  obtain ⟨ad, ea, hcell⟩ := at_nat HR.out s hs
  cases ea
  go_enter Try.func3, Try.ntmps3
  go_wp2_with (go_at_call 6; refine (check_calls ep _ c xs _ (Kd.C_below HR.out (below_alloc (Below.refl _ _) _)) hx).mono ?_; rintro e w' ⟨rfl, hb⟩; rw [HB.out]; obtain ⟨hc, hf⟩ := bcell hb; have hcell' := pw_cell_below (below_step (below_alloc (Below.refl _ _) _) hb) hcell)
  have hb1 := below_step (below_alloc (Below.refl _ _) _) hb
  have c0 : w'.cell? ⟨w.heap.size, 0, none⟩ = some (.int .i64 ep) := by go_simp
  have c1 : w'.cell? ⟨w.heap.size, 1, none⟩ = some (.slice (some ad) xs.length c) := by go_simp
  have hz := hb.size
  rw [World.size_alloc] at hz
  clear hc hf hcell'
  refine (done_ok ep _ c xs s (rd xs (s : Int)) n _ (Kd.C_below HR.out hb1) hx hcap HB.out hs (by omega) (by omega) hn (by simp) (by rw [beq_eq_false_iff_ne]; omega)).mono ?_
  rintro e w2 ⟨⟨A2, c2, rfl, hc2, hC2, _⟩, hb2⟩
  rw [show xs.take s ++ [n] ++ xs.drop (s + 1) = doneN xs s n from rfl] at hC2 hc2 ⊢
  generalize doneN xs s n = ys at *
  rw [HL.out] at hC2 hc2 ⊢
  have HC2 := Aside0.mk hC2
  clear hC2
  have c0' := pw_cell_below hb2 c0
  have c1' := pw_cell_below hb2 c1
  have hz2 := hb2.size
  have hbb := below_step hb1 hb2
  have hzz : w.heap.size < w2.heap.size := by omega
  clear c0 c1 hb hb1 hb2 hz hz2
  go_wp2_with fail
  have d0 : (w2.alloc (Obj.cells #[Value.int IntKind.i64 (ep + 1), Value.slice A2 xs.length c2] 24)).cell? ⟨w.heap.size, 0, none⟩ = some (.int .i64 ep) := by go_simp
  have d1 : (w2.alloc (Obj.cells #[Value.int IntKind.i64 (ep + 1), Value.slice A2 xs.length c2] 24)).cell? ⟨w.heap.size, 1, none⟩ = some (.slice (some ad) xs.length c) := by go_simp
  have d2 : (w2.alloc (Obj.cells #[Value.int IntKind.i64 (ep + 1), Value.slice A2 xs.length c2] 24)).cell? ⟨w2.heap.size, 0, none⟩ = some (.int .i64 (ep + 1)) := by go_simp
  have d3 : (w2.alloc (Obj.cells #[Value.int IntKind.i64 (ep + 1), Value.slice A2 xs.length c2] 24)).cell? ⟨w2.heap.size, 1, none⟩ = some (.slice A2 xs.length c2) := by go_simp
  have hB3 := Aside0.mk (below_alloc hbb (Obj.cells #[Value.int IntKind.i64 (ep + 1), Value.slice A2 xs.length c2] 24))
  have HC3 := Aside0.mk (Kd.C_below HC2.out (below_alloc (Below.refl _ w2) (Obj.cells #[Value.int IntKind.i64 (ep + 1), Value.slice A2 xs.length c2] 24)))
  have hzW : w2.heap.size < (w2.alloc (Obj.cells #[Value.int IntKind.i64 (ep + 1), Value.slice A2 xs.length c2] 24)).heap.size := by simp
  generalize w2.alloc (Obj.cells #[Value.int IntKind.i64 (ep + 1), Value.slice A2 xs.length c2] 24) = W at *
  clear c0' c1' hbb HC2
  generalize w2.heap.size = g at *
  have HR3 := Aside0.mk (Kd.C_below HR.out hB3.out)
  clear hcell
  go_loopw [12] (fun i wr => ∃ k m : Nat, k ≤ xs.length ∧ i = .int .i64 k ∧ wr = W.drewN m) (fun i _ => xs.length - (intOf i).toNat)
  case atStart => exact ⟨0, 0, Nat.zero_le _, rfl, rfl⟩
  case round =>
    obtain ⟨k, m, hk, rfl, rfl⟩ := hrel
    clear e1 e2 e3 hcap h0 hn h1 HB HR b1 b2
    by_cases hlt : k < xs.length
    · obtain ⟨ad', ea', hr1⟩ := at_nat HR3.out k hlt
      cases ea'
      obtain ⟨ad2, ea2, hr2⟩ := at_nat HC3.out k hlt
      cases ea2
      have hlt' : (k : Int) < (xs.length : Int) := by omega
      have hk0 : (0 : Int) ≤ (k : Int) := by omega
      by_cases hks : k = s
      · have q1 : ((k : Int) == (s : Int)) = true := by rw [hks]; simp
        have q2 : ((k : Int) != (s : Int)) = false := by rw [hks]; simp
        have q3 : (k == s) = true := by rw [hks]; simp
        have q4 : (k != s) = false := by rw [hks]; simp
        have e0 : rd ys (k : Int) = n := by rw [hks]; exact HS3.out
        rw [e0] at hr2
        clear e0 hks
        go_upto_region 13 with (fail)
        go_quiet (fail)
        go_wp2_with fail
        go_roundw
        case rel => exact ⟨k + 1, _, by omega, by go_num, rfl⟩
        case measure => simp [intOf]; omega
      · have q1 : ((k : Int) == (s : Int)) = false := by rw [beq_eq_false_iff_ne]; omega
        have q2 : ((k : Int) != (s : Int)) = true := by rw [bne_iff_ne]; omega
        rw [HD.out k hlt hks] at hr2
        have q3 : (k == s) = false := by rw [beq_eq_false_iff_ne]; omega
        have q4 : (k != s) = true := by rw [bne_iff_ne]; omega
        clear hks
        go_upto_region 13 with (fail)
        go_quiet (fail)
        go_wp2_with fail
        go_roundw
        case rel => exact ⟨k + 1, _, by omega, by go_num, rfl⟩
        case measure => simp [intOf]; omega
    · have HR4 := Aside0.mk (Kd.C_drewN HR3.out m)
      go_wp2_with fail
      refine (HD2.out A2 c2 _ hc2 (Kd.C_drewN HC3.out m)).mono ?_
      rintro e w4 ⟨⟨A4, c4, rfl, hc4, hC4, _⟩, hb4⟩
      have HB4 := Aside0.mk (below_step (pw_below_drewN hB3.out m) hb4)
      have HC4 := Aside0.mk hC4
      have HCC4 := Aside0.mk hc4
      have HR5 := Aside0.mk (Kd.C_below HR4.out hb4)
      have f0 := pw_cell_below hb4 (show (W.drewN m).cell? ⟨w.heap.size, 0, none⟩ = some (.int .i64 ep) from d0)
      have f1 := pw_cell_below hb4 (show (W.drewN m).cell? ⟨w.heap.size, 1, none⟩ = some (.slice (some ad) xs.length c) from d1)
      have f2 := pw_cell_below hb4 (show (W.drewN m).cell? ⟨g, 0, none⟩ = some (.int .i64 (ep + 1)) from d2)
      have z1 : w.heap.size < w4.heap.size := by have := hb4.size; simp at this; omega
      have z2 : g < w4.heap.size := by have := hb4.size; simp at this; omega
      clear hb4 hC4 hc4 HR4 d0 d1 d2 d3 HC3 hlt hk hzz hzW
      go_wp2_with fail
      refine (PChartMoves.ploverref01_SameInts.calls (xs.length + 1) A4 c4 xs (some ad) c xs true _ (Kd.C_alloc HC4.out _) HCC4.out (Kd.C_alloc HR5.out _) HCAP.out (by rw [Pl.same_ints xs xs (by omega)]; simp)).mono ?_
      rintro e w5 ⟨rfl, ⟨⟨n5, rfl⟩⟩⟩
      go_wp2_with (go_at_call 7; refine (awake_calls _).mono ?_; rintro e w6 ⟨rfl, hb6⟩)
      go_ret
      exact ⟨rfl, below_step (pw_below_drewN (below_alloc HB4.out _) _) hb6⟩

end Go.Proofs.Ytahoeehjgbfhbaa.Ch
