/- slices.SortStableFunc at points. -/
import Derived.Test.YtealiaafdkhonaaSj
namespace Go.Proofs.Ytealiaafdkhonaa.Vp
open Go.RowKit Go.Sort Mb Base Sq Go.Proofs.YtealiaafdkhonaaW.PrintWords Go.Proofs.YtealiaafdkhonaaW.PrintLast Go.Proofs.YtealiaafdkhonaaW.PrintMore
set_option linter.unusedVariables false
set_option linter.unusedSimpArgs false

theorem symMerge_calls (nb ng : Nat) (nv : List Int) (g : Nat) (c N : Nat) (hNb : N ≤ 1000000) : ∀ (n : Nat) (W : World) (Q : List E) (a m b : Nat), b - a ≤ n → SortAt W nb ng nv g Q → Q.length = N → a < m → m < b → b ≤ N → Up (kf dE (keyE nv) Q) a m → Up (kf dE (keyE nv) Q) m b →
    Calls Try.prog 71 #[.slice (some ⟨g, 0, none⟩) N c, .int .i64 (a : Nat), .int .i64 (m : Nat), .int .i64 (b : Nat), .func (.func 54) #[] #[.pointer (some ⟨nb, 0, none⟩)]] W (SortDone W nb ng nv g Q (fun Q' => Seg a b Q Q' ∧ Up (kf dE (keyE nv) Q') a b))
  | 0, W, Q, a, m, b, hn, h, hN, ham, hmb, hbN, h1, h2 => by omega
  | n + 1, W, Q, a, m, b, hn, h, hN, ham, hmb, hbN, h1, h2 => by
    by_cases e1 : m = a + 1
    · exact symMerge_one W nb ng nv g Q c h N hN hNb a m b e1 hmb hbN h2
    · by_cases e2 : b = m + 1
      · exact symMerge_two W nb ng nv g Q c h N hN hNb a m b (by omega) e2 hbN h1
      · exact symMerge_more nb ng nv g c N hNb W Q h hN a m b (by omega) (by omega) hbN h1 h2
          (fun W' Q' a' m' b' h hN ha hm hb hlt u1 u2 => symMerge_calls nb ng nv g c N hNb n W' Q' a' m' b' (by omega) h hN ha hm hb u1 u2)

theorem mult_gap {p a d : Nat} (hp : p % d = 0) (ha : a % d = 0) (h : p < a) : p + d ≤ a := by
  obtain ⟨x, rfl⟩ := Nat.dvd_of_mod_eq_zero hp
  obtain ⟨y, rfl⟩ := Nat.dvd_of_mod_eq_zero ha
  have : x < y := Nat.lt_of_mul_lt_mul_left h
  calc d * x + d = d * (x + 1) := by rw [Nat.mul_add, Nat.mul_one]
    _ ≤ d * y := Nat.mul_le_mul_left d this
theorem half_mod {a d : Nat} (h : a % (2 * d) = 0) : a % d = 0 := by
  obtain ⟨x, rfl⟩ := Nat.dvd_of_mod_eq_zero h
  rw [show 2 * d * x = d * (2 * x) by rw [Nat.mul_comm 2 d, Nat.mul_assoc]]
  exact Nat.mul_mod_right d _
theorem add_mod' {a d : Nat} (h : a % d = 0) : (a + d) % d = 0 := by rw [Nat.add_mod_right]; exact h
/-- In runs of so many. -/
def Runs (f : Nat → Int) (d n : Nat) : Prop := ∀ p, p % d = 0 → p < n → Up f p (min (p + d) n)
/-- Merged up to a, in runs of d behind it. -/
structure Half (f : Nat → Int) (d n a : Nat) : Prop where
  done : ∀ p, p % (2 * d) = 0 → p < a → Up f p (p + 2 * d)
  rest : ∀ p, p % d = 0 → a ≤ p → p < n → Up f p (min (p + d) n)
theorem Half.start {f : Nat → Int} {d n : Nat} (h : Runs f d n) : Half f d n 0 := ⟨fun p _ hp => by omega, fun p hp _ hn => h p hp hn⟩
theorem Half.step {Q Q' : List E} {nv : List Int} {d n a : Nat} (h : Half (kf dE (keyE nv) Q) d n a) (ha : a % (2 * d) = 0) (hd : 0 < d) (hs : Seg a (a + 2 * d) Q Q') (hu : Up (kf dE (keyE nv) Q') a (a + 2 * d)) : Half (kf dE (keyE nv) Q') d n (a + 2 * d) := by
  constructor
  · intro p hp hlt
    by_cases e : p < a
    · have := mult_gap hp ha e
      exact (h.done p hp e).congr (fun i h1 h2 => hs.kf_out (.inl (by omega)))
    · by_cases e2 : p = a
      · rw [e2]; exact hu
      · have := mult_gap ha hp (by omega); omega
  · intro p hp hle hn
    exact (h.rest p hp (by omega) hn).congr (fun i h1 h2 => hs.kf_out (.inr (by omega)))
theorem Half.stop {Q Q' : List E} {nv : List Int} {d n a : Nat} (h : Half (kf dE (keyE nv) Q) d n a) (ha : a % (2 * d) = 0) (hd : 0 < d) (han : a ≤ n) (hlt : n < a + 2 * d) (hs : Seg a n Q Q') (hu : Up (kf dE (keyE nv) Q') a n) : Runs (kf dE (keyE nv) Q') (2 * d) n := by
  intro p hp hpn
  by_cases e : p < a
  · have := mult_gap hp ha e
    rw [Nat.min_eq_left (by omega)]
    exact (h.done p hp e).congr (fun i h1 h2 => hs.kf_out (.inl (by omega)))
  · by_cases e2 : p = a
    · rw [e2, Nat.min_eq_right (by omega)]; exact hu
    · have := mult_gap ha hp (by omega); omega
/-- In runs of twenty up to a. -/
def Twenties (f : Nat → Int) (a : Nat) : Prop := ∀ p, p % 20 = 0 → p < a → Up f p (p + 20)
theorem twenty_step {Q Q' : List E} {nv : List Int} {a : Nat} (h : Twenties (kf dE (keyE nv) Q) a) (ha : a % 20 = 0) (hs : Seg a (a + 20) Q Q') (hu : Up (kf dE (keyE nv) Q') a (a + 20)) : Twenties (kf dE (keyE nv) Q') (a + 20) := by
  intro p hp hlt
  by_cases e : p < a
  · exact (h p hp e).congr (fun i h1 h2 => hs.kf_out (.inl (by omega)))
  · obtain rfl : p = a := by omega
    exact hu
theorem twenty_stop {Q Q' : List E} {nv : List Int} {a n : Nat} (h : Twenties (kf dE (keyE nv) Q) a) (ha : a % 20 = 0) (han : a ≤ n) (hlt : n < a + 20) (hs : Seg a n Q Q') (hu : Up (kf dE (keyE nv) Q') a n) : Runs (kf dE (keyE nv) Q') 20 n := by
  intro p hp hpn
  by_cases e : p < a
  · rw [Nat.min_eq_left (by omega)]
    exact (h p hp e).congr (fun i h1 h2 => hs.kf_out (.inl (by omega)))
  · obtain rfl : p = a := by omega
    rw [Nat.min_eq_right (by omega)]; exact hu

set_option maxRecDepth 100000 in
set_option maxHeartbeats 4000000 in
theorem stable_calls (W : World) (nb ng : Nat) (nv : List Int) (g : Nat) (Q : List E) (c : Nat) (h : SortAt W nb ng nv g Q) (N : Nat) (hN : Q.length = N) (hNb : N ≤ 1000000) :
    Calls Try.prog 64 #[.slice (some ⟨g, 0, none⟩) N c, .int .i64 (N : Nat), .func (.func 54) #[] #[.pointer (some ⟨nb, 0, none⟩)]] W (SortDone W nb ng nv g Q (fun Q' => Seg 0 N Q Q' ∧ Up (kf dE (keyE nv) Q') 0 N)) := by
  obtain ⟨ad, had⟩ : ∃ ad : Addr, ad = ⟨g, 0, none⟩ := ⟨_, rfl⟩
  have HINS := Aside0.mk (fun (W : World) (Q : List E) (h : SortAt W nb ng nv g Q) (hN : Q.length = N) (a b : Nat) (hab : a ≤ b) (hbN : b ≤ N) => insertion_calls W nb ng nv g Q c h N hN hNb a b hab hbN)
  have HSYM := Aside0.mk (fun (W : World) (Q : List E) (h : SortAt W nb ng nv g Q) (hN : Q.length = N) (a m b : Nat) (ham : a < m) (hmb : m < b) (hbN : b ≤ N) (u1 : Up (kf dE (keyE nv) Q) a m) (u2 : Up (kf dE (keyE nv) Q) m b) => symMerge_calls nb ng nv g c N hNb (b - a) W Q a m b (Nat.le_refl _) h hN ham hmb hbN u1 u2)
  rw [← had] at HINS HSYM
  rw [← had]
  have HN := Aside0.mk hN
  have HS0 := Aside0.mk h
  clear had hN h
  go_enter Try.func64, Try.ntmps64
  go_wp2_with fail
  go_loopw [7, 8] (fun z7 z8 wr => ∃ (a : Nat) (Q' : List E), z7 = .int .i64 a ∧ z8 = .int .i64 ((a + 20 : Nat) : Int) ∧ a ≤ N ∧ Aside0 (a % 20 = 0) ∧ Aside0 (SortAt wr nb ng nv g Q') ∧ Aside0 (Seg 0 N Q Q') ∧ Aside0 (Twenties (kf dE (keyE nv) Q') a) ∧ Aside0 (Turns (fun j => j = g) W wr)) (fun z7 _ _ => N + 1 - (intOf z7).toNat)
  case atStart => exact ⟨0, Q, rfl, rfl, by omega, ⟨rfl⟩, HS0, ⟨Seg.refl _ _ _⟩, ⟨fun p _ hp => by omega⟩, ⟨Turns.rfl_ W⟩⟩
  case round =>
    obtain ⟨a, Q1, rfl, rfl, haN, HA, HS, HG, HTW, HT⟩ := hrel
    by_cases hb : a + 20 ≤ N
    · have hb2 : ((a + 20 : Nat) : Int) ≤ (N : Int) := by omega
      have HC := Aside0.mk (HINS.out wr Q1 HS.out (HG.out.len.trans HN.out) a (a + 20) (by omega) hb)
      obtain ⟨b, hbb⟩ : ∃ b, a + 20 = b := ⟨_, rfl⟩
      have HBB := Aside0.mk hbb
      have hb3 : b + 20 ≤ 2000000 := by omega
      rw [hbb] at HC hb2
      rw [hbb]
      clear hbb
      go_wp2_with (go_at_call 70; refine HC.out.mono ?_; rintro e w9 ⟨rfl, ⟨Q9, hs9, hg9, hu9⟩, ht9⟩; have HS9 := Aside0.mk hs9; have HG9 := Aside0.mk hg9; have HU9 := Aside0.mk hu9; have HT9 := Aside0.mk ht9; clear hs9 hg9 hu9 ht9)
      go_roundw
      case rel => exact ⟨b, Q9, rfl, by go_num, by have := HBB.out; omega, ⟨by rw [← HBB.out, Nat.add_mod_right]; exact HA.out⟩, HS9, ⟨HG.out.trans (HG9.out.wide (by omega) (by have := HBB.out; omega))⟩, ⟨by have h8 := HG9.out; have h9 := HU9.out; rw [← HBB.out] at h8 h9; rw [← HBB.out]; exact twenty_step HTW.out HA.out h8 h9⟩, ⟨HT.out.trans_ HT9.out⟩⟩
      case measure => have := HBB.out; simp [intOf]; omega
    · have hb2 : ¬ ((a + 20 : Nat) : Int) ≤ (N : Int) := by omega
      have HC := Aside0.mk (HINS.out wr Q1 HS.out (HG.out.len.trans HN.out) a N haN (Nat.le_refl _))
      obtain ⟨wo, hwo⟩ : ∃ wo : World, wo = wr := ⟨_, rfl⟩
      subst hwo
      obtain ⟨b, hbb⟩ : ∃ b, a + 20 = b := ⟨_, rfl⟩
      have HBB := Aside0.mk hbb
      rw [hbb] at hb2
      rw [hbb]
      clear hbb
      go_wp2_with (go_at_call 70; refine HC.out.mono ?_; rintro e w9 ⟨rfl, ⟨Q9, hs9, hg9, hu9⟩, ht9⟩; have HS9 := Aside0.mk hs9; have HG9 := Aside0.mk hg9; have HU9 := Aside0.mk hu9; have HT9 := Aside0.mk ht9; clear hs9 hg9 hu9 ht9)
      have HR0 : Aside0 (Runs (kf dE (keyE nv) Q9) 20 N) := ⟨twenty_stop HTW.out HA.out haN (by have := HBB.out; omega) HG9.out HU9.out⟩
      have HG0 : Aside0 (Seg 0 N Q Q9) := ⟨HG.out.trans (HG9.out.wide (by omega) (Nat.le_refl _))⟩
      have HT0 : Aside0 (Turns (fun j => j = g) W w9) := ⟨HT.out.trans_ HT9.out⟩
      clear HC HBB HS HG HTW HT HG9 HU9 HT9 HA
      go_loopw [6] (fun z6 wr => ∃ (d : Nat) (Q' : List E), z6 = .int .i64 d ∧ 20 ≤ d ∧ d ≤ 2000000 ∧ Aside0 (SortAt wr nb ng nv g Q') ∧ Aside0 (Seg 0 N Q Q') ∧ Aside0 (Runs (kf dE (keyE nv) Q') d N) ∧ Aside0 (Turns (fun j => j = g) W wr)) (fun z6 _ => 4000000 - (intOf z6).toNat)
      case atStart => exact ⟨20, Q9, rfl, by omega, by omega, HS9, HG0, HR0, HT0⟩
      case round =>
        obtain ⟨d, Q1, rfl, hd1, hd2, HS, HG, HRU, HT⟩ := hrel
        by_cases hdn : d < N
        · have hdn2 : (d : Int) < (N : Int) := by omega
          obtain ⟨wo, hwo⟩ : ∃ wo : World, wo = wr := ⟨_, rfl⟩
          subst hwo
          have hd3 : d ≤ 1000000 := by omega
          go_wp2_with fail
          go_loopw [7, 8] (fun z7 z8 wr => ∃ (a : Nat) (Q' : List E), z7 = .int .i64 a ∧ z8 = .int .i64 ((a + 2 * d : Nat) : Int) ∧ a ≤ N ∧ Aside0 (a % (2 * d) = 0) ∧ Aside0 (SortAt wr nb ng nv g Q') ∧ Aside0 (Seg 0 N Q Q') ∧ Aside0 (Half (kf dE (keyE nv) Q') d N a) ∧ Aside0 (Turns (fun j => j = g) W wr)) (fun z7 _ _ => N + 1 - (intOf z7).toNat)
          case atStart => exact ⟨0, Q1, rfl, by go_num, by omega, ⟨Nat.zero_mod _⟩, HS, HG, ⟨Half.start HRU.out⟩, HT⟩
          case round =>
            obtain ⟨a, Q2, rfl, rfl, haN, HA, HS, HG, HH, HT⟩ := hrel
            have HAD1 : Aside0 (a % d = 0) := ⟨half_mod HA.out⟩
            obtain ⟨e, he⟩ : ∃ e, a + d = e := ⟨_, rfl⟩
            have HE := Aside0.mk he
            have he2 : (a : Int) + (d : Int) = (e : Int) := by omega
            obtain ⟨b, hbb⟩ : ∃ b, a + 2 * d = b := ⟨_, rfl⟩
            have HBB := Aside0.mk hbb
            by_cases hb : b ≤ N
            · have hb2 : (b : Int) ≤ (N : Int) := by omega
              have HC := Aside0.mk (HSYM.out wr Q2 HS.out (HG.out.len.trans HN.out) a e b (by omega) (by omega) hb
                (by have := HH.out.rest a HAD1.out (Nat.le_refl _) (by omega); rwa [Nat.min_eq_left (by omega), he] at this)
                (by have := HH.out.rest e (by rw [← he]; exact add_mod' HAD1.out) (by omega) (by omega); rwa [Nat.min_eq_left (by omega), show e + d = b by omega] at this))
              have hb3 : b + 2 * d ≤ 4000000 := by omega
              rw [hbb]
              clear hbb he
              go_wp2_with (go_at_call 71; refine HC.out.mono ?_; rintro e9 w9 ⟨rfl, ⟨Q9, hs9, hg9, hu9⟩, ht9⟩; have HS9 := Aside0.mk hs9; have HG9 := Aside0.mk hg9; have HU9 := Aside0.mk hu9; have HT9 := Aside0.mk ht9; clear hs9 hg9 hu9 ht9)
              go_roundw
              case rel => exact ⟨b, Q9, rfl, by go_num, by omega, ⟨by rw [← HBB.out]; exact add_mod' HA.out⟩, HS9, ⟨HG.out.trans (HG9.out.wide (by omega) hb)⟩, ⟨by have h8 := HG9.out; have h9 := HU9.out; rw [← HBB.out] at h8 h9; rw [← HBB.out]; exact HH.out.step HA.out (by omega) h8 h9⟩, ⟨HT.out.trans_ HT9.out⟩⟩
              case measure => have := HBB.out; simp [intOf]; omega
            · have hb2 : ¬ (b : Int) ≤ (N : Int) := by omega
              by_cases heN : e < N
              · have heN2 : (e : Int) < (N : Int) := by omega
                have HC := Aside0.mk (HSYM.out wr Q2 HS.out (HG.out.len.trans HN.out) a e N (by omega) heN (Nat.le_refl _)
                  (by have := HH.out.rest a HAD1.out (Nat.le_refl _) (by omega); rwa [Nat.min_eq_left (by omega), he] at this)
                  (by have := HH.out.rest e (by rw [← he]; exact add_mod' HAD1.out) (by omega) heN; rwa [Nat.min_eq_right (by omega)] at this))
                rw [hbb]
                clear hbb he
                go_wp2_with (go_at_call 71; refine HC.out.mono ?_; rintro e9 w9 ⟨rfl, ⟨Q9, hs9, hg9, hu9⟩, ht9⟩; have HS9 := Aside0.mk hs9; have HG9 := Aside0.mk hg9; have HU9 := Aside0.mk hu9; have HT9 := Aside0.mk ht9; clear hs9 hg9 hu9 ht9)
                go_roundw
                case rel => exact ⟨2 * d, Q9, by go_num, by omega, by omega, HS9, ⟨HG.out.trans (HG9.out.wide (by omega) (Nat.le_refl _))⟩, ⟨HH.out.stop HA.out (by omega) haN (by have := HBB.out; omega) HG9.out HU9.out⟩, ⟨HT.out.trans_ HT9.out⟩⟩
                case measure => simp [intOf]; omega
              · have heN2 : ¬ (e : Int) < (N : Int) := by omega
                have HUP : Aside0 (Up (kf dE (keyE nv) Q2) a N) := ⟨by
                  by_cases e9 : a < N
                  · have := HH.out.rest a HAD1.out (Nat.le_refl _) e9; rwa [Nat.min_eq_right (by omega)] at this
                  · exact Up.one _ _ _ (by omega)⟩
                rw [hbb]
                clear hbb he
                go_wp2_with fail
                go_roundw
                case rel => exact ⟨2 * d, Q2, by go_num, by omega, by omega, HS, HG, ⟨HH.out.stop HA.out (by omega) haN (by have := HBB.out; omega) (Seg.refl _ _ _) HUP.out⟩, HT⟩
                case measure => simp [intOf]; omega
        · have hdn2 : ¬ (d : Int) < (N : Int) := by omega
          go_wp2_with fail
          refine bodyPost_end (results_none rfl _ _ _) rfl ?_
          refine ⟨rfl, ⟨Q1, HS.out, HG.out, ?_⟩, HT.out⟩
          rcases Nat.eq_zero_or_pos N with h0 | h0
          · exact Up.one _ _ _ (by omega)
          · have := HRU.out 0 (by simp) h0
            rwa [Nat.min_eq_right (by omega)] at this
theorem sortStable_calls (W : World) (nb ng : Nat) (nv : List Int) (g : Nat) (Q : List E) (c : Nat) (h : SortAt W nb ng nv g Q) (N : Nat) (hN : Q.length = N) (hNb : N ≤ 1000000) :
    Calls Try.prog 53 #[.slice (some ⟨g, 0, none⟩) N c, .func (.func 54) #[] #[.pointer (some ⟨nb, 0, none⟩)]] W (SortDone W nb ng nv g Q (fun Q' => Seg 0 N Q Q' ∧ Up (kf dE (keyE nv) Q') 0 N)) := by
  have HC := Aside0.mk (stable_calls W nb ng nv g Q c h N hN hNb)
  clear hN h
  go_enter Try.func53, Try.ntmps53
  go_wp2_with (go_at_call 64; refine HC.out.mono ?_; rintro e w9 ⟨rfl, hx, ht9⟩; have HX := Aside0.mk hx; have HT9 := Aside0.mk ht9; clear hx ht9)
  refine bodyPost_end (results_none rfl _ _ _) rfl ?_
  exact ⟨rfl, HX.out, HT9.out⟩
end Go.Proofs.Ytealiaafdkhonaa.Vp
