/- cut, in the words of the kit's print (whose own text on it does not build). -/
import Derived.Test.YtncmkcdnlcmiaaaSi
namespace Go.Proofs.Ytncmkcdnlcmiaaa.PWheelPlays
open Go.RowKit Go.Proofs.YtncmkcdnlcmiaaaW.PrintWords Go.Proofs.YtncmkcdnlcmiaaaW.PrintLast Go.Proofs.YtncmkcdnlcmiaaaW.PrintMore
attribute [local go_sem] max2_int min2_int max_two min_two max_three min_three max_four min_four
set_option linter.unusedVariables false
set_option linter.unusedSimpArgs false
def ploverref14_cut.f (l0 : List Int) (a1 : Int) (a2 : Int) (l3 : List Int) : Option (List Int) := if 0 ≤ a1 then (if a1 ≤ (l0.length : Int) then (if ([] : List Int).length + (l0.take (a1 : Int).toNat).length < 17592186044416 then ((some (([] : List Int) ++ (l0.take (a1 : Int).toNat) : List Int)).bind fun y229 => (if y229.length + l3.length < 17592186044416 then ((some (y229 ++ l3 : List Int)).bind fun y232 => (if 0 ≤ (wrap64 (a1 + a2)) then (if (wrap64 (a1 + a2)) ≤ (l0.length : Int) then (if y232.length + (l0.drop ((wrap64 (a1 + a2)) : Int).toNat).length < 17592186044416 then (some (y232 ++ (l0.drop ((wrap64 (a1 + a2)) : Int).toNat))) else (none)) else (none)) else (none))) else (none))) else (none)) else (none)) else (none)
theorem cut_some {l0 : List Int} {a1 a2 : Int} {l3 r : List Int} (h : ploverref14_cut.f l0 a1 a2 l3 = some r) :
    0 ≤ a1 ∧ a1 ≤ (l0.length : Int) ∧ (l0.take a1.toNat).length + l3.length < 17592186044416 ∧ 0 ≤ wrap64 (a1 + a2) ∧ wrap64 (a1 + a2) ≤ (l0.length : Int) ∧
      (l0.take a1.toNat ++ l3).length + (l0.drop (wrap64 (a1 + a2)).toNat).length < 17592186044416 ∧ r = l0.take a1.toNat ++ l3 ++ l0.drop (wrap64 (a1 + a2)).toNat := by
  unfold ploverref14_cut.f at h
  split at h
  · next h1 =>
    split at h
    · next h2 =>
      split at h
      · next h3 =>
        simp only [Option.bind_some, List.nil_append] at h
        split at h
        · next h4 =>
          split at h
          · next h5 =>
            split at h
            · next h6 =>
              split at h
              · next h7 => exact ⟨h1, h2, h4, h5, h6, h7, (Option.some.inj h).symm⟩
              · cases h
            · cases h
          · cases h
        · cases h
      · cases h
    · cases h
  · cases h
set_option maxHeartbeats 1000000 in
set_option maxRecDepth 100000 in
theorem ploverref14_cut.calls (A0 : Option Addr) (c0 : Nat) (l0 : List Int) (a1 : Int) (a2 : Int) (A3 : Option Addr) (c3 : Nat) (l3 : List Int) (r : List Int) (w : World) (hr0 : Kd.C (Kd.int .i64) w A0 l0.length l0) (hc0 : l0.length ≤ c0) (hr3 : Kd.C (Kd.int .i64) w A3 l3.length l3) (hc3 : l3.length ≤ c3) (h : ploverref14_cut.f l0 a1 a2 l3 = some r) :
    Calls Try.prog 26 #[.slice A0 l0.length c0, .int .i64 a1, .int .i64 a2, .slice A3 l3.length c3] w fun e w' => ∃ v0_ : Value, e = .returned (v0_) ∧ Kd.R (Kd.int .i64) 3 w' w.heap.size (fun _ => True) v0_ r ∧ Below w.heap.size w w' := by
  obtain ⟨h1, h2, h4, h5, h6, h7, rfl⟩ := cut_some h
  obtain ⟨i013, hi013, _, hsz13, _⟩ := info_parts info3
  obtain ⟨hcut1, hA1, hC1⟩ := print_take_of (P := Try.prog) (Value.int .i64) 0 22 3 .i64 Try.underlying22 hi013 hsz13 A0 c0 l0 a1 h1 h2 hc0
  have hR1 := Kd.C_of_reads (h1 := fun _ => rfl) (hA1 _ (Kd.reads_of_C hr0))
  obtain ⟨n1, hn1⟩ : ∃ n, (l0.take a1.toNat).length = n := ⟨_, rfl⟩
  rw [hn1] at hcut1 hR1
  have HR1 := Aside0.mk hR1
  have HN1 := Aside0.mk hn1
  clear hR1 hn1
  obtain ⟨ji, hji⟩ : ∃ j, wrap64 (a1 + a2) = j := ⟨_, rfl⟩
  rw [hji] at h5 h6 h7 ⊢
  have hjw : IntKind.i64.wrap (a1 + a2) = ji := (i64_w _).trans hji
  obtain ⟨A2, hcut2, hA2, hC2⟩ := print_drop_of (P := Try.prog) (Value.int .i64) 0 22 3 .i64 Try.underlying22 hi013 hsz13 A0 c0 l0 ji h5 h6 hc0
  have hR2 := Kd.C_of_reads (h1 := fun _ => rfl) (hA2 _ (Kd.reads_of_C hr0))
  obtain ⟨n2, hn2⟩ : ∃ n, (l0.drop ji.toNat).length = n := ⟨_, rfl⟩
  rw [hn2] at hcut2 hR2
  have HR2 := Aside0.mk hR2
  have HN2 := Aside0.mk hn2
  clear hR2 hn2
  have HR3 := Aside0.mk hr3
  have H4 := Aside0.mk h4
  have H7 := Aside0.mk h7
  have c5b0 := eq_true h1
  have c5b1 : decide (0 ≤ a1) = true := decide_eq_true h1
  have c6b0 := eq_true h2
  have c6b1 : decide (a1 ≤ (l0.length : Int)) = true := decide_eq_true h2
  have c10b0 := eq_true h5
  have c10b1 : decide (0 ≤ ji) = true := decide_eq_true h5
  have c11b0 := eq_true h6
  have c11b1 : decide (ji ≤ (l0.length : Int)) = true := decide_eq_true h6
  clear h hr0 hr3 hA1 hA2 hi013 hsz13 hc0 hc3 h1 h2 h4 h5 h6 h7 hC1 hC2
  go_enter Try.func26, Try.ntmps26
  go_wp2_with (first | ((with_reducible refine gate_builtin (b := .append) (xs := #[.tmp 10, .tmp 13]) rfl ?_); at_builtin; refine Kd.R_append_rows (Kd.int .i64) (w0 := w) w.heap.size rfl (.tmp 10) (.tmp 13) 22 3 (.int .i64 0) 8 rfl Try.underlying22 info3 rfl (by decide) (by omega) (.slice none 0 0) ([] : List Int) (l0.take a1.toNat) _ _ _ (fun _ => True) (fun _ => False) rfl rfl (Kd.R_nil _ _ _ _ _) HR1.out (fun _ _ h => h) (fun _ h => h.elim) (fun _ _ => trivial) (Below.refl _ _) (Nat.le_refl _) (by have := H4.out; have := HN1.out; simp only [List.length_nil]; omega) ?_; intro v1 w1 ho hb hg hat; rw [List.nil_append] at ho; have HO1 := Aside0.mk ho; have HB1 := Aside0.mk hb; clear ho hb hg hat) | ((with_reducible refine gate_builtin (b := .append) (xs := #[.tmp 15, .tmp 16]) rfl ?_); at_builtin; refine Kd.R_append_rows (Kd.int .i64) (w0 := w) w.heap.size rfl (.tmp 15) (.tmp 16) 22 3 (.int .i64 0) 8 rfl Try.underlying22 info3 rfl (by decide) (by omega) v1 (l0.take a1.toNat) l3 _ _ _ (fun _ => True) (fun _ => False) rfl rfl HO1.out (Kd.C_below HR3.out HB1.out) (fun _ _ h => h) (fun _ h => h.elim) (fun _ _ => trivial) HB1.out HB1.out.size (by have := H4.out; omega) ?_; intro v2 w2 ho hb hg hat; have HO2 := Aside0.mk ho; have HB2 := Aside0.mk hb; clear ho hb hg hat) | ((with_reducible refine gate_builtin (b := .append) (xs := #[.tmp 18, .tmp 23]) rfl ?_); at_builtin; refine Kd.R_append_rows (Kd.int .i64) (w0 := w) w.heap.size rfl (.tmp 18) (.tmp 23) 22 3 (.int .i64 0) 8 rfl Try.underlying22 info3 rfl (by decide) (by omega) v2 (l0.take a1.toNat ++ l3) (l0.drop ji.toNat) _ _ _ (fun _ => True) (fun _ => False) rfl rfl HO2.out (Kd.C_below HR2.out HB2.out) (fun _ _ h => h) (fun _ h => h.elim) (fun _ _ => trivial) HB2.out HB2.out.size (by have := H7.out; have := HN2.out; omega) ?_; intro v3 w3 ho hb hg hat; have HO3 := Aside0.mk ho; have HB3 := Aside0.mk hb; clear ho hb hg hat))
  go_ret
  exact ⟨_, rfl, HO3.out, HB3.out⟩

end Go.Proofs.Ytncmkcdnlcmiaaa.PWheelPlays
