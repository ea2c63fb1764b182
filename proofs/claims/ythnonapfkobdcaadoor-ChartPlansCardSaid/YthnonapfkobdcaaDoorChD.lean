/- chart.Done in one contract, and what must come whatever the arguments are (awake). -/
import Derived.Test.YthnonapfkobdcaaDoorChC
import Derived.Test.YthnonapfkobdcaaDoorPl
namespace Go.Proofs.YthnonapfkobdcaaDoor.Ch
open Base Go.RowKit Go.Proofs.YthnonapfkobdcaaDoorW.PrintWords Go.Proofs.YthnonapfkobdcaaDoorW.PrintLast Go.Proofs.YthnonapfkobdcaaDoorW.PrintMore
set_option linter.unusedVariables false
set_option linter.unusedSimpArgs false

def doneE (ep : Int) (xs : List Int) (s f t : Int) : Int :=
  if ckI ep xs = 1 ∨ s < 0 ∨ (xs.length : Int) ≤ s ∨ t < 0 ∨ 8 ≤ t ∨ t = f then 1 else if rd xs s ≠ f then 3 else if ep = 1099511627776 then 101 else 0
def doneN (xs : List Int) (s : Nat) (t : Int) : List Int := xs.take s ++ [t] ++ xs.drop (s + 1)

theorem ck01 (ep : Int) (xs : List Int) : ckI ep xs = 1 ∨ ckI ep xs = 0 := by unfold ckI; split <;> simp

theorem done_calls (ep : Int) (A : Option Addr) (c : Nat) (xs : List Int) (s f t : Int) (w : World) (hr : Kd.C (Kd.int .i64) w A xs.length xs) (hcap : xs.length ≤ c) (hx : xs.length ≤ 9223372036854775807) :
    Calls Tryd.prog 28 #[.agg #[.int .i64 ep, .slice A xs.length c], .agg #[.int .i64 s, .int .i64 f, .int .i64 t]] w
      (if doneE ep xs s f t = 0 then Gives w (ep + 1) (doneN xs s.toNat t) 0 else Gives w 0 [] (doneE ep xs s f t)) := by
  unfold doneE
  rcases ck01 ep xs with hb | hb
  · rw [if_pos (Or.inl hb), if_neg (by omega)]
    exact done_bad ep A c xs s f t w hr hx hb
  · by_cases h : s < 0 ∨ (xs.length : Int) ≤ s ∨ t < 0 ∨ 8 ≤ t ∨ t = f
    · rw [if_pos (Or.inr h), if_neg (by omega)]
      exact done_odd ep A c xs s f t w hr hx hb h
    · have g : ¬ (ckI ep xs = 1 ∨ s < 0 ∨ (xs.length : Int) ≤ s ∨ t < 0 ∨ 8 ≤ t ∨ t = f) := by omega
      have h4 : (t == f) = false := by rw [beq_eq_false_iff_ne]; omega
      rw [if_neg g]
      by_cases h5 : rd xs s ≠ f
      · rw [if_pos h5, if_neg (by omega)]
        exact done_none ep A c xs s f t w hr hx hb (by omega) (by omega) (by omega) (by omega) h4 (by rw [bne_iff_ne]; exact h5)
      · have h5' : (rd xs s != f) = false := by simpa using h5
        rw [if_neg h5]
        by_cases h6 : ep = 1099511627776
        · rw [if_pos h6, if_neg (by omega)]
          exact done_last ep A c xs s f t w hr hx hb (by omega) (by omega) (by omega) (by omega) h4 h5' (by simpa using h6)
        · rw [if_neg h6, if_pos rfl]
          obtain ⟨n, rfl⟩ := Int.eq_ofNat_of_zero_le (show 0 ≤ s by omega)
          exact done_ok ep A c xs n f t w hr hx hcap hb (by omega) (by omega) (by omega) h4 h5' (by simpa using h6)

theorem lit_reads (w : World) (n : Nat) (hn : w.heap.size = n) (cs : Array Value) (m : Nat) (xs : List Int) (hc : (nums .i64 xs).toArray = cs) (hx : xs.length = m) (hm : m ≤ 9223372036854775807) :
    Kd.C (Kd.int .i64) (w.alloc (.cells cs 3)) (some ⟨n, 0, none⟩) m xs := by
  subst hn hc hx
  exact Kd.C_of_reads (own_reads' (own_lit w 0 3 .i64 xs (Nat.zero_le _) hm))

theorem same_true : PChartPlans.ploverref12_Same.f 4 5 [0, 1, 1] 5 [0, 1, 1] = some true := by
  have := Pl.same_f 5 5 [0, 1, 1] [0, 1, 1] (by decide)
  simpa using this

set_option maxHeartbeats 400000 in
theorem awake_calls (w : World) : Calls Tryd.prog 22 #[] w fun e w' => e = .returned (.bool true) ∧ Below w.heap.size w w' := by
  have hd : ∀ W, Kd.C (Kd.int .i64) W (some ⟨w.heap.size, 0, none⟩) 3 [0, 1, 0] → Calls Tryd.prog 28 #[.agg #[.int .i64 4, .slice (some ⟨w.heap.size, 0, none⟩) 3 3], .agg #[.int .i64 2, .int .i64 0, .int .i64 1]] W (Gives W 5 [0, 1, 1] 0) :=
    fun W hr => done_ok 4 (some ⟨w.heap.size, 0, none⟩) 3 [0, 1, 0] 2 0 1 W hr (by decide) (by decide) (by decide) (by decide) (by decide) (by decide) (by decide) (by decide) (by decide)
  have HD := Aside0.mk hd
  clear hd
  have hl := lit_reads w w.heap.size rfl #[.int .i64 0, .int .i64 1, .int .i64 0] 3 [0, 1, 0] rfl rfl (by decide)
  have HL := Aside0.mk hl
  clear hl
  go_enter Tryd.func22, Tryd.ntmps22
  go_wp2_with fail
  refine (HD.out _ HL.out).mono ?_
  rintro e w1 ⟨⟨A, cc, rfl, hcc, hC, _⟩, hb⟩
  have hb1 := below_step ((Below.refl _ w).alloc (Nat.le_refl _) (Obj.cells #[Value.int IntKind.i64 0, Value.int IntKind.i64 1, Value.int IntKind.i64 0] 3)) hb
  have HB1 := Aside0.mk hb1
  have HCC := Aside0.mk hcc
  have HC := Aside0.mk hC
  clear hb hb1 hcc hC HD HL
  rw [show ([0, 1, 1] : List Int).length = 3 from rfl]
  have hl := lit_reads (w1.alloc (Obj.cells #[Value.int IntKind.i64 5, Value.slice A 3 cc] 24)) (w1.heap.size + 1) (by simp) #[.int .i64 0, .int .i64 1, .int .i64 1] 3 [0, 1, 1] rfl rfl (by decide)
  have HL := Aside0.mk hl
  clear hl
  go_wp2_with fail
  refine (PChartPlans.ploverref12_Same.calls 4 5 A cc [0, 1, 1] 5 _ 3 [0, 1, 1] true _ (Kd.C_below HC.out (below_alloc (below_alloc (Below.refl _ _) _) _)) HCC.out HL.out (by decide) same_true).mono ?_
  rintro e w2 ⟨rfl, hb2⟩
  go_wp2
  go_ret
  exact ⟨rfl, below_step (below_alloc (below_alloc HB1.out _) _) hb2⟩

end Go.Proofs.YthnonapfkobdcaaDoor.Ch
