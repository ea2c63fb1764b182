/- A tree: how many points, one point, one dropped; what may not be put in. -/
import Derived.Test.YtealiaafdkhonaaPu
namespace Go.Proofs.Ytealiaafdkhonaa.Vp
open Go.RowKit Go.Sort Mb Base Go.Proofs.YtealiaafdkhonaaW.PrintWords Go.Proofs.YtealiaafdkhonaaW.PrintLast Go.Proofs.YtealiaafdkhonaaW.PrintMore
set_option linter.unusedVariables false
set_option linter.unusedSimpArgs false

theorem TreeAt.dimc {W : World} {g ma mi : Nat} {s : TS} (h : TreeAt W g ma mi s) : W.cell? ⟨g, 0, none⟩ = some (.int .i64 s.dim) := by
  obtain ⟨⟨_, _, _, q1, _⟩, _⟩ := h
  exact (blk_cell q1 0).trans rfl
theorem TreeAt.allc {W : World} {g ma mi : Nat} {s : TS} (h : TreeAt W g ma mi s) : W.cell? ⟨g, 2, none⟩ = some (.map (some ma)) := by
  obtain ⟨⟨_, _, _, q1, _⟩, _⟩ := h
  exact (blk_cell q1 2).trans rfl
theorem TreeAt.insc {W : World} {g ma mi : Nat} {s : TS} (h : TreeAt W g ma mi s) : W.cell? ⟨g, 3, none⟩ = some (.map (some mi)) := by
  obtain ⟨⟨_, _, _, q1, _⟩, _⟩ := h
  exact (blk_cell q1 3).trans rfl
theorem TreeAt.len {W : World} {g ma mi : Nat} {s : TS} (h : TreeAt W g ma mi s) (ty : TypeId) : (Builtin.len_ #[66] ty #[.map (some ma)]).run Try.prog W = .ok (.int .i64 s.L.length) W := by
  obtain ⟨⟨_, _, _, _, q2, _⟩, _⟩ := h
  exact q2.len Try.underlying66 ty
theorem TreeAt.drewN {W : World} {g ma mi : Nat} {s : TS} (h : TreeAt W g ma mi s) (m : Nat) : TreeAt (W.drewN m) g ma mi s := h.below (pw_below_drewN (Below.refl _ _) m)

theorem len_calls (W : World) (g ma mi : Nat) (s : TS) (h : TreeAt W g ma mi s) (hd : 0 < s.dim) : Calls Try.prog 20 #[.pointer (some ⟨g, 0, none⟩)] W fun e w' => e = .returned (.int .i64 s.L.length) ∧ W = w' := by
  have c0 := h.dimc
  have c2 := h.allc
  have hl := h.len
  clear h
  go_enter Try.func20, Try.ntmps20
  go_wp2_with (go_at_call 28; refine (given_calls g s.dim hd _ c0).mono ?_; rintro e w' ⟨rfl, rfl⟩)
  go_ret
  exact ⟨rfl, rfl⟩
theorem len_no (p : Value) (W : World) (h : Unmade W p) : Calls Try.prog 20 #[p] W fun e w' => e = .returned (.int .i64 0) ∧ W = w' := by
  go_enter Try.func20, Try.ntmps20
  go_wp2_with (go_at_call 28; refine (given_no p _ h).mono ?_; rintro e w' ⟨rfl, rfl⟩)
  go_ret
  exact ⟨rfl, rfl⟩

theorem tidies_few (B : TS → VT → Prop) (W : World) (g ma mi : Nat) (s : TS) (h : TreeAt W g ma mi s) (hn : s.L.length ≤ 16) : Calls Try.prog 31 #[.pointer (some ⟨g, 0, none⟩)] W (TidyDone B W g ma mi s) := by
  have HT := Aside0.mk h
  have c2 := h.allc
  have c3 := h.insc
  have hl := fun m => (h.drewN m).len
  obtain ⟨⟨_, _, ni, _, _, q3, q4, _⟩, _⟩ := h
  have hl3 := fun (m : Nat) ty => (q3.drewN m).len Try.underlying67 ty
  obtain ⟨n, hnn⟩ : ∃ n, s.L.length = n := ⟨_, rfl⟩
  rw [hnn] at hl hn
  have h1 : ¬ (16 : Int) + (ni : Int) < (n : Int) - (ni : Int) := by omega
  clear q3 hnn
  go_enter Try.func31, Try.ntmps31
  go_upto_region 0 with (fail)
  go_quiet (fail)
  go_wp2_with fail
  refine bodyPost_end (results_none rfl _ _ _) rfl ?_
  exact ⟨rfl, ⟨mi, s, HT.out.drewN _, .same, .inl rfl⟩, (Turns.rfl_ W).drewN _⟩

theorem unmade_alloc {W : World} {p : Value} (h : Unmade W p) (o : Obj) : Unmade (W.alloc o) p := by
  rcases h with h | ⟨g, rfl, hc⟩
  · exact .inl h
  · exact .inr ⟨g, rfl, pw_cell_below (below_alloc (Below.refl _ _) o) hc⟩
theorem put_no (p : Value) (W : World) (h : Unmade W p) (id : Int) (u : Value) : Calls Try.prog 15 #[p, .agg #[.int .i64 id, u]] W fun e w' => e = .returned (.tuple #[.bool false, .int .i64 1]) ∧ Below W.heap.size W w' := by
  have h1 := unmade_alloc h (.cells #[.int .i64 id, u] 37)
  go_enter Try.func15, Try.ntmps15
  go_wp2_with (go_at_call 28; refine (given_no p _ h1).mono ?_; rintro e w' ⟨rfl, rfl⟩)
  go_ret2
  exact ⟨rfl, below_alloc (Below.refl _ _) _⟩
set_option maxHeartbeats 400000 in
theorem put_bad (W : World) (g ma mi : Nat) (s : TS) (h : TreeAt W g ma mi s) (hd : 0 < s.dim) (id : Int) (A : Option Addr) (c : Nat) (v : List Int) (hC : Kd.C (Kd.int .i64) W A v.length v) (hck : ckV v s.dim = 50) :
    Calls Try.prog 15 #[.pointer (some ⟨g, 0, none⟩), .agg #[.int .i64 id, .slice A v.length c]] W fun e w' => e = .returned (.tuple #[.bool false, .int .i64 50]) ∧ Below W.heap.size W w' := by
  have hb1 := below_alloc (Below.refl W.heap.size W) (.cells #[.int .i64 id, .slice A v.length c] 37)
  have c0 := (h.below hb1).dimc
  have HCQ := Aside0.mk (fun m : Nat => (check_calls A c v s.dim ((W.alloc (.cells #[.int .i64 id, .slice A v.length c] 37)).drewN m) (Kd.C_below (Kd.C_below hC hb1) (pw_below_drewN (Below.refl _ _) m))).mono fun _ _ h => (⟨h.1, h.2.symm⟩ : _ ∧ _ = (W.alloc (.cells #[.int .i64 id, .slice A v.length c] 37)).drewN m))
  rw [hck] at HCQ
  clear h hC hck
  have HB1 := Aside0.mk hb1
  clear hb1
  go_enter Try.func15, Try.ntmps15
  go_upto_region 3 with (go_at_call 28; refine (given_calls g s.dim hd _ c0).mono ?_; rintro e w' ⟨rfl, rfl⟩)
  go_quiet ((go_at_call 29; exact Calls.quiet_of_same (HCQ.out _)))
  go_wp2_with fail
  go_ret2
  exact ⟨rfl, pw_below_drewN HB1.out _⟩
theorem get_no (p : Value) (W : World) (h : Unmade W p) (k : Int) : Calls Try.prog 25 #[p, .int .i64 k] W fun e w' => e = .returned (.tuple #[.slice none 0 0, .int .i64 1]) ∧ W = w' := by
  go_enter Try.func25, Try.ntmps25
  go_wp2_with (go_at_call 28; refine (given_no p _ h).mono ?_; rintro e w' ⟨rfl, rfl⟩)
  go_ret2
  exact ⟨rfl, rfl⟩
theorem drop_no (p : Value) (W : World) (h : Unmade W p) (k : Int) : Calls Try.prog 23 #[p, .int .i64 k] W fun e w' => e = .returned (.bool false) ∧ W = w' := by
  go_enter Try.func23, Try.ntmps23
  go_wp2_with (go_at_call 28; refine (given_no p _ h).mono ?_; rintro e w' ⟨rfl, rfl⟩)
  go_ret
  exact ⟨rfl, rfl⟩
theorem top_no (p : Value) (W : World) (h : Unmade W p) (u k l : Value) : Calls Try.prog 17 #[p, u, k, l] W fun e w' => e = .returned (.tuple #[.slice none 0 0, .int .i64 1]) ∧ W = w' := by
  go_enter Try.func17, Try.ntmps17
  go_wp2_with (go_at_call 28; refine (given_no p _ h).mono ?_; rintro e w' ⟨rfl, rfl⟩)
  go_ret2
  exact ⟨rfl, rfl⟩
theorem build_no (p : Value) (W : World) (h : Unmade W p) : Calls Try.prog 18 #[p] W fun e w' => e = .returned (.int .i64 1) ∧ W = w' := by
  go_enter Try.func18, Try.ntmps18
  go_wp2_with (go_at_call 28; refine (given_no p _ h).mono ?_; rintro e w' ⟨rfl, rfl⟩)
  go_ret
  exact ⟨rfl, rfl⟩
theorem points_no (p : Value) (W : World) (h : Unmade W p) : Calls Try.prog 22 #[p] W fun e w' => e = .returned (.slice none 0 0) ∧ W = w' := by
  go_enter Try.func22, Try.ntmps22
  go_wp2_with (go_at_call 28; refine (given_no p _ h).mono ?_; rintro e w' ⟨rfl, rfl⟩)
  go_ret
  exact ⟨rfl, rfl⟩
end Go.Proofs.Ytealiaafdkhonaa.Vp
