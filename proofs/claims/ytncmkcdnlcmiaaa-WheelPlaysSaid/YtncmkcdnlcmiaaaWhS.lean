/- WheelPlays' walk. -/
import Derived.Test.YtncmkcdnlcmiaaaWhR
namespace Go.Proofs.Ytncmkcdnlcmiaaa.Wh
open Go.RowKit Mb Go.Proofs.Ytncmkcdnlcmiaaa.Op Go.Proofs.YtncmkcdnlcmiaaaW.PrintWords Go.Proofs.YtncmkcdnlcmiaaaW.PrintLast Go.Proofs.YtncmkcdnlcmiaaaW.PrintMore
set_option linter.unusedVariables false
set_option linter.unusedSimpArgs false

structure Aux (W : World) (b : Nat) (o : Obj) (F : Nat → Prop) (g : Nat) (v0 v1 : Value) : Prop where
  is : W.heap[b]? = some o
  nF : ¬ F b
  ng : b ≠ g
  no : ¬ own2 v0 v1 b
section
variable {w W W' : World} {g : Nat} {F F' : Nat → Prop} {p : Nat} {now now' : Int} {D D' : Int → Option Int} {n n' c c' : Nat} {u0 u1 v0 v1 v0' v1' : Value} {L L' : List (Int × Int)} {b : Nat} {o : Obj}
theorem below_dr (W : World) (m : Nat) : Below W.heap.size W (W.drewN m) := pw_below_drewN (Below.refl _ _) m
theorem Aux.new (h : St w W g F p now D n c u0 u1 v0 v1 L) (cs : Array Value) (t : TypeId) : Aux (W.alloc (.cells cs t)) W.heap.size (.cells cs t) F g v0 v1 :=
  ⟨by have := blk_new W (.cells cs t); simpa using this, fun hf => by have := h.wheel.lt _ hf; omega, fun e => by have := blk_lt h.box; omega, fun ho => by have := h.rows.lt _ ho; omega⟩
theorem Aux.lt (h : Aux W b o F g v0 v1) : b < W.heap.size := by have := h.is; exact (Array.getElem?_eq_some_iff.1 this).1
theorem Aux.later (h : Aux W b o F g v0 v1) (hb : Below W.heap.size W W') : Aux W' b o F g v0 v1 := ⟨(hb.block b h.lt).trans h.is, h.nF, h.ng, h.no⟩
theorem Aux.ref (h : Aux W b o F g v0 v1) (hd : RefDone w W W' v0 v1 v0' v1' L') : Aux W' b o F g v0' v1' :=
  ⟨(hd.kept.2 b h.lt h.no).trans h.is, h.nF, h.ng, fun ho => (hd.own b ho).elim h.no (fun e => by have := h.lt; omega)⟩
theorem Aux.turn (h : Aux W b o F g v0 v1) (hF : ∀ k, F' k → F k ∨ W.heap.size ≤ k) (ht : Turns F W W') : Aux W' b o F' g v0 v1 :=
  ⟨(ht.block b h.lt h.nF).trans h.is, fun hf => (hF b hf).elim h.nF (fun e => by have := h.lt; omega), h.ng, h.no⟩
theorem wleft_none (h : Whl W F p now D n c) (id : Int) (hw : (Lit.int .i64 id).wf = true) (hd : D id = none) : Calls Try.prog 18 #[.pointer (some ⟨p, 0, none⟩), .int .i64 id] W fun e w' => e = .returned (.tuple #[.int .i64 0, .int .i64 3]) ∧ W = w' := by
  obtain ⟨A, hA, _⟩ := h.ex; exact left_none W F p now D n A c hA id hw hd
theorem wleft_some (h : Whl W F p now D n c) (id t : Int) (hw : (Lit.int .i64 id).wf = true) (hd : D id = some t) (h0 : 0 ≤ now) (h1 : now ≤ 1152921504606846976) (h2 : 0 ≤ t) (h3 : t ≤ 1152921504606846976) : Calls Try.prog 18 #[.pointer (some ⟨p, 0, none⟩), .int .i64 id] W fun e w' => e = .returned (.tuple #[.int .i64 (t - now), .int .i64 0]) ∧ W = w' := by
  obtain ⟨A, hA, _⟩ := h.ex; exact left_some W F p now D n A c hA id t hw hd h0 h1 h2 h3
theorem wset_bad (h : Whl W F p now D n c) (id ticks : Int) (hb : ticks < 1 ∨ 1048576 < ticks) : Calls Try.prog 10 #[.pointer (some ⟨p, 0, none⟩), .int .i64 id, .int .i64 ticks] W fun e w' => e = .returned (.int .i64 1) ∧ W = w' := by
  obtain ⟨A, hA, _⟩ := h.ex; exact set_bad W F p now D n A c hA id ticks hb
end

set_option maxRecDepth 100000 in
set_option maxHeartbeats 4000000 in
theorem plays_calls (w : World) (A : Option Addr) (c : Nat) (l : List (Int × Int × Int)) (hr : ReadsRow I3 3 w A l.length l) (hc : l.length ≤ c) : Calls Try.prog 7 #[.slice A l.length c] w (Yes w) := by
  have HR := Aside0.mk hr
  clear hr hc
  have hu40 := Try.underlying40
  go_enter Try.func7, Try.ntmps7
  go_wp2_with fail
  refine (wnew _).mono ?_
  rintro e W1 ⟨F, p, rfl, h1, hB, hb1⟩
  have HM : Aside0 (St w (W1.alloc (.cells #[.slice none 0 0, .slice none 0 0] 40)) W1.heap.size F p 0 (fun _ => none) 0 0 (.slice none 0 0) (.slice none 0 0) (.slice none 0 0) (.slice none 0 0) []) :=
    ⟨h1.below (below_alloc (Below.refl _ _) _), ⟨hB, below_then hb1 hb1.size (below_alloc (Below.refl _ _) _)⟩, by have := blk_new W1 (.cells #[.slice none 0 0, .slice none 0 0] 40); simpa using this, hb1.size, fun hf => by have := h1.lt _ hf; omega,
      ⟨own_nil _ _ _ _, own_nil _ _ _ _, fun k hk => by cases hk⟩, fun k hk => by rcases hk with hk | hk <;> cases hk⟩
  clear h1 hB hb1
  go_wp2_with fail
  generalize W1.heap.size = g at *
  generalize W1.alloc (.cells #[.slice none 0 0, .slice none 0 0] 40) = W2 at *
  go_loopw [5] (fun i wr => ∃ (k cc : Nat) (F' : Nat → Prop) (now : Int) (D : Int → Option Int) (A0 A1 : Option Addr) (c0 c1 : Nat) (L : List (Int × Int)), k ≤ l.length ∧ k ≤ 300 ∧ i = .int .i64 k ∧ 0 ≤ now ∧ now ≤ (k : Int) ∧ L.length ≤ k ∧ cc ≤ k ∧ Aside0 (Rel L D now) ∧ Aside0 (St w wr g F' p now D L.length cc (.slice A0 L.length c0) (.slice A1 L.length c1) (.slice A0 L.length c0) (.slice A1 L.length c1) L)) (fun i _ => l.length - (intOf i).toNat)
  case atStart => exact ⟨0, 0, F, 0, _, none, none, 0, 0, [], by omega, by omega, rfl, by omega, by omega, by simp, by omega, ⟨Rel.nil 0⟩, HM⟩
  case round =>
    clear HM
    obtain ⟨k, cc, F', now, D, A0, A1, c0, c1, L, hk, hk3, rfl, hn0, hn1, hL, hcc, HREL, HS⟩ := hrel
    by_cases hlt : k < l.length
    · have hlt' : (k : Int) < (l.length : Int) := by omega
      have hk0 : (0 : Int) ≤ (k : Int) := by omega
      by_cases h300 : k < 300
      · have h300' : (k : Int) < 300 := by omega
        obtain ⟨ad, ea, hx0, hx1, hx2, hwf⟩ := at_rec3 HR.out k hlt
        cases ea
        replace hx0 := (HS.out.mine.below.cell (World.block_lt_of_cell? w _ hx0)).trans hx0
        replace hx1 := (HS.out.mine.below.cell (World.block_lt_of_cell? w _ hx1)).trans hx1
        replace hx2 := (HS.out.mine.below.cell (World.block_lt_of_cell? w _ hx2)).trans hx2
        have HWF := Aside0.mk hwf
        clear hwf
        generalize l[k].1 = kd at *
        generalize l[k].2.1 = id at *
        generalize l[k].2.2 = tk at *
        have hbnew : Below wr.heap.size wr (wr.alloc (.cells #[.int .i64 kd, .int .i64 id, .int .i64 tk] 42)) := below_alloc (Below.refl _ _) _
        have HSA := Aside0.mk (HS.out.later hbnew)
        have HXA := Aside0.mk (Aux.new HS.out #[.int .i64 kd, .int .i64 id, .int .i64 tk] 42)
        clear hbnew
        have b0 : (wr.alloc (.cells #[.int .i64 kd, .int .i64 id, .int .i64 tk] 42)).cell? ⟨g, 0, none⟩ = some (.slice A0 L.length c0) := (blk_cell HSA.out.box 0).trans rfl
        have b1 : (wr.alloc (.cells #[.int .i64 kd, .int .i64 id, .int .i64 tk] 42)).cell? ⟨g, 1, none⟩ = some (.slice A1 L.length c1) := (blk_cell HSA.out.box 1).trans rfl
        have hgl : g < wr.heap.size := blk_lt HS.out.box
        by_cases k1 : kd = 1
        · subst k1
          have m1 : ((1 : Int) == 1) = true := rfl
          by_cases htk : 1 ≤ tk ∧ tk ≤ 1048576
          · obtain ⟨t1, t2⟩ := htk
            obtain ⟨L', hf, hR2, hlen⟩ := set_f_ok HREL.out id tk t1 t2 (by omega)
            have HF := Aside0.mk hf
            have HR5 := Aside0.mk hR2
            have HLEN := Aside0.mk hlen
            have hL' : L'.length ≤ k + 1 := by rw [hlen]; unfold addN; split <;> omega
            clear hf hR2 hlen
            go_wp2_with fail
            refine (rset HSA.out.mine.below HSA.out.rows HF.out).mono ?_
            rintro e W3 ⟨v0, v1, rfl, hd⟩
            have HS3 := Aside0.mk (HSA.out.ref hd)
            have HX3 := Aside0.mk (HXA.out.ref hd)
            clear hd
            obtain ⟨B0, d0, rfl⟩ := own_slice HS3.out.rows.r0
            obtain ⟨B1, d1, rfl⟩ := own_slice HS3.out.rows.r1
            have y1 : W3.cell? ⟨wr.heap.size, 1, none⟩ = some (.int .i64 id) := (blk_cell HX3.out.is 1).trans rfl
            have y2 : W3.cell? ⟨wr.heap.size, 2, none⟩ = some (.int .i64 tk) := (blk_cell HX3.out.is 2).trans rfl
            have HS4 := Aside0.mk (HS3.out.later (below_alloc (Below.refl _ _) (.cells #[.slice B0 L'.length d0, .slice B1 L'.length d1] 40)))
            have HX4 := Aside0.mk (Aux.new HS3.out #[.slice B0 L'.length d0, .slice B1 L'.length d1] 40)
            have hz3 : wr.heap.size < W3.heap.size := HX3.out.lt
            go_wp2_with fail
            refine (wset HS4.out.wheel id tk HWF.out t1 (by omega) (.inr (by omega)) hn0 (by omega) (by omega) (by omega)).mono ?_
            rintro e W4 ⟨rfl, ⟨F4, h4, hF4⟩, ht4⟩
            rw [← HLEN.out] at h4
            have HS5' := Aside0.mk (HS4.out.turn h4 hF4 ht4)
            have HX5 := Aside0.mk (HX4.out.turn hF4 ht4)
            clear h4 hF4 ht4
            have x0 : W4.cell? ⟨W3.heap.size, 0, none⟩ = some (.slice B0 L'.length d0) := (blk_cell HX5.out.is 0).trans rfl
            have x1 : W4.cell? ⟨W3.heap.size, 1, none⟩ = some (.slice B1 L'.length d1) := (blk_cell HX5.out.is 1).trans rfl
            have f0 := blk_frozen HS5'.out.box 0
            have f1 := blk_frozen HS5'.out.box 1
            have q0 : W4.cell? ⟨g, 0, none⟩ = some (.slice A0 L.length c0) := (blk_cell HS5'.out.box 0).trans rfl
            have q1 : W4.cell? ⟨g, 1, none⟩ = some (.slice A1 L.length c1) := (blk_cell HS5'.out.box 1).trans rfl
            have HS5 := Aside0.mk HS5'.out.store
            go_wp2_with fail
            have z0 : ((W4.setCell ⟨g, 0, none⟩ (.slice B0 L'.length d0)).setCell ⟨g, 1, none⟩ (.slice B1 L'.length d1)).cell? ⟨g, 0, none⟩ = some (.slice B0 L'.length d0) := (blk_cell HS5.out.box 0).trans rfl
            generalize hW5 : (W4.setCell ⟨g, 0, none⟩ (.slice B0 L'.length d0)).setCell ⟨g, 1, none⟩ (.slice B1 L'.length d1) = W5 at *
            have HL5 := Aside0.mk (fun m => (wlen (HS5.out.wheel.drewN m) ((L'.length : Nat) : Int) rfl).mono fun _ _ h => (⟨h.1, h.2.symm⟩ : _ ∧ _ = W5.drewN m))
            clear hW5
            go_quiet ((go_at_call 12; exact Calls.quiet_of_same (HL5.out _)))
            go_wp2_with fail
            go_roundw
            case rel => exact ⟨k + 1, cc + 1, F4, now, _, B0, B1, d0, d1, L', by omega, by omega, by go_num, by omega, by omega, by omega, by omega, HR5, ⟨HS5.out.later (below_dr _ _)⟩⟩
            case measure => simp [intOf]; omega
          · have htk2 : tk < 1 ∨ 1048576 < tk := by omega
            clear htk
            have HTK := Aside0.mk htk2
            clear htk2
            have hf := set_f_bad L id tk 0 HTK.out
            have HF := Aside0.mk hf
            clear hf
            go_wp2_with fail
            refine (rset HSA.out.mine.below HSA.out.rows HF.out).mono ?_
            rintro e W3 ⟨v0, v1, rfl, hd⟩
            have HS3 := Aside0.mk (HSA.out.ref hd)
            have HX3 := Aside0.mk (HXA.out.ref hd)
            clear hd
            obtain ⟨B0, d0, rfl⟩ := own_slice HS3.out.rows.r0
            obtain ⟨B1, d1, rfl⟩ := own_slice HS3.out.rows.r1
            have y1 : W3.cell? ⟨wr.heap.size, 1, none⟩ = some (.int .i64 id) := (blk_cell HX3.out.is 1).trans rfl
            have y2 : W3.cell? ⟨wr.heap.size, 2, none⟩ = some (.int .i64 tk) := (blk_cell HX3.out.is 2).trans rfl
            have HS4 := Aside0.mk (HS3.out.later (below_alloc (Below.refl _ _) (.cells #[.slice B0 L.length d0, .slice B1 L.length d1] 40)))
            have HX4 := Aside0.mk (Aux.new HS3.out #[.slice B0 L.length d0, .slice B1 L.length d1] 40)
            have hz3 : wr.heap.size < W3.heap.size := HX3.out.lt
            go_wp2_with fail
            refine (wset_bad HS4.out.wheel id tk HTK.out).mono ?_
            rintro e W4 ⟨rfl, rfl⟩
            have x0 : (W3.alloc (.cells #[.slice B0 L.length d0, .slice B1 L.length d1] 40)).cell? ⟨W3.heap.size, 0, none⟩ = some (.slice B0 L.length d0) := (blk_cell HX4.out.is 0).trans rfl
            have x1 : (W3.alloc (.cells #[.slice B0 L.length d0, .slice B1 L.length d1] 40)).cell? ⟨W3.heap.size, 1, none⟩ = some (.slice B1 L.length d1) := (blk_cell HX4.out.is 1).trans rfl
            generalize hW4 : W3.alloc (.cells #[.slice B0 L.length d0, .slice B1 L.length d1] 40) = W4 at *
            clear hW4
            have f0 := blk_frozen HS4.out.box 0
            have f1 := blk_frozen HS4.out.box 1
            have q0 : W4.cell? ⟨g, 0, none⟩ = some (.slice A0 L.length c0) := (blk_cell HS4.out.box 0).trans rfl
            have q1 : W4.cell? ⟨g, 1, none⟩ = some (.slice A1 L.length c1) := (blk_cell HS4.out.box 1).trans rfl
            have HS5 := Aside0.mk HS4.out.store
            have HR5 := HREL
            go_wp2_with fail
            have z0 : ((W4.setCell ⟨g, 0, none⟩ (.slice B0 L.length d0)).setCell ⟨g, 1, none⟩ (.slice B1 L.length d1)).cell? ⟨g, 0, none⟩ = some (.slice B0 L.length d0) := (blk_cell HS5.out.box 0).trans rfl
            generalize hW5 : (W4.setCell ⟨g, 0, none⟩ (.slice B0 L.length d0)).setCell ⟨g, 1, none⟩ (.slice B1 L.length d1) = W5 at *
            have HL5 := Aside0.mk (fun m => (wlen (HS5.out.wheel.drewN m) ((L.length : Nat) : Int) rfl).mono fun _ _ h => (⟨h.1, h.2.symm⟩ : _ ∧ _ = W5.drewN m))
            clear hW5
            go_quiet ((go_at_call 12; exact Calls.quiet_of_same (HL5.out _)))
            go_wp2_with fail
            go_roundw
            case rel => exact ⟨k + 1, cc, F', now, D, B0, B1, d0, d1, L, by omega, by omega, by go_num, by omega, by omega, by omega, by omega, HR5, ⟨HS5.out.later (below_dr _ _)⟩⟩
            case measure => simp [intOf]; omega
        · have m1 : (kd == 1) = false := by rw [beq_eq_false_iff_ne]; exact k1
          by_cases k2 : kd = 2
          · subst k2
            obtain ⟨L', hf, hR2, hlen⟩ := cancel_f HREL.out id (by omega)
            have HF := Aside0.mk hf
            have HR5 := Aside0.mk hR2
            have HLEN := Aside0.mk hlen
            have hL' : L'.length ≤ k := by rw [hlen]; unfold delN; split <;> omega
            clear hf hR2 hlen
            go_wp2_with fail
            refine (rcancel HSA.out.mine.below HSA.out.rows HF.out).mono ?_
            rintro e W3 ⟨v0, v1, rfl, hd⟩
            have HS3 := Aside0.mk (HSA.out.ref hd)
            have HX3 := Aside0.mk (HXA.out.ref hd)
            clear hd
            obtain ⟨B0, d0, rfl⟩ := own_slice HS3.out.rows.r0
            obtain ⟨B1, d1, rfl⟩ := own_slice HS3.out.rows.r1
            have y1 : W3.cell? ⟨wr.heap.size, 1, none⟩ = some (.int .i64 id) := (blk_cell HX3.out.is 1).trans rfl
            have HS4 := Aside0.mk (HS3.out.later (below_alloc (Below.refl _ _) (.cells #[.slice B0 L'.length d0, .slice B1 L'.length d1] 40)))
            have HX4 := Aside0.mk (Aux.new HS3.out #[.slice B0 L'.length d0, .slice B1 L'.length d1] 40)
            have hz3 : wr.heap.size < W3.heap.size := HX3.out.lt
            go_wp2_with fail
            refine (wcancel HS4.out.wheel id HWF.out).mono ?_
            rintro e W4 ⟨rfl, h4, ht4⟩
            rw [← HLEN.out] at h4
            have HS5' := Aside0.mk (HS4.out.turn h4 (fun _ hk => .inl hk) ht4)
            have HX5 := Aside0.mk (HX4.out.turn (fun _ hk => .inl hk) ht4)
            clear h4 ht4
            have x0 : W4.cell? ⟨W3.heap.size, 0, none⟩ = some (.slice B0 L'.length d0) := (blk_cell HX5.out.is 0).trans rfl
            have x1 : W4.cell? ⟨W3.heap.size, 1, none⟩ = some (.slice B1 L'.length d1) := (blk_cell HX5.out.is 1).trans rfl
            have f0 := blk_frozen HS5'.out.box 0
            have f1 := blk_frozen HS5'.out.box 1
            have q0 : W4.cell? ⟨g, 0, none⟩ = some (.slice A0 L.length c0) := (blk_cell HS5'.out.box 0).trans rfl
            have q1 : W4.cell? ⟨g, 1, none⟩ = some (.slice A1 L.length c1) := (blk_cell HS5'.out.box 1).trans rfl
            have HS5 := Aside0.mk HS5'.out.store
            have hbb : ((D id).isSome != (D id).isSome) = false := by simp
            go_wp2_with fail
            have z0 : ((W4.setCell ⟨g, 0, none⟩ (.slice B0 L'.length d0)).setCell ⟨g, 1, none⟩ (.slice B1 L'.length d1)).cell? ⟨g, 0, none⟩ = some (.slice B0 L'.length d0) := (blk_cell HS5.out.box 0).trans rfl
            generalize hW5 : (W4.setCell ⟨g, 0, none⟩ (.slice B0 L'.length d0)).setCell ⟨g, 1, none⟩ (.slice B1 L'.length d1) = W5 at *
            have HL5 := Aside0.mk (fun m => (wlen (HS5.out.wheel.drewN m) ((L'.length : Nat) : Int) rfl).mono fun _ _ h => (⟨h.1, h.2.symm⟩ : _ ∧ _ = W5.drewN m))
            clear hW5
            go_quiet ((go_at_call 12; exact Calls.quiet_of_same (HL5.out _)))
            go_wp2_with fail
            go_roundw
            case rel => exact ⟨k + 1, cc, F', now, _, B0, B1, d0, d1, L', by omega, by omega, by go_num, by omega, by omega, by omega, by omega, HR5, ⟨HS5.out.later (below_dr _ _)⟩⟩
            case measure => simp [intOf]; omega
          · have m2 : (kd == 2) = false := by rw [beq_eq_false_iff_ne]; exact k2
            by_cases k3 : kd = 3
            · subst k3
              have hf := left_f HREL.out id (by omega)
              cases hD : D id with
              | none =>
                rw [hD] at hf
                have HF := Aside0.mk (show PWheelPlays.ploverref14_Left.f (L.length + 1) (ids L) (lefts L) id = some (0, 3) from hf)
                have HD := Aside0.mk hD
                clear hf hD
                go_wp2_with fail
                refine (wleft_none HSA.out.wheel id HWF.out HD.out).mono ?_
                rintro e w3 ⟨rfl, rfl⟩
                go_wp2_with fail
                refine (rleft HSA.out.rows HF.out).mono ?_
                rintro e W4 ⟨rfl, hb4⟩
                have HS5 := Aside0.mk (HSA.out.later hb4)
                have HR5 := HREL
                clear hb4
                go_wp2_with fail
                have z0 : (W4).cell? ⟨g, 0, none⟩ = some (.slice A0 L.length c0) := (blk_cell HS5.out.box 0).trans rfl
                generalize hW5 : W4 = W5 at *
                have HL5 := Aside0.mk (fun m => (wlen (HS5.out.wheel.drewN m) ((L.length : Nat) : Int) rfl).mono fun _ _ h => (⟨h.1, h.2.symm⟩ : _ ∧ _ = W5.drewN m))
                clear hW5
                go_quiet ((go_at_call 12; exact Calls.quiet_of_same (HL5.out _)))
                go_wp2_with fail
                go_roundw
                case rel => exact ⟨k + 1, cc, F', now, D, A0, A1, c0, c1, L, by omega, by omega, by go_num, by omega, by omega, by omega, by omega, HR5, ⟨HS5.out.later (below_dr _ _)⟩⟩
                case measure => simp [intOf]; omega
              | some t =>
                rw [hD] at hf
                have ht : 0 ≤ t ∧ t ≤ 1048576 + 300 := by
                  have hm := (HREL.out.mem id (t - now)).2 (by rw [hD]; congr 1; omega)
                  have ho := HREL.out.ok _ hm
                  simp at ho
                  omega
                obtain ⟨ht0, ht1⟩ := ht
                have HF := Aside0.mk (show PWheelPlays.ploverref14_Left.f (L.length + 1) (ids L) (lefts L) id = some (t - now, 0) from hf)
                have HD := Aside0.mk hD
                clear hf hD
                go_wp2_with fail
                refine (wleft_some HSA.out.wheel id t HWF.out HD.out hn0 (by omega) ht0 (by omega)).mono ?_
                rintro e w3 ⟨rfl, rfl⟩
                go_wp2_with fail
                refine (rleft HSA.out.rows HF.out).mono ?_
                rintro e W4 ⟨rfl, hb4⟩
                have HS5 := Aside0.mk (HSA.out.later hb4)
                have HR5 := HREL
                clear hb4
                go_wp2_with fail
                have z0 : (W4).cell? ⟨g, 0, none⟩ = some (.slice A0 L.length c0) := (blk_cell HS5.out.box 0).trans rfl
                generalize hW5 : W4 = W5 at *
                have HL5 := Aside0.mk (fun m => (wlen (HS5.out.wheel.drewN m) ((L.length : Nat) : Int) rfl).mono fun _ _ h => (⟨h.1, h.2.symm⟩ : _ ∧ _ = W5.drewN m))
                clear hW5
                go_quiet ((go_at_call 12; exact Calls.quiet_of_same (HL5.out _)))
                go_wp2_with fail
                go_roundw
                case rel => exact ⟨k + 1, cc, F', now, D, A0, A1, c0, c1, L, by omega, by omega, by go_num, by omega, by omega, by omega, by omega, HR5, ⟨HS5.out.later (below_dr _ _)⟩⟩
                case measure => simp [intOf]; omega
            · have m3 : (kd == 3) = false := by rw [beq_eq_false_iff_ne]; exact k3
              obtain ⟨hf, hR2, hout, hlen⟩ := tick_f HREL.out (by omega)
              have HF := Aside0.mk hf
              have HR5 := Aside0.mk hR2
              have HLEN := Aside0.mk hlen
              have HO := Aside0.mk hout
              have hL' : (stay L).length ≤ k := by have := (stay_len L).1; omega
              have hoL : (outL L).length ≤ 300 := by have := (stay_len L).2; omega
              clear hf hR2 hlen hout
              generalize stay L = L' at *
              generalize outL L = ol at *
              go_wp2_with fail
              refine (rtick HSA.out.mine.below HSA.out.rows HF.out).mono ?_
              rintro e W3 ⟨v0, v1, A2, c2, rfl, hd, ho2⟩
              have HS3 := Aside0.mk (HSA.out.ref hd)
              have hb3 : (wr.alloc (.cells #[.int .i64 kd, .int .i64 id, .int .i64 tk] 42)).heap.size ≤ W3.heap.size := hd.kept.1
              clear hd
              have hoF : ∀ k, F' k → k < (wr.alloc (.cells #[.int .i64 kd, .int .i64 id, .int .i64 tk] 42)).heap.size := fun k hk => HSA.out.wheel.lt k hk
              obtain ⟨B0, d0, rfl⟩ := own_slice HS3.out.rows.r0
              obtain ⟨B1, d1, rfl⟩ := own_slice HS3.out.rows.r1
              have HS4 := Aside0.mk (HS3.out.later (below_alloc (Below.refl _ _) (.cells #[.slice B0 L'.length d0, .slice B1 L'.length d1] 40)))
              have HX4 := Aside0.mk (Aux.new HS3.out #[.slice B0 L'.length d0, .slice B1 L'.length d1] 40)
              have HO4 := Aside0.mk (own_alloc ho2 (.cells #[.slice B0 L'.length d0, .slice B1 L'.length d1] 40))
              have HOF := Aside0.mk hoF
              clear ho2 hoF hb3
              go_wp2_with fail
              refine (wtick_is HS4.out.wheel hn0 (by omega) (by omega) ol HO.out).mono ?_
              rintro e W4 ⟨⟨A4, c4, rfl, ho4⟩, h4, ht4⟩
              rw [← HLEN.out] at h4
              have HS5' := Aside0.mk (HS4.out.turn h4 (fun _ hk => .inl hk) ht4)
              have HX5 := Aside0.mk (HX4.out.turn (fun _ hk => .inl hk) ht4)
              have HO5 := Aside0.mk (row_keeps HO4.out ht4 (fun k hk => HOF.out k hk))
              have HO6 := Aside0.mk ho4
              clear h4 ht4 ho4
              go_wp2_with fail
              refine (PWheelPlays.ploverref01_SameInts.calls _ A4 c4 ol A2 c2 ol true _ (Kd.C_of_reads (own_reads' HO6.out)) (own_le HO6.out) (Kd.C_of_reads (own_reads' HO5.out)) (own_le HO5.out) (same_f ol (by omega))).mono ?_
              rintro e W5 ⟨rfl, ⟨⟨m5, rfl⟩⟩⟩
              have HS5'' := Aside0.mk (HS5'.out.later (below_dr W4 m5))
              have HX6 := Aside0.mk (HX5.out.later (below_dr W4 m5))
              have x0 : (W4.drewN m5).cell? ⟨W3.heap.size, 0, none⟩ = some (.slice B0 L'.length d0) := (blk_cell HX6.out.is 0).trans rfl
              have x1 : (W4.drewN m5).cell? ⟨W3.heap.size, 1, none⟩ = some (.slice B1 L'.length d1) := (blk_cell HX6.out.is 1).trans rfl
              have f0 := blk_frozen HS5''.out.box 0
              have f1 := blk_frozen HS5''.out.box 1
              have q0 : (W4.drewN m5).cell? ⟨g, 0, none⟩ = some (.slice A0 L.length c0) := (blk_cell HS5''.out.box 0).trans rfl
              have q1 : (W4.drewN m5).cell? ⟨g, 1, none⟩ = some (.slice A1 L.length c1) := (blk_cell HS5''.out.box 1).trans rfl
              have HS5 := Aside0.mk HS5''.out.store
              clear HO5 HO6 HX5 HS5' HO4
              generalize W4.drewN m5 = W6 at *
              go_wp2_with fail
              have z0 : ((W6.setCell ⟨g, 0, none⟩ (.slice B0 L'.length d0)).setCell ⟨g, 1, none⟩ (.slice B1 L'.length d1)).cell? ⟨g, 0, none⟩ = some (.slice B0 L'.length d0) := (blk_cell HS5.out.box 0).trans rfl
              generalize hW5 : (W6.setCell ⟨g, 0, none⟩ (.slice B0 L'.length d0)).setCell ⟨g, 1, none⟩ (.slice B1 L'.length d1) = W5 at *
              have HL5 := Aside0.mk (fun m => (wlen (HS5.out.wheel.drewN m) ((L'.length : Nat) : Int) rfl).mono fun _ _ h => (⟨h.1, h.2.symm⟩ : _ ∧ _ = W5.drewN m))
              clear hW5
              go_quiet ((go_at_call 12; exact Calls.quiet_of_same (HL5.out _)))
              go_wp2_with fail
              go_roundw
              case rel => exact ⟨k + 1, cc, F', now + 1, _, B0, B1, d0, d1, L', by omega, by omega, by go_num, by omega, by omega, by omega, by omega, HR5, ⟨HS5.out.later (below_dr _ _)⟩⟩
              case measure => simp [intOf]; omega
      · have h300' : ¬ (k : Int) < 300 := by omega
        go_wp2_with (go_at_call 13; refine (awake_calls _).mono ?_; rintro e w7 ⟨rfl, hb7⟩)
        go_ret
        exact ⟨rfl, below_then HS.out.mine.below HS.out.mine.below.size hb7⟩
    · have hlt' : ¬ (k : Int) < (l.length : Int) := by omega
      go_wp2_with (go_at_call 13; refine (awake_calls _).mono ?_; rintro e w7 ⟨rfl, hb7⟩)
      go_ret
      exact ⟨rfl, below_then HS.out.mine.below HS.out.mine.below.size hb7⟩

end Go.Proofs.Ytncmkcdnlcmiaaa.Wh
