/- of: a value of any as a value. -/
import Derived.Test.YtjhalgoondljgaaDoorVt
namespace Go.Proofs.YtjhalgoondljgaaDoor.Re
open Go.RowKit Go.Proofs.YtjhalgoondljgaaDoorW.PrintWords Go.Proofs.YtjhalgoondljgaaDoorW.PrintLast Go.Proofs.YtjhalgoondljgaaDoorW.PrintMore Base
set_option linter.unusedVariables false
set_option linter.unusedSimpArgs false

theorem zero3 (W : World) : (do pure (Value.tuple #[← zeroValue 3, .bool false]) : Sem Value).run Tryd.prog W = .ok (.tuple #[.int .i64 0, .bool false]) W := by kernel_rfl
theorem zero9 (W : World) : (do pure (Value.tuple #[← zeroValue 9, .bool false]) : Sem Value).run Tryd.prog W = .ok (.tuple #[.string ⟨#[]⟩, .bool false]) W := by kernel_rfl
theorem assert3_yes (v : Value) (W : World) : (Instr.typeAssert (.iface 3 v) 20 3 true).run Tryd.prog W = .ok (.tuple #[v, .bool true]) W := by kernel_rfl
theorem assert9_yes (v : Value) (W : World) : (Instr.typeAssert (.iface 9 v) 20 9 true).run Tryd.prog W = .ok (.tuple #[v, .bool true]) W := by kernel_rfl
theorem assert75 (v : Value) (W : World) : (Instr.typeAssert (.iface 75 v) 20 75 false).run Tryd.prog W = .ok v W := by kernel_rfl
theorem assert3_no (u : TypeId) (v : Value) (h : u ≠ 3) (W : World) : (Instr.typeAssert (.iface u v) 20 3 true).run Tryd.prog W = .ok (.tuple #[.int .i64 0, .bool false]) W := by
  have e : (Instr.typeAssert (.iface u v) 20 3 true).run Tryd.prog W = (if u = 3 then (pure (Value.tuple #[v, .bool true]) : Sem Value) else (do pure (Value.tuple #[← zeroValue 3, .bool false]))).run Tryd.prog W := by kernel_rfl
  rw [e, if_neg h]
  exact zero3 W
theorem assert9_no (u : TypeId) (v : Value) (h : u ≠ 9) (W : World) : (Instr.typeAssert (.iface u v) 20 9 true).run Tryd.prog W = .ok (.tuple #[.string ⟨#[]⟩, .bool false]) W := by
  have e : (Instr.typeAssert (.iface u v) 20 9 true).run Tryd.prog W = (if u = 9 then (pure (Value.tuple #[v, .bool true]) : Sem Value) else (do pure (Value.tuple #[← zeroValue 9, .bool false]))).run Tryd.prog W := by kernel_rfl
  rw [e, if_neg h]
  exact zero9 W

theorem info36 : (Tryd.prog.info? 36).map (fun i => (i.zero, i.size, i.bytes)) = some (some (.agg #[.int .i64 0, .int .i64 0, .string ⟨#[]⟩, .slice none 0 0]), 4, 56) := by kernel_rfl

def OfDone (W : World) (v : V) (e : Ending) (w' : World) : Prop := ∃ k n s l, e = .returned (.agg #[k, n, s, l]) ∧ VAt (fun g => W.heap.size ≤ g) w' v k n s l ∧ Below W.heap.size W w'
def Out (B : Nat) (l : List V) (i : Nat) (out : Value) (wr : World) : Prop := ∃ q, wr.ownsRow B 36 4 out i (quad q i) ∧ ∀ j (hj : j < l.length), j < i → VAt (fun g => B ≤ g ∧ out.ownBlock ≠ some g) wr l[j] (q j 0) (q j 1) (q j 2) (q j 3)

set_option maxRecDepth 100000 in
set_option maxHeartbeats 1000000 in
theorem of_calls {G : Nat → Prop} {w : World} {v : V} {x : Value} (h : AAt G w v x) : ∀ W, Below w.heap.size w W → Calls Tryd.prog 35 #[x] W (OfDone W v) := by
  induction h with
  | num n =>
    intro W hb
    have a3 := assert3_yes (.int .i64 n)
    go_enter Tryd.func35, Tryd.ntmps35
    go_wp2_with (go_at_call 11; refine (int_calls n _).mono ?_; rintro e w' ⟨rfl, rfl⟩)
    go_returns
    exact ⟨_, _, _, _, rfl, .num n, by go_grown⟩
  | str s =>
    intro W hb
    have a3 := assert3_no 9 (.string s) (by decide)
    have a9 := assert9_yes (.string s)
    go_enter Tryd.func35, Tryd.ntmps35
    go_wp2_with (go_at_call 42; refine (str_calls s _).mono ?_; rintro e w' ⟨rfl, rfl⟩)
    go_returns
    exact ⟨_, _, _, _, rfl, .str s, by go_grown⟩
  | list l g c f hg hglt hl hs hc h ih =>
    intro W hb
    obtain ⟨N, hN⟩ : ∃ N, l.length = N := ⟨_, rfl⟩
    have a3 := assert3_no 75 (.slice (some ⟨g, 0, none⟩) N c) (by decide)
    have a9 := assert9_no 75 (.slice (some ⟨g, 0, none⟩) N c) (by decide)
    have a75 := assert75 (.slice (some ⟨g, 0, none⟩) N c)
    rw [hN] at hc hl ⊢
    have HB := Aside0.mk hb
    have HC := Aside0.mk hc
    have HIH := Aside0.mk ih
    have HN := Aside0.mk hN
    clear hb hc ih hN h
    go_enter Tryd.func35, Tryd.ntmps35
    go_wp2_with fail
    obtain ⟨Z, hZ⟩ : ∃ Z : Obj, Z = .cells #[.int .i64 0, .int .i64 0, .string ⟨#[]⟩, .slice none 0 0] 36 := ⟨_, rfl⟩
    go_loopw [22, 5] (fun i out wr => ∃ k : Nat, i = .int .i64 k ∧ k ≤ N ∧ Aside0 (Out (W.heap.size + 1) l k out wr) ∧ Aside0 (Below (W.heap.size + 1) (W.alloc Z) wr)) (fun i _ _ => N - (intOf i).toNat)
    case atStart => exact ⟨0, rfl, by omega, ⟨fun _ _ => .nilIface, own_nil _ _ _ _, fun j _ hj => by omega⟩, ⟨by rw [hZ]; exact Below.refl _ _⟩⟩
    case round =>
      obtain ⟨k, rfl, hk, HO, HBW⟩ := hrel
      have HWW : Aside0 (Below w.heap.size w wr) := ⟨by
        have h1 : Below W.heap.size W wr := (below_alloc (Below.refl _ _) Z).trans (HBW.out.mono (by omega))
        exact HB.out.trans (h1.mono HB.out.size)⟩
      have HZ := Aside0.mk hZ
      clear hZ
      by_cases hlt : k < N
      · have hlt' : (k : Int) < (N : Int) := by omega
        have hk0 : (0 : Int) ≤ (k : Int) := by omega
        have c0 : wr.cell? ⟨g, k, none⟩ = some (f k) := pw_cell_below HWW.out (HC.out k hlt)
        have hin : k < l.length := by rw [HN.out]; exact hlt
        have HCC := Aside0.mk (HIH.out k hin)
        obtain ⟨q, hown, hq⟩ := HO.out
        obtain ⟨A, c, rfl⟩ := own_slice hown
        have HOW := Aside0.mk hown
        have HQ := Aside0.mk hq
        obtain ⟨i0, hi, hz0, hz1, hz2⟩ := info_parts info36
        have HI := Aside0.mk hi
        have HZ0 := Aside0.mk hz0
        have HZ1 := Aside0.mk hz1
        have HZ2 := Aside0.mk hz2
        clear hown hq HIH hi hz0 hz1 hz2
        go_wp2_with fail
        refine (HCC.out wr HWW.out).mono ?_
        rintro e w3 ⟨k0, n0, s0, l0, rfl, hv, hb3⟩
        have HV := Aside0.mk hv
        have HB3 := Aside0.mk hb3
        have HOW4 : Aside0 ((w3.alloc (.cells #[k0, n0, s0, l0] 36)).ownsRow (W.heap.size + 1) 36 4 (.slice A k c) k (quad q k)) := ⟨pw_own_below HOW.out (below_alloc HB3.out _)⟩
        have HNW : Aside0 (∀ (j : Nat) (u : Value), [k0, n0, s0, l0][j]? = some u → (w3.alloc (.cells #[k0, n0, s0, l0] 36)).cell? ((⟨w3.heap.size, 0, none⟩ : Addr).add j) = some u) := ⟨fun j u hu => by
          rw [add_plain]
          refine (blk_cell (blk_new w3 _) j).trans ?_
          simpa using hu⟩
        have HSZ : Aside0 (W.heap.size + 1 ≤ (w3.alloc (.cells #[k0, n0, s0, l0] 36)).heap.size) := ⟨by
          have h1 := HBW.out.size
          have h2 := (below_alloc HB3.out (.cells #[k0, n0, s0, l0] 36)).size
          have h3 := size_alloc W Z
          omega⟩
        clear hv hb3
        go_wp2_with (at_builtin; refine wpList_append_loc rfl _ _ 34 rfl (W.heap.size + 1) 36 i0 _ 4 56 Tryd.underlying34 HI.out HZ0.out HZ1.out HZ2.out rfl (by decide) (.slice A k c) k (quad q k) rfl HOW4.out ⟨w3.heap.size, 0, none⟩ 1 1 [k0, n0, s0, l0] rfl rfl HNW.out (HV.out.one) (k + 1) rfl (by unfold maxLen; omega) (by omega) HSZ.out ?_; intro A' c' w5 hown5 hgrow5 hloc5; have HL5 := Aside0.mk hloc5; have HO5 := Aside0.mk hown5; have HG5 := Aside0.mk hgrow5; clear hown5 hgrow5 hloc5)
        go_roundw
        case rel =>
          have hB3 := HB3.out
          have hsz3 : wr.heap.size ≤ w3.heap.size := hB3.size
          have hown := HOW.out
          refine ⟨k + 1, rfl, hlt, ⟨fun j t => if j < k then q j t else match t with | 0 => k0 | 1 => n0 | 2 => s0 | _ => l0, ?_, fun j hj hjk => ?_⟩, ⟨?_⟩⟩
          · have e : quad (fun j t => if j < k then q j t else match t with | 0 => k0 | 1 => n0 | 2 => s0 | _ => l0) (k + 1) = quad q k ++ [k0, n0, s0, l0] := by
              rw [quad, quad_congr (r := q) (fun j hj t => if_pos hj)]
              simp
            rw [e]
            exact HO5.out
          · have hT1 : Turns (fun _ => False) wr (w3.alloc (.cells #[k0, n0, s0, l0] 36)) := Turns.of_below (below_alloc hB3 _)
            have hT2 := Turns.of_grown HG5.out
            have hnew : (Value.slice A k c).ownBlock = (Value.slice A' (k + 1) c').ownBlock ∨ (Value.slice A' (k + 1) c').ownBlock = some (w3.alloc (.cells #[k0, n0, s0, l0] 36)).heap.size := HL5.out.imp Eq.symm id
            by_cases hjk2 : j < k
            · simp only [if_pos hjk2]
              have h1 := ((HQ.out j hj hjk2).turns hT1 (fun _ _ _ h => h)).mono (H := fun g => W.heap.size + 1 ≤ g ∧ (Value.slice A k c).ownBlock ≠ some g ∧ (Value.slice A' (k + 1) c').ownBlock ≠ some g) (fun i hi hlt => by
                refine ⟨hi.1, hi.2, fun e => ?_⟩
                rcases hnew with h | h
                · exact hi.2 (h.trans e)
                · rw [h] at e
                  injection e with e
                  omega)
              exact (h1.turns hT2 (fun i hi _ h => hi.2.1 h)).mono (fun i hi _ => ⟨hi.1, hi.2.2⟩)
            · have ej : j = k := by omega
              subst ej
              simp only [if_neg hjk2]
              have hT0 : Turns (fun _ => False) w3 (w3.alloc (.cells #[k0, n0, s0, l0] 36)) := Turns.of_below (below_alloc (Below.refl _ _) _)
              have h1 := (HV.out.turns hT0 (fun _ _ _ h => h)).mono (H := fun g => W.heap.size + 1 ≤ g ∧ (Value.slice A j c).ownBlock ≠ some g ∧ (Value.slice A' (j + 1) c').ownBlock ≠ some g) (fun i hi hlt => by
                have hwB := HBW.out.size
                have hwZ := size_alloc W Z
                have ho : (Value.slice A j c).ownBlock ≠ some i := fun e => by
                  have := own_lt hown i e
                  omega
                refine ⟨by omega, ho, fun e => ?_⟩
                rcases hnew with h | h
                · exact ho (h.trans e)
                · rw [h] at e
                  injection e with e
                  omega)
              exact (h1.turns hT2 (fun i hi _ h => hi.2.1 h)).mono (fun i hi _ => ⟨hi.1, hi.2.2⟩)
          · have h1 : Below (W.heap.size + 1) (W.alloc Z) (w3.alloc (.cells #[k0, n0, s0, l0] 36)) := HBW.out.trans ((below_alloc hB3 _).mono (by have := HBW.out.size; have := size_alloc W Z; omega))
            exact pw_below_grown h1 _ HSZ.out HG5.out (fun i hi => own_base hown i hi)
        case measure => simp [intOf]; omega
      · have ek : k = N := by omega
        have HEK := Aside0.mk ek
        have hlt' : ¬ ((k : Int) < (N : Int)) := by omega
        clear ek hlt
        obtain ⟨q, hown, hq⟩ := HO.out
        obtain ⟨A, c, rfl⟩ := own_slice hown
        have HOW := Aside0.mk hown
        have HQ := Aside0.mk hq
        have hb0 : wr.heap[W.heap.size]? = some Z := (HBW.out.block _ (by omega)).trans (blk_new W Z)
        rw [HZ.out] at hb0
        have HBB := Aside0.mk hb0
        clear hown hq hb0
        go_wp2_with (go_at_call 13; refine (list_calls _ _ _ _).mono ?_; rintro e w4 ⟨rfl, hw4⟩; have hb4 : w4.heap[W.heap.size]? = some (.cells #[.int .i64 0, .int .i64 0, .string ⟨#[]⟩, .slice none 0 0] 36) := (by rw [hw4]; exact blk_alloc HBB.out _); have r0 : w4.cell? ⟨W.heap.size, 0, none⟩ = some (.int .i64 0) := (blk_cell hb4 0).trans rfl; have z0 := blk_frozen hb4 0; have r1 : w4.cell? ⟨W.heap.size, 1, none⟩ = some (.int .i64 0) := (blk_cell hb4 1).trans rfl; have z1 := blk_frozen hb4 1; have r2 : w4.cell? ⟨W.heap.size, 2, none⟩ = some (.string ⟨#[]⟩) := (blk_cell hb4 2).trans rfl; have z2 := blk_frozen hb4 2; have r3 : w4.cell? ⟨W.heap.size, 3, none⟩ = some (.slice none 0 0) := (blk_cell hb4 3).trans rfl; have z3 := blk_frozen hb4 3; have HB4 := Aside0.mk hb4; have HW4 := Aside0.mk hw4; clear hb4 hw4)
        have hbF := blk_put (blk_put (blk_put (blk_put HB4.out 0 (.int .i64 3) rfl) 1 (.int .i64 0) rfl) 2 (.string ⟨#[]⟩) rfl) 3 (.slice A k c) rfl
        have x0 := (blk_cell hbF 0).trans (rfl : _ = some (Value.int .i64 3))
        have x1 := (blk_cell hbF 1).trans (rfl : _ = some (Value.int .i64 0))
        have x2 := (blk_cell hbF 2).trans (rfl : _ = some (Value.string ⟨#[]⟩))
        have x3 := (blk_cell hbF 3).trans (rfl : _ = some (Value.slice A k c))
        clear r0 r1 r2 r3 z0 z1 z2 z3 hbF
        have hWZ := size_alloc W Z
        have hWS := HBW.out.size
        have hF : Turns (fun i => i = W.heap.size) wr w4 := by rw [HW4.out]; exact (Turns.refl _ _).alloc _
        have hkl := HEK.out.trans HN.out.symm
        subst hkl
        generalize hwF : (((w4.setCell ⟨W.heap.size, 0, none⟩ (.int .i64 3)).setCell ⟨W.heap.size, 1, none⟩ (.int .i64 0)).setCell ⟨W.heap.size, 2, none⟩ (.string ⟨#[]⟩)).setCell ⟨W.heap.size, 3, none⟩ (.slice A l.length c) = wF at *
        refine bodyPost_ret (v := .agg #[.int .i64 3, .int .i64 0, .string ⟨#[]⟩, .slice A l.length c]) (by simp [results, Tryd.results35, go_sem, x0, x1, x2, x3]) rfl ⟨_, _, _, _, rfl, ?_, ?_⟩
        all_goals subst hwF
        · have hb2 : Turns (fun i => i = W.heap.size) wr _ := ((((hF.set_ (p := ⟨W.heap.size, 0, none⟩) rfl (.int .i64 3)).set_ (p := ⟨W.heap.size, 1, none⟩) rfl (.int .i64 0)).set_ (p := ⟨W.heap.size, 2, none⟩) rfl (.string ⟨#[]⟩)).set_ (p := ⟨W.heap.size, 3, none⟩) rfl (.slice A l.length c))
          refine .list l A c q hs (own_quad_cap HOW.out) ?_ (fun i hi => (((HQ.out i hi hi).turns hb2 (fun i hi _ e => by have := hi.1; omega)).mono (fun i hi _ => by have := hi.1; omega)))
          rcases HOW.out.2 with ⟨e1, e2⟩ | ⟨g', cap, cur, e1, hB, hg, hcap, h63, hsz, htk⟩
          · injection e1 with _ e1 _
            exact .inl (List.length_eq_zero_iff.1 e1)
          · injection e1 with e1 _ e3
            subst e1
            refine .inr ⟨g', rfl, by omega, fun i j hi hj => ?_⟩
            have hcell := own_quad_cell HOW.out (i * 4 + j) (q i j) (quad_at q l.length i j hi hj)
            exact (World.cell?_of_block (hb2.block g' (World.block_lt_of_cell? _ _ hcell) (by omega))).trans hcell
        · have h1 : Below W.heap.size W wr := (below_alloc (Below.refl _ _) Z).trans (HBW.out.mono (by omega))
          have h2 : Below W.heap.size W w4 := by rw [HW4.out]; exact h1.alloc (by omega) _
          exact (((h2.setCell (p := ⟨W.heap.size, 0, none⟩) (Nat.le_refl _) _).setCell (p := ⟨W.heap.size, 1, none⟩) (Nat.le_refl _) _).setCell (p := ⟨W.heap.size, 2, none⟩) (Nat.le_refl _) _).setCell (p := ⟨W.heap.size, 3, none⟩) (Nat.le_refl _) _
end Go.Proofs.YtjhalgoondljgaaDoor.Re
