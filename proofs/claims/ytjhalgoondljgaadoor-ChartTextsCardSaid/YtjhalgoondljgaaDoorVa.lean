/- A reader's value: whatever comes. -/
import Derived.Test.YtjhalgoondljgaaDoorVo
import Derived.Test.YtjhalgoondljgaaDoorNv
import Derived.Test.YtjhalgoondljgaaDoorNw
namespace Go.Proofs.YtjhalgoondljgaaDoor.Re
open Go.RowKit Go.Proofs.YtjhalgoondljgaaDoorW.PrintWords Go.Proofs.YtjhalgoondljgaaDoorW.PrintLast Go.Proofs.YtjhalgoondljgaaDoorW.PrintMore Base
set_option linter.unusedVariables false
set_option linter.unusedSimpArgs false

/-- A value of any's form. -/
def IsIf (x : Value) : Prop := x = .nilIface ∨ ∃ t v, x = .iface t v
theorem IsIf.one {x : Value} (h : IsIf x) : x.oneCell' = true := by rcases h with rfl | ⟨t, v, rfl⟩ <;> rfl
def ValDone (w : World) (p : Nat) (s : ByteArray) (a : Nat) (e : Ending) (w' : World) : Prop :=
  ∃ (x : Value) (b er : Int), e = .returned x ∧ IsIf x ∧ RdAt w' p s b er ∧ Turns (At p) w w' ∧ (er = 0 → (∃ v, AAt (fun g => w.heap.size ≤ g) w' v x) ∧ ∃ c : Nat, b = c ∧ a < c ∧ c ≤ s.size)

def meas2 (p n : Nat) (w : World) : Nat := if intOf ((w.cell? ⟨p, 2, none⟩).getD .nilIface) = 0 then n - (intOf ((w.cell? ⟨p, 1, none⟩).getD .nilIface)).toNat + 1 else 0
theorem RdAt.meas2 {w : World} {p : Nat} {s : ByteArray} {a e : Int} (h : RdAt w p s a e) (n : Nat) : meas2 p n w = if e = 0 then n - a.toNat + 1 else 0 := by
  unfold Re.meas2
  rw [h.c1, h.c2]
  rfl

theorem fail_off (w : World) (p : Nat) (s : ByteArray) (b x y : Int) (hx : ¬ x = 0) (h : RdAt w p s b x) : Calls Tryd.prog 41 #[.pointer (some ⟨p, 0, none⟩), .int .i64 y] w fun e w' => e = .returned (.tuple #[]) ∧ w' = w := by
  have c2 := h.c2
  clear h
  go_enter Tryd.func41, Tryd.ntmps41
  go_wp2
  refine bodyPost_end (results_none rfl _ _ _) rfl ?_
  exact ⟨rfl, rfl⟩
/-- A refused reader at the end gives nothing. -/
theorem next_off (w : World) (p : Nat) (s : ByteArray) (x : Int) (hx : ¬ x = 0) (h : RdAt w p s s.size x) : Calls Tryd.prog 39 #[.pointer (some ⟨p, 0, none⟩)] w fun e w' => e = .returned (.int .u8 0) ∧ Drawn0 w w' := by
  have c0 := h.c0
  have c1 := h.c1
  have HR := Aside0.mk h
  clear h
  go_enter Tryd.func39, Tryd.ntmps39
  go_upto_region 1 with (fail)
  go_quiet (fail)
  go_wp2_with (go_at_call 41; refine (fail_off _ p s _ x _ hx (HR.out.drewN _)).mono ?_; rintro e w' ⟨rfl, rfl⟩)
  go_ret
  exact ⟨rfl, (Drawn0.refl w).step _⟩
theorem value_off (k : Int) (w : World) (p : Nat) (s : ByteArray) (x : Int) (hx : ¬ x = 0) (h : RdAt w p s s.size x) : Calls Tryd.prog 34 #[.pointer (some ⟨p, 0, none⟩), .int .i64 k] w fun e w' => e = .returned .nilIface ∧ Drawn0 w w' := by
  have HR := Aside0.mk h
  clear h
  go_enter Tryd.func34, Tryd.ntmps34
  go_wp2_with fail
  refine (next_off _ p s x hx HR.out).mono ?_
  rintro e w1 ⟨rfl, hw⟩
  have c2 := (Drawn0.rd hw HR.out).c2
  have HW := Aside0.mk hw
  clear hw
  go_wp2_with fail
  go_ret
  exact ⟨rfl, HW.out⟩

/-- What lies in the list so far. -/
def El (B : Nat) (wr : World) (g n : Nat) (fs : List Value) (vs : List V) : Prop :=
  vs.length = n ∧ fs.length = n ∧ ∀ i (h : i < vs.length), AAt (fun j => B ≤ j ∧ j ≠ g) wr vs[i] (fs.getD i .nilIface)
def LRel (B : Nat) (w : World) (p : Nat) (s : ByteArray) (a : Nat) (l : Value) (wr : World) : Prop :=
  ∃ (g n c : Nat) (fs : List Value) (x b : Int), l = .slice (some ⟨g, 0, none⟩) n c ∧ n ≤ 2048 ∧ wr.ownsRow B 20 1 (.slice (some ⟨g, 0, none⟩) n c) n fs ∧ RdAt wr p s b x ∧ Turns (At p) w wr ∧ B ≤ wr.heap.size ∧
    (x = 0 → ∃ (c' : Nat) (vs : List V), b = c' ∧ a + 1 + n ≤ c' ∧ c' ≤ s.size ∧ El B wr g n fs vs)
theorem own_cell1 {W : World} {b n g c : Nat} {xs : List Value} (h : W.ownsRow b 20 1 (.slice (some ⟨g, 0, none⟩) n c) n xs) : ∀ (j : Nat) (u : Value), xs[j]? = some u → W.cell? ⟨g, j, none⟩ = some u := by
  intro j u hj
  rcases h.2 with ⟨e1, _⟩ | ⟨g', cap, cur, e1, hB, hg, hcap, h63, hsz, htk⟩
  · cases e1
  · injection e1 with e1 _ e3
    injection e1 with e1
    injection e1 with e1 _
    subst e1
    have hl := h.1
    have hjl : j < xs.length := (List.getElem?_eq_some_iff.1 hj).1
    have h2 : cur.toList.take (n * 1) = xs := by simpa using htk
    rw [← h2, List.getElem?_take, if_pos (by omega), Array.getElem?_toList] at hj
    exact (blk_cell hg j).trans hj
theorem own_cap1 {W : World} {b n g c : Nat} {xs : List Value} (h : W.ownsRow b 20 1 (.slice (some ⟨g, 0, none⟩) n c) n xs) : n ≤ c := by
  rcases h.2 with ⟨e1, _⟩ | ⟨g', cap, cur, e1, hB, hg, hcap, h63, hsz, htk⟩
  · cases e1
  · injection e1 with _ _ e3
    omega
theorem El.aat {B : Nat} {wr : World} {g n cp : Nat} {fs : List Value} {vs : List V} (h : El B wr g n fs vs) (hown : wr.ownsRow B 20 1 (.slice (some ⟨g, 0, none⟩) n cp) n fs) (hn : n ≤ 2048) :
    AAt (fun j => B ≤ j) wr (.list vs) (.iface 75 (.slice (some ⟨g, 0, none⟩) n cp)) := by
  obtain ⟨h1, h2, h3⟩ := h
  have hc := own_cap1 hown
  have hlt := own_lt hown g rfl
  have hb := own_base hown g rfl
  subst h1
  refine .list vs g cp (fun i => fs.getD i .nilIface) hb hlt hc (by omega) (fun i hi => ?_) (fun i hi => (h3 i hi).mono (fun j hj _ => hj.1))
  refine own_cell1 hown i _ ?_
  rw [List.getD_eq_getElem?_getD, List.getElem?_eq_getElem (by omega)]
  rfl
theorem lrel_add {B : Nat} {w : World} {p : Nat} {s : ByteArray} {a : Nat} {wr w3 w5 : World} {g n cp c5 : Nat} {A' : Option Addr} {fs : List Value} {xv : Value} {er b3 : Int} (hown : wr.ownsRow B 20 1 (.slice (some ⟨g, 0, none⟩) n cp) n fs) (hn : n ≤ 2047) (hp : p < B) (hBw : B ≤ wr.heap.size) (hwB : w.heap.size ≤ B)
    (ht : Turns (At p) w wr) (h23 : Turns (At p) wr w3) (hr3 : RdAt w3 p s b3 er) (hO5 : w5.ownsRow B 20 1 (.slice A' (n + 1) c5) (n + 1) (fs ++ [xv])) (hG5 : (w3.alloc (.cells #[xv] 20)).grownBy w5 (some g))
    (hL5 : (Value.slice A' (n + 1) c5).ownBlock = some g ∨ (Value.slice A' (n + 1) c5).ownBlock = some (w3.alloc (.cells #[xv] 20)).heap.size)
    (hel : er = 0 → ∃ (c' : Nat) (vs : List V) (v : V), b3 = c' ∧ a + 1 + (n + 1) ≤ c' ∧ c' ≤ s.size ∧ El B wr g n fs vs ∧ AAt (fun j => wr.heap.size ≤ j) w3 v xv) : LRel B w p s a (.slice A' (n + 1) c5) w5 := by
  obtain ⟨g5, rfl⟩ : ∃ g5, A' = some ⟨g5, 0, none⟩ := by
    rcases hO5.2 with ⟨e1, _⟩ | ⟨g', cap, cur, e1, _⟩
    · injection e1 with _ e2 _
      omega
    · injection e1 with e1 _ _
      exact ⟨g', e1⟩
  have hgB := own_base hown g rfl
  have hglt := own_lt hown g rfl
  have hA := size_alloc w3 (.cells #[xv] 20)
  have hs23 := h23.size
  have hT0 : Turns (At p) w3 (w3.alloc (.cells #[xv] 20)) := (Turns.refl _ _).alloc _
  have hT5 := Turns.of_grown hG5
  have hs5 := hT5.size
  have hpn : ∀ i, B ≤ i → ¬ At p i := fun i hi h => by have : i = p := h; omega
  have h15 := (ht.trans h23).trans hT0
  have ht35 : Turns (At p) w w5 := ⟨hT5.os.trans h15.os, hT5.tape.trans h15.tape, hT5.output.trans h15.output, Nat.le_trans h15.size hs5, fun i hi hn => 
    (hT5.block i (by have := h15.size; omega) (fun e => by injection e with e; omega)).trans (h15.block i hi hn)⟩
  refine ⟨g5, n + 1, c5, fs ++ [xv], er, b3, rfl, by omega, hO5, ?_, ht35, by omega, fun h => ?_⟩
  · refine hr3.move ?_
    rw [hT5.block p (by have := hr3.lt; omega) (fun e => by injection e with e; omega)]
    exact Below.heap_alloc w3 _ p hr3.lt
  · obtain ⟨c', vs, v, e1, e2, e3, ⟨l1, l2, l3⟩, hv⟩ := hel h
    have hg5 : g5 = g ∨ g5 = w3.heap.size + 1 := by
      rcases hL5 with h | h
      · injection h with h; exact .inl h
      · rw [hA] at h; injection h with h; exact .inr h
    refine ⟨c', vs ++ [v], e1, e2, e3, by simp [l1], by simp [l2], fun i hi => ?_⟩
    by_cases hin : i < vs.length
    · have h1 := (((l3 i hin).turns h23 (fun j hj _ => hpn j hj.1)).turns hT0 (fun j hj _ => hpn j hj.1)).mono (H := fun j => (B ≤ j ∧ j ≠ g) ∧ j ≠ g5) (fun j hj hlt => ⟨hj, by rcases hg5 with h | h <;> omega⟩)
      have h2 := (h1.turns hT5 (fun j hj _ e => by injection e with e; exact hj.1.2 e.symm)).mono (H := fun j => B ≤ j ∧ j ≠ g5) (fun j hj _ => ⟨hj.1.1, hj.2⟩)
      rw [List.getElem_append_left hin]
      have e : (fs ++ [xv]).getD i .nilIface = fs.getD i .nilIface := by
        rw [List.getD_eq_getElem?_getD, List.getD_eq_getElem?_getD, List.getElem?_append_left (by omega)]
      rw [e]
      exact h2
    · have ei : i = vs.length := by simp at hi; omega
      subst ei
      have h1 := (hv.turns hT0 (fun j hj _ => hpn j (by omega))).mono (H := fun j => (B ≤ j ∧ j ≠ g) ∧ j ≠ g5) (fun j hj hlt => ⟨⟨by omega, by omega⟩, by rcases hg5 with h | h <;> omega⟩)
      have h2 := (h1.turns hT5 (fun j hj _ e => by injection e with e; exact hj.1.2 e.symm)).mono (H := fun j => B ≤ j ∧ j ≠ g5) (fun j hj _ => ⟨hj.1.1, hj.2⟩)
      have e : (fs ++ [xv]).getD vs.length .nilIface = xv := by
        rw [List.getD_eq_getElem?_getD, List.getElem?_append_right (by omega)]
        have : vs.length - fs.length = 0 := by omega
        rw [this]
        rfl
      rw [e]
      simpa using h2
theorem rd_add {p : Nat} {s : ByteArray} {w3 w5 : World} {g : Nat} {xv : Value} {er b3 : Int} (hpg : ¬ p = g) (hr3 : RdAt w3 p s b3 er) (hG5 : (w3.alloc (.cells #[xv] 20)).grownBy w5 (some g)) : RdAt w5 p s b3 er := by
  refine hr3.move ?_
  rw [(Turns.of_grown hG5).block p (by have := hr3.lt; have := size_alloc w3 (.cells #[xv] 20); omega) (fun e => by injection e with e; exact hpg e.symm)]
  exact Below.heap_alloc w3 _ p hr3.lt
theorem info20 : (Tryd.prog.info? 20).map (fun i => (i.zero, i.size, i.bytes)) = some (some .nilIface, 1, 16) := by kernel_rfl

def VC (k : Nat) : Prop := ∀ (w : World) (p : Nat) (s : ByteArray) (a : Nat), a ≤ s.size → RdAt w p s a 0 → s.size ≤ 2048 → Calls Tryd.prog 34 #[.pointer (some ⟨p, 0, none⟩), .int .i64 k] w (ValDone w p s a)

set_option maxRecDepth 100000 in
set_option maxHeartbeats 4000000 in
theorem value_step (k : Nat) (hk : k ≤ 8) (hrec : k < 8 → VC (k + 1)) : VC k := by
  intro w p s a ha h hsz
  have HIH := Aside0.mk hrec
  have HR := Aside0.mk h
  clear hrec h
  by_cases hlt : a < s.size
  · go_enter Tryd.func34, Tryd.ntmps34
    go_wp2_with fail
    refine (next_calls _ p s a hlt HR.out).mono ?_
    rintro e w1 ⟨rfl, hw⟩
    have HRn : Aside0 (RdAt w1 p s (a : Nat) 0) := ⟨Drawn0.rd hw HR.out⟩
    have HTn : Aside0 (Turns (At p) w w1) := ⟨Drawn0.turns hw _⟩
    have c0 := HRn.out.c0
    have c1 := HRn.out.c1
    have c2 := HRn.out.c2
    have f1 := HRn.out.f1
    clear hw
    obtain ⟨c, hc⟩ : ∃ c : Nat, s[a].toNat = c := ⟨_, rfl⟩
    rw [hc]
    have hc256 : c < 256 := by rw [← hc]; exact s[a].toNat_lt
    clear hc
    by_cases h105 : c = 105
    · subst h105
      go_upto_region 11 with (fail)
      have HRm : Aside0 (RdAt (w1.setCell ⟨p, 1, none⟩ (.int .i64 ((a : Int) + 1))) p s (a + 1 : Nat) 0) := ⟨by have := HRn.out.set1 ((a : Int) + 1); simpa using this⟩
      have HTm : Aside0 (Turns (At p) w (w1.setCell ⟨p, 1, none⟩ (.int .i64 ((a : Int) + 1)))) := ⟨HTn.out.set_ (p := ⟨p, 1, none⟩) rfl _⟩
      clear c0 c1 c2 f1
      generalize w1.setCell ⟨p, 1, none⟩ (.int .i64 ((a : Int) + 1)) = w2 at *
      obtain ⟨b1, hb1⟩ : ∃ b1 : Nat, a + 1 = b1 := ⟨_, rfl⟩
      rw [hb1] at HRm
      have c0 := HRm.out.c0
      have c1 := HRm.out.c1
      have c2 := HRm.out.c2
      have f1 := HRm.out.f1
      by_cases hl1 : b1 < s.size
      · have hg : decide ((b1 : Int) < (s.size : Int)) = true := decide_eq_true (by omega)
        by_cases h45 : (s[b1].toNat : Int) = 45
        · go_quiet (fail)
          go_wp2_with fail
          refine (number_m _ p s (b1 + 1) (by omega) (by have := (HRm.out.drewN nq).set1 ((b1 : Int) + 1); simpa using this) hsz).mono ?_
          rintro e w3 ⟨m, b, x, rfl, hm, hr3, ht3, hx⟩
          have HR3 := Aside0.mk hr3
          have HT3 := Aside0.mk ht3
          have HX := Aside0.mk hx
          clear hr3 ht3 hx
          go_wp2_with fail
          go_ret
          exact ⟨_, _, _, rfl, (by first | exact .inl rfl | exact .inr ⟨_, _, rfl⟩), HR3.out, ((HTm.out.drewN _).set_ (p := ⟨p, 1, none⟩) rfl _).trans HT3.out, fun h => by obtain ⟨c, e1, e2, e3⟩ := HX.out h; exact ⟨⟨_, .num m⟩, c, e1, by omega, e3⟩⟩
        · go_quiet (fail)
          go_wp2_with fail
          refine (number_e _ p s b1 (by omega) (HRm.out.drewN _) hsz).mono ?_
          rintro e w3 ⟨m, b, x, rfl, hm, hr3, ht3, hx⟩
          have HR3 := Aside0.mk hr3
          have HT3 := Aside0.mk ht3
          have HX := Aside0.mk hx
          clear hr3 ht3 hx
          go_wp2_with fail
          go_ret
          exact ⟨_, _, _, rfl, (by first | exact .inl rfl | exact .inr ⟨_, _, rfl⟩), HR3.out, (HTm.out.drewN _).trans HT3.out, fun h => by obtain ⟨c, e1, e2, e3⟩ := HX.out h; exact ⟨⟨_, .num m⟩, c, e1, by omega, e3⟩⟩
      · have hg : decide ((b1 : Int) < (s.size : Int)) = false := decide_eq_false (by omega)
        go_quiet (fail)
        go_wp2_with fail
        refine (number_e _ p s b1 (by omega) (HRm.out.drewN _) hsz).mono ?_
        rintro e w3 ⟨m, b, x, rfl, hm, hr3, ht3, hx⟩
        have HR3 := Aside0.mk hr3
        have HT3 := Aside0.mk ht3
        have HX := Aside0.mk hx
        clear hr3 ht3 hx
        go_wp2_with fail
        go_ret
        exact ⟨_, _, _, rfl, (by first | exact .inl rfl | exact .inr ⟨_, _, rfl⟩), HR3.out, (HTm.out.drewN _).trans HT3.out, fun h => by obtain ⟨c, e1, e2, e3⟩ := HX.out h; exact ⟨⟨_, .num m⟩, c, e1, by omega, e3⟩⟩
    · have hn105 : ¬ (c : Int) = 105 := by omega
      by_cases hd : 48 ≤ c ∧ c ≤ 57
      · have hd1 : (48 : Int) ≤ c := by omega
        have hd2 : (c : Int) ≤ 57 := by omega
        go_wp2_with fail
        refine (number_c _ p s a ha HRn.out hsz).mono ?_
        rintro e w3 ⟨m, b, x, rfl, hm, hr3, ht3, hx⟩
        have HX := Aside0.mk hx
        have HR3 := Aside0.mk hr3
        have HT3 : Aside0 (Turns (At p) w w3) := ⟨HTn.out.trans ht3⟩
        clear hx hr3 ht3 c0 c1 c2 f1
        have c0 := HR3.out.c0
        have c1 := HR3.out.c1
        have c2 := HR3.out.c2
        have f1 := HR3.out.f1
        by_cases hx0 : x = 0
        · subst hx0
          obtain ⟨c', rfl, hc1, hc2⟩ := HX.out rfl
          have hw1 : IntKind.i64.wrap ((s.size : Int) - (c' : Int)) = (s.size : Int) - (c' : Int) := IntWalk.i64_in _ (by omega)
          go_upto_region 17 with (fail)
          by_cases hbig : (s.size : Int) - (c' : Int) < m
          · go_quiet (fail)
            go_wp2_with (go_at_call 41; refine (fail_calls _ p s _ _ (HR3.out.drewN nq)).mono ?_; rintro e w4 ⟨rfl, rfl⟩)
            go_ret
            exact ⟨_, _, _, rfl, (by first | exact .inl rfl | exact .inr ⟨_, _, rfl⟩), (HR3.out.drewN nq).set2 _, (HT3.out.drewN nq).set_ (p := ⟨p, 2, none⟩) rfl _, fun h => absurd h (by decide)⟩
          · go_quiet (fail)
            go_upto_region 21 with (fail)
            obtain ⟨mn, rfl⟩ : ∃ mn : Nat, m = mn := ⟨m.toNat, by omega⟩
            obtain ⟨b2, hb2⟩ : ∃ b2 : Nat, c' + mn = b2 := ⟨_, rfl⟩
            have HR4 : Aside0 (RdAt ((w3.drewN nq).setCell ⟨p, 1, none⟩ (.int .i64 ((c' : Int) + (mn : Int)))) p s (b2 : Nat) 0) := ⟨by have := (HR3.out.drewN nq).set1 ((c' : Int) + (mn : Int)); rw [← hb2]; simpa using this⟩
            have HT4 : Aside0 (Turns (At p) w ((w3.drewN nq).setCell ⟨p, 1, none⟩ (.int .i64 ((c' : Int) + (mn : Int))))) := ⟨(HT3.out.drewN nq).set_ (p := ⟨p, 1, none⟩) rfl _⟩
            clear c0 c1 c2 f1
            generalize (w3.drewN nq).setCell ⟨p, 1, none⟩ (.int .i64 ((c' : Int) + (mn : Int))) = w4 at *
            have c0 := HR4.out.c0
            have c1 := HR4.out.c1
            have hw2 : IntKind.i64.wrap ((b2 : Int) - (mn : Int)) = (c' : Int) := by rw [IntWalk.i64_in _ (by omega)]; omega
            have hs1 : (c' : Int) ≤ (b2 : Int) := by omega
            have hs2 : (b2 : Int) ≤ (s.size : Int) := by omega
            have HW := Aside0.mk hw1
            clear hw1
            go_quiet (fail)
            go_wp2_with fail
            go_ret
            exact ⟨_, _, 0, rfl, (by first | exact .inl rfl | exact .inr ⟨_, _, rfl⟩), HR4.out.drewN _, HT4.out.drewN _, fun _ => ⟨⟨_, .str _⟩, b2, rfl, by omega, by omega⟩⟩
        · have hx1 : ¬ x = (0 : Int) := hx0
          go_upto_region 17 with (fail)
          go_quiet (fail)
          go_wp2_with fail
          go_ret
          exact ⟨_, _, x, rfl, (by first | exact .inl rfl | exact .inr ⟨_, _, rfl⟩), HR3.out.drewN _, HT3.out.drewN _, fun h => absurd h hx1⟩
      · have hor : c < 48 ∨ 57 < c := by omega
        by_cases h108 : c = 108
        · subst h108
          by_cases hk8 : k = 8
          · subst hk8
            go_wp2_with (go_at_call 41; refine (fail_calls _ p s _ _ (HRn.out)).mono ?_; rintro e w4 ⟨rfl, rfl⟩)
            go_ret
            exact ⟨_, _, _, rfl, (by first | exact .inl rfl | exact .inr ⟨_, _, rfl⟩), (HRn.out).set2 _, (HTn.out).set_ (p := ⟨p, 2, none⟩) rfl _, fun h => absurd h (by decide)⟩
          · have hk8' : ¬ (8 : Int) ≤ (k : Int) := by omega
            go_wp2_with fail
            have hp1 := HRn.out.lt
            obtain ⟨B, hB⟩ : ∃ B, w1.heap.size = B := ⟨_, rfl⟩
            have hpB : p < B := by omega
            have hwB : w.heap.size ≤ B := by have := HTn.out.size; omega
            have HBE := Aside0.mk hB
            clear hB
            go_loopw [7] (fun l wr => ∃ l2, l = l2 ∧ Aside0 (LRel B w p s a l2 wr)) (fun _ wr => meas2 p s.size wr)
            case atStart =>
              refine ⟨_, rfl, ⟨⟨w1.heap.size, 0, 0, [], 0, ((a + 1 : Nat) : Int), rfl, by omega, ?_, ?_, ?_, ?_, fun _ => ⟨a + 1, [], rfl, by omega, by omega, rfl, rfl, fun i hi => by simp at hi⟩⟩⟩⟩
              · refine ⟨rfl, .inr ⟨w1.heap.size, 0, #[], rfl, by have := HBE.out; omega, ?_, Nat.le_refl _, by unfold maxLen; omega, rfl, rfl⟩⟩
                have := blk_new (w1.setCell ⟨p, 1, none⟩ (.int .i64 ((a : Int) + 1))) (.cells #[] 20)
                simpa [World.setCell] using this
              · refine RdAt.move (w := w1.setCell ⟨p, 1, none⟩ (.int .i64 ((a : Int) + 1))) ?_ (Below.heap_alloc _ _ p (by simpa [World.setCell] using hp1))
                have := HRn.out.set1 ((a : Int) + 1)
                simpa using this
              · exact (HTn.out.set_ (p := ⟨p, 1, none⟩) rfl _).alloc _
              · rw [size_alloc, ← HBE.out]
                simp [World.setCell]
            case round =>
              obtain ⟨l2, rfl, ⟨g, n, cp, fs, x, b, rfl, hn, hown, hrd, htu, hBw, hx⟩⟩ := hrel
              have HOW := Aside0.mk hown
              have HRD := Aside0.mk hrd
              have HTU := Aside0.mk htu
              have HX := Aside0.mk hx
              have c1 := hrd.c1
              have c2 := hrd.c2
              have f1 := hrd.f1
              have hm2 := hrd.meas2 s.size
              have HM2 := Aside0.mk hm2
              clear hown hrd htu hx hm2
              by_cases hx0 : x = 0
              · subst hx0
                obtain ⟨c', vs, rfl, hc1, hc2, hel⟩ := HX.out rfl
                have HEL := Aside0.mk hel
                clear hel HX
                by_cases hlt2 : c' < s.size
                · go_wp2_with fail
                  refine (next_calls _ p s c' hlt2 HRD.out).mono ?_
                  rintro e w2 ⟨rfl, hw2⟩
                  have HR2 : Aside0 (RdAt w2 p s (c' : Nat) 0) := ⟨Drawn0.rd hw2 HRD.out⟩
                  have HT2 : Aside0 (Turns (At p) wr w2) := ⟨Drawn0.turns hw2 _⟩
                  clear hw2 c1 c2 f1
                  have c1 := HR2.out.c1
                  have f1 := HR2.out.f1
                  obtain ⟨ch, hch⟩ : ∃ ch : Nat, s[c'].toNat = ch := ⟨_, rfl⟩
                  rw [hch]
                  clear hch
                  by_cases h101 : ch = 101
                  · subst h101
                    go_wp2_with fail
                    go_ret
                    refine ⟨_, _, 0, rfl, .inr ⟨_, _, rfl⟩, HR2.out.set1 _, (HTU.out.trans HT2.out).set_ (p := ⟨p, 1, none⟩) rfl _, fun _ => ⟨⟨_, ((HEL.out.aat HOW.out hn).turns (HT2.out.set_ (p := ⟨p, 1, none⟩) rfl _) (fun i hi _ h => ?_)).mono (fun i hi _ => ?_)⟩, c' + 1, by simp, by omega, by omega⟩⟩
                    · have : i = p := h
                      omega
                    · omega
                  · have hn101 : ¬ (ch : Int) = 101 := by omega
                    obtain ⟨i0, hi, hz0, hz1, hz2⟩ := info_parts info20
                    have HI := Aside0.mk hi
                    have HZ0 := Aside0.mk hz0
                    have HZ1 := Aside0.mk hz1
                    have HZ2 := Aside0.mk hz2
                    clear hi hz0 hz1 hz2
                    have HKK : Aside0 (((k : Int) + 1) = ((k + 1 : Nat) : Int)) := ⟨by omega⟩
                    go_wp2_with fail
                    rw [HKK.out]
                    refine (HIH.out (by omega) w2 p s c' hc2 HR2.out hsz).mono ?_
                    rintro e w3 ⟨xv, b3, er, rfl, hone, hr3, ht3, hx3⟩
                    have hone2 := hone
                    rcases hone2 with rfl | ⟨tt, vv, rfl⟩
                    · have HON := Aside0.mk hone
                      have HR3 := Aside0.mk hr3
                      have HT3 : Aside0 (Turns (At p) wr w3) := ⟨HT2.out.trans ht3⟩
                      have HX3 := Aside0.mk hx3
                      have hpg : ¬ p = g := fun e => by have := own_base HOW.out g rfl; omega
                      have hOW3 : w3.ownsRow B 20 1 (.slice (some ⟨g, 0, none⟩) n cp) n fs := HOW.out.kept (row := some p) ⟨HT3.out.os, HT3.out.tape, HT3.out.output, HT3.out.size, fun i hi hn => HT3.out.block i hi (fun h => hn (by rw [show i = p from h]))⟩ (Or.inr (by simpa [Value.ownBlock] using fun e => hpg e.symm))
                      have HOW4 : Aside0 ((w3.alloc (.cells #[.nilIface] 20)).ownsRow B 20 1 (.slice (some ⟨g, 0, none⟩) n cp) n fs) := ⟨pw_own_below hOW3 (below_alloc (Below.refl _ _) _)⟩
                      have HNW : Aside0 (∀ (j : Nat) (u : Value), [.nilIface][j]? = some u → (w3.alloc (.cells #[.nilIface] 20)).cell? ((⟨w3.heap.size, 0, none⟩ : Addr).add j) = some u) := ⟨fun j u hu => by
                        rw [add_plain]
                        refine (blk_cell (blk_new w3 _) j).trans ?_
                        simpa using hu⟩
                      have HSZ : Aside0 (B ≤ (w3.alloc (.cells #[.nilIface] 20)).heap.size) := ⟨by have := HT3.out.size; rw [size_alloc]; omega⟩
                      clear hone hr3 ht3 hx3 hOW3 c1 f1
                      go_wp2_with (at_builtin; refine wpList_append_loc rfl _ _ 75 rfl B 20 i0 .nilIface 1 16 Tryd.underlying75 HI.out HZ0.out HZ1.out HZ2.out rfl (by decide) (.slice (some ⟨g, 0, none⟩) n cp) n fs rfl HOW4.out ⟨w3.heap.size, 0, none⟩ 1 1 [.nilIface] rfl rfl HNW.out (by intro u hu; simp at hu; subst hu; exact HON.out.one) (n + 1) rfl (by unfold maxLen; omega) (by omega) HSZ.out ?_; intro A' c5 w5 hown5 hgrow5 hloc5; have HL5 := Aside0.mk hloc5; have HO5 := Aside0.mk hown5; have HG5 := Aside0.mk hgrow5; clear hown5 hgrow5 hloc5)
                      go_round
                      case rel =>
                        refine ⟨_, rfl, ⟨?_⟩⟩
                        refine lrel_add HOW.out (by omega) hpB hBw hwB HTU.out HT3.out HR3.out HO5.out HG5.out HL5.out (fun h => ?_)
                        obtain ⟨⟨v, hv⟩, c6, e6, h6, h7⟩ := HX3.out h
                        exact ⟨c6, vs, v, e6, by omega, h7, HEL.out, hv.mono (fun i hi _ => Nat.le_trans HT2.out.size hi)⟩
                      case measure =>
                        have hpg : ¬ p = g := fun e => by have := own_base HOW.out g rfl; omega
                        rw [HM2.out, (rd_add hpg HR3.out HG5.out).meas2 s.size, if_pos (trivial : True)]
                        by_cases her : er = 0
                        · obtain ⟨_, c6, e6, h6, h7⟩ := HX3.out her
                          rw [if_pos her, e6, Int.toNat_natCast, Int.toNat_natCast]
                          omega
                        · rw [if_neg her]
                          omega
                    · have HON := Aside0.mk hone
                      have HR3 := Aside0.mk hr3
                      have HT3 : Aside0 (Turns (At p) wr w3) := ⟨HT2.out.trans ht3⟩
                      have HX3 := Aside0.mk hx3
                      have hpg : ¬ p = g := fun e => by have := own_base HOW.out g rfl; omega
                      have hOW3 : w3.ownsRow B 20 1 (.slice (some ⟨g, 0, none⟩) n cp) n fs := HOW.out.kept (row := some p) ⟨HT3.out.os, HT3.out.tape, HT3.out.output, HT3.out.size, fun i hi hn => HT3.out.block i hi (fun h => hn (by rw [show i = p from h]))⟩ (Or.inr (by simpa [Value.ownBlock] using fun e => hpg e.symm))
                      have HOW4 : Aside0 ((w3.alloc (.cells #[.iface tt vv] 20)).ownsRow B 20 1 (.slice (some ⟨g, 0, none⟩) n cp) n fs) := ⟨pw_own_below hOW3 (below_alloc (Below.refl _ _) _)⟩
                      have HNW : Aside0 (∀ (j : Nat) (u : Value), [.iface tt vv][j]? = some u → (w3.alloc (.cells #[.iface tt vv] 20)).cell? ((⟨w3.heap.size, 0, none⟩ : Addr).add j) = some u) := ⟨fun j u hu => by
                        rw [add_plain]
                        refine (blk_cell (blk_new w3 _) j).trans ?_
                        simpa using hu⟩
                      have HSZ : Aside0 (B ≤ (w3.alloc (.cells #[.iface tt vv] 20)).heap.size) := ⟨by have := HT3.out.size; rw [size_alloc]; omega⟩
                      clear hone hr3 ht3 hx3 hOW3 c1 f1
                      go_wp2_with (at_builtin; refine wpList_append_loc rfl _ _ 75 rfl B 20 i0 .nilIface 1 16 Tryd.underlying75 HI.out HZ0.out HZ1.out HZ2.out rfl (by decide) (.slice (some ⟨g, 0, none⟩) n cp) n fs rfl HOW4.out ⟨w3.heap.size, 0, none⟩ 1 1 [.iface tt vv] rfl rfl HNW.out (by intro u hu; simp at hu; subst hu; exact HON.out.one) (n + 1) rfl (by unfold maxLen; omega) (by omega) HSZ.out ?_; intro A' c5 w5 hown5 hgrow5 hloc5; have HL5 := Aside0.mk hloc5; have HO5 := Aside0.mk hown5; have HG5 := Aside0.mk hgrow5; clear hown5 hgrow5 hloc5)
                      go_round
                      case rel =>
                        refine ⟨_, rfl, ⟨?_⟩⟩
                        refine lrel_add HOW.out (by omega) hpB hBw hwB HTU.out HT3.out HR3.out HO5.out HG5.out HL5.out (fun h => ?_)
                        obtain ⟨⟨v, hv⟩, c6, e6, h6, h7⟩ := HX3.out h
                        exact ⟨c6, vs, v, e6, by omega, h7, HEL.out, hv.mono (fun i hi _ => Nat.le_trans HT2.out.size hi)⟩
                      case measure =>
                        have hpg : ¬ p = g := fun e => by have := own_base HOW.out g rfl; omega
                        rw [HM2.out, (rd_add hpg HR3.out HG5.out).meas2 s.size, if_pos (trivial : True)]
                        by_cases her : er = 0
                        · obtain ⟨_, c6, e6, h6, h7⟩ := HX3.out her
                          rw [if_pos her, e6, Int.toNat_natCast, Int.toNat_natCast]
                          omega
                        · rw [if_neg her]
                          omega
                · have ec : c' = s.size := by omega
                  subst ec
                  go_wp2_with fail
                  refine (next_end _ p s HRD.out).mono ?_
                  rintro e w2' ⟨rfl, m0, hw2⟩
                  have HR2 : Aside0 (RdAt w2' p s (s.size : Nat) 21) := ⟨by rw [hw2]; exact (HRD.out.drewN m0).set2 21⟩
                  have HT2 : Aside0 (Turns (At p) wr w2') := ⟨by rw [hw2]; exact ((Turns.refl (At p) wr).drewN m0).set_ (p := ⟨p, 2, none⟩) rfl _⟩
                  clear hw2 c1 c2 f1
                  obtain ⟨i0, hi, hz0, hz1, hz2⟩ := info_parts info20
                  have HI := Aside0.mk hi
                  have HZ0 := Aside0.mk hz0
                  have HZ1 := Aside0.mk hz1
                  have HZ2 := Aside0.mk hz2
                  clear hi hz0 hz1 hz2
                  go_wp2_with fail
                  refine (value_off _ w2' p s 21 (by decide) HR2.out).mono ?_
                  rintro e w3 ⟨rfl, hw3⟩
                  have HON : Aside0 (IsIf .nilIface) := ⟨.inl rfl⟩
                  have HR3 : Aside0 (RdAt w3 p s (s.size : Nat) 21) := ⟨Drawn0.rd hw3 HR2.out⟩
                  have HT3 : Aside0 (Turns (At p) wr w3) := ⟨HT2.out.trans (Drawn0.turns hw3 _)⟩
                  clear hw3
                  have hpg : ¬ p = g := fun e => by have := own_base HOW.out g rfl; omega
                  have hOW3 : w3.ownsRow B 20 1 (.slice (some ⟨g, 0, none⟩) n cp) n fs := HOW.out.kept (row := some p) ⟨HT3.out.os, HT3.out.tape, HT3.out.output, HT3.out.size, fun i hi hn => HT3.out.block i hi (fun h => hn (by rw [show i = p from h]))⟩ (Or.inr (by simpa [Value.ownBlock] using fun e => hpg e.symm))
                  have HOW4 : Aside0 ((w3.alloc (.cells #[.nilIface] 20)).ownsRow B 20 1 (.slice (some ⟨g, 0, none⟩) n cp) n fs) := ⟨pw_own_below hOW3 (below_alloc (Below.refl _ _) _)⟩
                  have HNW : Aside0 (∀ (j : Nat) (u : Value), [.nilIface][j]? = some u → (w3.alloc (.cells #[.nilIface] 20)).cell? ((⟨w3.heap.size, 0, none⟩ : Addr).add j) = some u) := ⟨fun j u hu => by
                    rw [add_plain]
                    refine (blk_cell (blk_new w3 _) j).trans ?_
                    simpa using hu⟩
                  have HSZ : Aside0 (B ≤ (w3.alloc (.cells #[.nilIface] 20)).heap.size) := ⟨by have := HT3.out.size; rw [size_alloc]; omega⟩
                  clear hOW3
                  go_wp2_with (at_builtin; refine wpList_append_loc rfl _ _ 75 rfl B 20 i0 .nilIface 1 16 Tryd.underlying75 HI.out HZ0.out HZ1.out HZ2.out rfl (by decide) (.slice (some ⟨g, 0, none⟩) n cp) n fs rfl HOW4.out ⟨w3.heap.size, 0, none⟩ 1 1 [.nilIface] rfl rfl HNW.out (by intro u hu; simp at hu; subst hu; exact HON.out.one) (n + 1) rfl (by unfold maxLen; omega) (by omega) HSZ.out ?_; intro A' c5 w5 hown5 hgrow5 hloc5; have HL5 := Aside0.mk hloc5; have HO5 := Aside0.mk hown5; have HG5 := Aside0.mk hgrow5; clear hown5 hgrow5 hloc5)
                  go_round
                  case rel =>
                    refine ⟨_, rfl, ⟨?_⟩⟩
                    refine lrel_add HOW.out (by omega) hpB hBw hwB HTU.out HT3.out HR3.out HO5.out HG5.out HL5.out (fun h => ?_)
                    exact absurd h (by decide)
                  case measure =>
                    have hpg : ¬ p = g := fun e => by have := own_base HOW.out g rfl; omega
                    rw [HM2.out, (rd_add hpg HR3.out HG5.out).meas2 s.size, if_pos (trivial : True)]
                    simp
              · have hxn : ¬ x = (0 : Int) := hx0
                go_wp2_with fail
                go_ret
                exact ⟨_, _, x, rfl, (by first | exact .inl rfl | exact .inr ⟨_, _, rfl⟩), HRD.out.set1 _, HTU.out.set_ (p := ⟨p, 1, none⟩) rfl _, fun h => absurd h hxn⟩
        · have hn108 : ¬ (c : Int) = 108 := by omega
          rcases hor with hor | hor
          · have ho1 : ¬ (48 : Int) ≤ c := by omega
            go_wp2_with (go_at_call 41; refine (fail_calls _ p s _ _ (HRn.out)).mono ?_; rintro e w4 ⟨rfl, rfl⟩)
            go_ret
            exact ⟨_, _, _, rfl, (by first | exact .inl rfl | exact .inr ⟨_, _, rfl⟩), (HRn.out).set2 _, (HTn.out).set_ (p := ⟨p, 2, none⟩) rfl _, fun h => absurd h (by decide)⟩
          · have ho1 : (48 : Int) ≤ c := by omega
            have ho2 : ¬ (c : Int) ≤ 57 := by omega
            go_wp2_with (go_at_call 41; refine (fail_calls _ p s _ _ (HRn.out)).mono ?_; rintro e w4 ⟨rfl, rfl⟩)
            go_ret
            exact ⟨_, _, _, rfl, (by first | exact .inl rfl | exact .inr ⟨_, _, rfl⟩), (HRn.out).set2 _, (HTn.out).set_ (p := ⟨p, 2, none⟩) rfl _, fun h => absurd h (by decide)⟩
  · have hend : a = s.size := by omega
    subst hend
    go_enter Tryd.func34, Tryd.ntmps34
    go_wp2_with fail
    refine (next_end _ p s HR.out).mono ?_
    rintro e w1 ⟨rfl, m0, rfl⟩
    have HRn : Aside0 (RdAt ((w.drewN m0).setCell ⟨p, 2, none⟩ (.int .i64 21)) p s (s.size : Nat) 21) := ⟨(HR.out.drewN m0).set2 21⟩
    have HTn : Aside0 (Turns (At p) w ((w.drewN m0).setCell ⟨p, 2, none⟩ (.int .i64 21))) := ⟨((Turns.refl (At p) w).drewN m0).set_ (p := ⟨p, 2, none⟩) rfl _⟩
    have c2 := HRn.out.c2
    generalize (w.drewN m0).setCell ⟨p, 2, none⟩ (.int .i64 21) = w2 at *
    go_wp2_with fail
    go_ret
    exact ⟨_, _, 21, rfl, (by first | exact .inl rfl | exact .inr ⟨_, _, rfl⟩), HRn.out, HTn.out, fun h => by cases h⟩

theorem value_sound : ∀ (d k : Nat), k + d = 8 → VC k
  | 0, k, h => value_step k (by omega) (fun h' => by omega)
  | d + 1, k, h => value_step k (by omega) (fun _ => value_sound d (k + 1) (by omega))
end Go.Proofs.YtjhalgoondljgaaDoor.Re
