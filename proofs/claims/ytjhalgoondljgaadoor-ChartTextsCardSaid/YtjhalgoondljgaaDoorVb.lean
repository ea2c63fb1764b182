/- A reader reads a value that lies in the text. -/
import Derived.Test.YtjhalgoondljgaaDoorVa
import Derived.Test.YtjhalgoondljgaaDoorNx
namespace Go.Proofs.YtjhalgoondljgaaDoor.Re
open Go.RowKit Go.Lib Go.Proofs.YtjhalgoondljgaaDoorW.PrintWords Go.Proofs.YtjhalgoondljgaaDoorW.PrintLast Go.Proofs.YtjhalgoondljgaaDoorW.PrintMore Base
set_option linter.unusedVariables false
set_option linter.unusedSimpArgs false

inductive Good : Nat → V → Prop
  | num (d n : Nat) (h : n ≤ 1099511627776) : Good d (.num n)
  | list (d : Nat) (l : List V) (h : ∀ x ∈ l, Good d x) : Good (d + 1) (.list l)
mutual
def enc : V → List UInt8
  | .num n => 105 :: (decDigits n.toNat ++ [101])
  | .str _ => []
  | .list l => 108 :: (encs l ++ [101])
def encs : List V → List UInt8
  | [] => []
  | v :: l => enc v ++ encs l
end
theorem encs_app (l m : List V) : encs (l ++ m) = encs l ++ encs m := by
  induction l with
  | nil => rfl
  | cons v l ih => rw [List.cons_append, encs, encs, ih, List.append_assoc]
theorem encs_succ (l : List V) (k : Nat) (h : k < l.length) : encs (l.take (k + 1)) = encs (l.take k) ++ enc l[k] := by
  rw [← List.take_append_getElem h, encs_app]
  simp [encs]
theorem encs_split (l : List V) (k : Nat) (h : k < l.length) : encs l = encs (l.take k) ++ (enc l[k] ++ encs (l.drop (k + 1))) := by
  have h1 : l = l.take k ++ l[k] :: l.drop (k + 1) := by
    rw [← List.drop_eq_getElem_cons h, List.take_append_drop]
  have h2 := congrArg encs h1
  rw [encs_app, encs] at h2
  exact h2
theorem Good.head {d : Nat} {v : V} (h : Good d v) : ∃ c r, enc v = c :: r ∧ (c = 105 ∨ c = 108) := by
  cases h with
  | num n h => exact ⟨_, _, by rw [enc], .inl rfl⟩
  | list d l h => exact ⟨_, _, by rw [enc], .inr rfl⟩
theorem encs_len {d : Nat} : ∀ (l : List V), (∀ x ∈ l, Good d x) → l.length ≤ (encs l).length
  | [], _ => Nat.le_refl _
  | v :: l, h => by
    obtain ⟨c, r, e, _⟩ := (h v (by simp)).head
    have := encs_len l (fun x hx => h x (by simp [hx]))
    rw [encs, e]
    simp
    omega

theorem list_add {B : Nat} {w : World} {p : Nat} {s : ByteArray} {a : Nat} {wr w3 w5 : World} {g n cp c5 : Nat} {A' : Option Addr} {fs : List Value} {xv : Value} {er b3 : Int} (hown : wr.ownsRow B 20 1 (.slice (some ⟨g, 0, none⟩) n cp) n fs) (hn : n ≤ 2047) (hp : p < B) (hBw : B ≤ wr.heap.size) (hwB : w.heap.size ≤ B)
    (ht : Turns (At p) w wr) (h23 : Turns (At p) wr w3) (hr3 : RdAt w3 p s b3 er) (hO5 : w5.ownsRow B 20 1 (.slice A' (n + 1) c5) (n + 1) (fs ++ [xv])) (hG5 : (w3.alloc (.cells #[xv] 20)).grownBy w5 (some g))
    (hL5 : (Value.slice A' (n + 1) c5).ownBlock = some g ∨ (Value.slice A' (n + 1) c5).ownBlock = some (w3.alloc (.cells #[xv] 20)).heap.size)
    : ∃ g5, A' = some ⟨g5, 0, none⟩ ∧ w5.ownsRow B 20 1 (.slice (some ⟨g5, 0, none⟩) (n + 1) c5) (n + 1) (fs ++ [xv]) ∧ RdAt w5 p s b3 er ∧ Turns (At p) w w5 ∧ B ≤ w5.heap.size ∧
      (∀ (vs : List V) (v : V), El B wr g n fs vs → AAt (fun j => wr.heap.size ≤ j) w3 v xv → El B w5 g5 (n + 1) (fs ++ [xv]) (vs ++ [v])) := by

  obtain ⟨g5, rfl⟩ : ∃ g5, A' = some ⟨g5, 0, none⟩ := by
    rcases hO5.2 with ⟨e1, _⟩ | ⟨g', cap, cur, e1, _⟩
    · injection e1 with _ e2 _
      omega
    · injection e1 with e1 _ _
      exact ⟨g', e1⟩
  have hgB := own_base hown g rfl
  have hglt := own_lt hown g rfl
  have hA := size_alloc w3 (.cells #[xv] 20)
  have hs23 := h23.size
  have hT0 : Turns (At p) w3 (w3.alloc (.cells #[xv] 20)) := (Turns.refl _ _).alloc _
  have hT5 := Turns.of_grown hG5
  have hs5 := hT5.size
  have hpn : ∀ i, B ≤ i → ¬ At p i := fun i hi h => by have : i = p := h; omega
  have h15 := (ht.trans h23).trans hT0
  have ht35 : Turns (At p) w w5 := ⟨hT5.os.trans h15.os, hT5.tape.trans h15.tape, hT5.output.trans h15.output, Nat.le_trans h15.size hs5, fun i hi hn => 
    (hT5.block i (by have := h15.size; omega) (fun e => by injection e with e; omega)).trans (h15.block i hi hn)⟩
  refine ⟨g5, rfl, hO5, ?_, ht35, by omega, fun vs v hel hv => ?_⟩
  · refine hr3.move ?_
    rw [hT5.block p (by have := hr3.lt; omega) (fun e => by injection e with e; omega)]
    exact Below.heap_alloc w3 _ p hr3.lt
  · obtain ⟨l1, l2, l3⟩ := hel
    have hg5 : g5 = g ∨ g5 = w3.heap.size + 1 := by
      rcases hL5 with h | h
      · injection h with h; exact .inl h
      · rw [hA] at h; injection h with h; exact .inr h
    refine ⟨by simp [l1], by simp [l2], fun i hi => ?_⟩
    by_cases hin : i < vs.length
    · have h1 := (((l3 i hin).turns h23 (fun j hj _ => hpn j hj.1)).turns hT0 (fun j hj _ => hpn j hj.1)).mono (H := fun j => (B ≤ j ∧ j ≠ g) ∧ j ≠ g5) (fun j hj hlt => ⟨hj, by rcases hg5 with h | h <;> omega⟩)
      have h2 := (h1.turns hT5 (fun j hj _ e => by injection e with e; exact hj.1.2 e.symm)).mono (H := fun j => B ≤ j ∧ j ≠ g5) (fun j hj _ => ⟨hj.1.1, hj.2⟩)
      rw [List.getElem_append_left hin]
      have e : (fs ++ [xv]).getD i .nilIface = fs.getD i .nilIface := by
        rw [List.getD_eq_getElem?_getD, List.getD_eq_getElem?_getD, List.getElem?_append_left (by omega)]
      rw [e]
      exact h2
    · have ei : i = vs.length := by simp at hi; omega
      subst ei
      have h1 := (hv.turns hT0 (fun j hj _ => hpn j (by omega))).mono (H := fun j => (B ≤ j ∧ j ≠ g) ∧ j ≠ g5) (fun j hj hlt => ⟨⟨by omega, by omega⟩, by rcases hg5 with h | h <;> omega⟩)
      have h2 := (h1.turns hT5 (fun j hj _ e => by injection e with e; exact hj.1.2 e.symm)).mono (H := fun j => B ≤ j ∧ j ≠ g5) (fun j hj _ => ⟨hj.1.1, hj.2⟩)
      have e : (fs ++ [xv]).getD vs.length .nilIface = xv := by
        rw [List.getD_eq_getElem?_getD, List.getElem?_append_right (by omega)]
        have : vs.length - fs.length = 0 := by omega
        rw [this]
        rfl
      rw [e]
      simpa using h2

def LX (B : Nat) (w : World) (p : Nat) (s : ByteArray) (a : Nat) (vs : List V) (l : Value) (wr : World) : Prop :=
  ∃ (g n c : Nat) (fs : List Value), l = .slice (some ⟨g, 0, none⟩) n c ∧ n ≤ vs.length ∧ wr.ownsRow B 20 1 (.slice (some ⟨g, 0, none⟩) n c) n fs ∧ RdAt wr p s (a + 1 + (encs (vs.take n)).length : Nat) 0 ∧ Turns (At p) w wr ∧ B ≤ wr.heap.size ∧
    El B wr g n fs (vs.take n)
def VX (k d : Nat) : Prop := ∀ (w : World) (p : Nat) (s : ByteArray) (a : Nat) (v : V), Good d v → Pl s a (enc v) → RdAt w p s a 0 → s.size ≤ 2048 →
  Calls Tryd.prog 34 #[.pointer (some ⟨p, 0, none⟩), .int .i64 k] w fun e w' => ∃ x : Value, e = .returned x ∧ IsIf x ∧ AAt (fun g => w.heap.size ≤ g) w' v x ∧ RdAt w' p s (a + (enc v).length : Nat) 0 ∧ Turns (At p) w w'

set_option maxRecDepth 100000 in
set_option maxHeartbeats 4000000 in
theorem value_num (k d : Nat) (n : Nat) (hn : n ≤ 1099511627776) (w : World) (p : Nat) (s : ByteArray) (a : Nat) (hP : Pl s a (105 :: (decDigits n ++ [101]))) (h : RdAt w p s a 0) (hsz : s.size ≤ 2048) :
    Calls Tryd.prog 34 #[.pointer (some ⟨p, 0, none⟩), .int .i64 k] w fun e w' => e = .returned (.iface 3 (.int .i64 n)) ∧ RdAt w' p s (a + ((decDigits n).length + 2) : Nat) 0 ∧ Turns (At p) w w' := by
  have hPs := hP.size
  have hlt : a < s.size := by simp at hPs; omega
  have h0 : s[a].toNat = 105 := by
    have := hP.at_ 0 (by simp) hlt
    simp at this
    rw [this]
    rfl
  have HP2 : Aside0 (Pl s (a + 1) (decDigits n ++ [101])) := ⟨Pl.right (L := [105]) (M := decDigits n ++ [101]) (by simpa using hP)⟩
  obtain ⟨d1, d2, d3, d4, d5⟩ := dec_ok n
  have hl1 : a + 1 < s.size := by simp at hPs; omega
  have H45 : Aside0 (∀ b (hb : b < s.size), a + 1 = b → ¬ (s[b].toNat : Int) = 45) := ⟨fun b hb eb => by
    subst eb
    have e := HP2.out.left.at_ 0 d3 hl1
    simp at e
    rw [e]
    have := d1 _ (List.getElem_mem d3)
    omega⟩
  have hg : decide (((a + 1 : Nat) : Int) < (s.size : Int)) = true := decide_eq_true (by omega)
  have HR := Aside0.mk h
  clear h d1 d2 d3 d4 d5 hP hPs
  go_enter Tryd.func34, Tryd.ntmps34
  go_wp2_with fail
  refine (next_calls _ p s a hlt HR.out).mono ?_
  rintro e w1 ⟨rfl, hw⟩
  have HRn : Aside0 (RdAt w1 p s (a : Nat) 0) := ⟨Drawn0.rd hw HR.out⟩
  have HTn : Aside0 (Turns (At p) w w1) := ⟨Drawn0.turns hw _⟩
  have c0 := HRn.out.c0
  have c1 := HRn.out.c1
  have c2 := HRn.out.c2
  have f1 := HRn.out.f1
  clear hw
  rw [h0]
  go_upto_region 11 with (fail)
  have HRm : Aside0 (RdAt (w1.setCell ⟨p, 1, none⟩ (.int .i64 ((a : Int) + 1))) p s (a + 1 : Nat) 0) := ⟨by have := HRn.out.set1 ((a : Int) + 1); simpa using this⟩
  have HTm : Aside0 (Turns (At p) w (w1.setCell ⟨p, 1, none⟩ (.int .i64 ((a : Int) + 1)))) := ⟨HTn.out.set_ (p := ⟨p, 1, none⟩) rfl _⟩
  clear c0 c1 c2 f1 h0
  generalize w1.setCell ⟨p, 1, none⟩ (.int .i64 ((a : Int) + 1)) = w2 at *
  obtain ⟨b1, hb1⟩ : ∃ b1 : Nat, a + 1 = b1 := ⟨_, rfl⟩
  have HB1 := Aside0.mk hb1
  rw [hb1] at HRm hg HP2 hl1
  have h45 := H45.out b1 hl1 HB1.out
  clear hb1 H45
  have c0 := HRm.out.c0
  have c1 := HRm.out.c1
  have c2 := HRm.out.c2
  have f1 := HRm.out.f1
  go_quiet (fail)
  go_wp2_with fail
  refine (number_ok _ p s b1 n HP2.out hn (HRm.out.drewN _) hsz).mono ?_
  rintro e w3 ⟨rfl, hr3, ht3⟩
  have HR3 := Aside0.mk hr3
  have HT3 := Aside0.mk ht3
  clear hr3 ht3
  go_wp2_with fail
  go_ret
  exact ⟨rfl, by have := HR3.out; rw [← HB1.out] at this; rw [show a + ((decDigits n).length + 2) = a + 1 + (decDigits n).length + 1 by omega]; exact this, (HTm.out.drewN _).trans HT3.out⟩

set_option maxRecDepth 100000 in
set_option maxHeartbeats 4000000 in
theorem value_list (k d : Nat) (hk8 : k < 8) (hrec : VX (k + 1) d) (w : World) (p : Nat) (s : ByteArray) (a : Nat) (vs : List V) (hvs : ∀ x ∈ vs, Good d x) (hP : Pl s a (enc (.list vs))) (h : RdAt w p s a 0) (hsz : s.size ≤ 2048) :
    Calls Tryd.prog 34 #[.pointer (some ⟨p, 0, none⟩), .int .i64 k] w fun e w' => ∃ x : Value, e = .returned x ∧ IsIf x ∧ AAt (fun g => w.heap.size ≤ g) w' (.list vs) x ∧ RdAt w' p s (a + (enc (.list vs)).length : Nat) 0 ∧ Turns (At p) w w' := by
  rw [enc] at hP ⊢
  have hPs := hP.size
  simp at hPs
  have hvl := encs_len vs hvs
  have hlt : a < s.size := by omega
  have h0 : s[a].toNat = 108 := by
    have := hP.at_ 0 (by simp) hlt
    simp at this
    rw [this]
    rfl
  have HP2 : Aside0 (Pl s (a + 1) (encs vs ++ [101])) := ⟨Pl.right (L := [108]) (M := encs vs ++ [101]) (by simpa using hP)⟩
  have HIH := Aside0.mk hrec
  have HVS := Aside0.mk hvs
  have HR := Aside0.mk h
  have HLEN : Aside0 ((108 :: (encs vs ++ [101])).length = (encs vs).length + 2) := ⟨by simp⟩
  clear h hrec hvs hP
  go_enter Tryd.func34, Tryd.ntmps34
  go_wp2_with fail
  refine (next_calls _ p s a hlt HR.out).mono ?_
  rintro e w1 ⟨rfl, hw⟩
  have HRn : Aside0 (RdAt w1 p s (a : Nat) 0) := ⟨Drawn0.rd hw HR.out⟩
  have HTn : Aside0 (Turns (At p) w w1) := ⟨Drawn0.turns hw _⟩
  have c0 := HRn.out.c0
  have c1 := HRn.out.c1
  have c2 := HRn.out.c2
  have f1 := HRn.out.f1
  clear hw
  rw [h0]
  clear h0
  have hk8' : ¬ (8 : Int) ≤ (k : Int) := by omega
  go_wp2_with fail
  have hp1 := HRn.out.lt
  obtain ⟨B, hB⟩ : ∃ B, w1.heap.size = B := ⟨_, rfl⟩
  have hpB : p < B := by omega
  have hwB : w.heap.size ≤ B := by have := HTn.out.size; omega
  have HBE := Aside0.mk hB
  clear hB
  go_loopw [7] (fun l wr => ∃ l2, l = l2 ∧ Aside0 (LX B w p s a vs l2 wr)) (fun _ wr => meas2 p s.size wr)
  case atStart =>
    refine ⟨_, rfl, ⟨⟨w1.heap.size, 0, 0, [], rfl, by omega, ?_, ?_, ?_, ?_, rfl, rfl, fun i hi => by simp at hi⟩⟩⟩
    · refine ⟨rfl, .inr ⟨w1.heap.size, 0, #[], rfl, by have := HBE.out; omega, ?_, Nat.le_refl _, by unfold maxLen; omega, rfl, rfl⟩⟩
      have := blk_new (w1.setCell ⟨p, 1, none⟩ (.int .i64 ((a : Int) + 1))) (.cells #[] 20)
      simpa [World.setCell] using this
    · refine RdAt.move (w := w1.setCell ⟨p, 1, none⟩ (.int .i64 ((a : Int) + 1))) ?_ (Below.heap_alloc _ _ p (by simpa [World.setCell] using hp1))
      have := HRn.out.set1 ((a : Int) + 1)
      simpa [encs] using this
    · exact (HTn.out.set_ (p := ⟨p, 1, none⟩) rfl _).alloc _
    · rw [size_alloc, ← HBE.out]
      simp [World.setCell]
  case round =>
    obtain ⟨l2, rfl, ⟨g, n, cp, fs, rfl, hn, hown, hrd, htu, hBw, hel⟩⟩ := hrel
    obtain ⟨c', hc'⟩ : ∃ c', a + 1 + (encs (vs.take n)).length = c' := ⟨_, rfl⟩
    rw [hc'] at hrd
    have HC := Aside0.mk hc'
    have HOW := Aside0.mk hown
    have HRD := Aside0.mk hrd
    have HTU := Aside0.mk htu
    have HEL := Aside0.mk hel
    have c1 := hrd.c1
    have c2 := hrd.c2
    have f1 := hrd.f1
    have hm2 := hrd.meas2 s.size
    have HM2 := Aside0.mk hm2
    clear hown hrd htu hel hm2 hc'
    by_cases hnv : n < vs.length
    · have hspl := encs_split vs n hnv
      have hPn : Pl s c' (enc vs[n] ++ (encs (vs.drop (n + 1)) ++ [101])) := by
        have h1 := HP2.out
        rw [hspl] at h1
        have h2 := Pl.right (L := encs (vs.take n)) (M := enc vs[n] ++ (encs (vs.drop (n + 1)) ++ [101])) (by simpa using h1)
        rw [HC.out] at h2
        exact h2
      have hgd := HVS.out _ (List.getElem_mem hnv)
      obtain ⟨hd, hr, hhe, hhd⟩ := hgd.head
      have hszn := hPn.left.size
      rw [hhe] at hszn
      have hlt2 : c' < s.size := by simp at hszn; omega
      have hch0 : s[c'].toNat = 105 ∨ s[c'].toNat = 108 := by
        have h3 := hPn.left
        rw [hhe] at h3
        have := h3.at_ 0 (by simp) (by simpa using hlt2)
        simp at this
        rw [this]
        rcases hhd with rfl | rfl
        · exact .inl rfl
        · exact .inr rfl
      have HPN := Aside0.mk hPn.left
      have HGD := Aside0.mk hgd
      clear hspl hPn hgd hhe hhd hszn
      go_wp2_with fail
      refine (next_calls _ p s c' hlt2 HRD.out).mono ?_
      rintro e w2 ⟨rfl, hw2⟩
      have HR2 : Aside0 (RdAt w2 p s (c' : Nat) 0) := ⟨Drawn0.rd hw2 HRD.out⟩
      have HT2 : Aside0 (Turns (At p) wr w2) := ⟨Drawn0.turns hw2 _⟩
      clear hw2 c1 c2 f1
      have c1 := HR2.out.c1
      have f1 := HR2.out.f1
      obtain ⟨ch, hch⟩ : ∃ ch : Nat, s[c'].toNat = ch := ⟨_, rfl⟩
      rw [hch] at hch0 ⊢
      have hn101 : ¬ (ch : Int) = 101 := by omega
      clear hch hch0
      obtain ⟨i0, hi, hz0, hz1, hz2⟩ := info_parts info20
      have HI := Aside0.mk hi
      have HZ0 := Aside0.mk hz0
      have HZ1 := Aside0.mk hz1
      have HZ2 := Aside0.mk hz2
      clear hi hz0 hz1 hz2
      have HKK : Aside0 (((k : Int) + 1) = ((k + 1 : Nat) : Int)) := ⟨by omega⟩
      go_wp2_with fail
      rw [HKK.out]
      refine (HIH.out w2 p s c' _ HGD.out HPN.out HR2.out hsz).mono ?_
      rintro e w3 ⟨xv, rfl, hone, hv3, hr3, ht3⟩
      have HVV := Aside0.mk hv3
      have HR3 := Aside0.mk hr3
      have HT3 : Aside0 (Turns (At p) wr w3) := ⟨HT2.out.trans ht3⟩
      have hpg : ¬ p = g := fun e => by have := own_base HOW.out g rfl; omega
      have hOW3 : w3.ownsRow B 20 1 (.slice (some ⟨g, 0, none⟩) n cp) n fs := HOW.out.kept (row := some p) ⟨HT3.out.os, HT3.out.tape, HT3.out.output, HT3.out.size, fun i hi hn => HT3.out.block i hi (fun h => hn (by rw [show i = p from h]))⟩ (Or.inr (by simpa [Value.ownBlock] using fun e => hpg e.symm))
      have HOW4 : Aside0 ((w3.alloc (.cells #[xv] 20)).ownsRow B 20 1 (.slice (some ⟨g, 0, none⟩) n cp) n fs) := ⟨pw_own_below hOW3 (below_alloc (Below.refl _ _) _)⟩
      have HNW : Aside0 (∀ (j : Nat) (u : Value), [xv][j]? = some u → (w3.alloc (.cells #[xv] 20)).cell? ((⟨w3.heap.size, 0, none⟩ : Addr).add j) = some u) := ⟨fun j u hu => by
        rw [YtjhalgoondljgaaDoorW.PrintWords.add_plain]
        refine (blk_cell (blk_new w3 _) j).trans ?_
        simpa using hu⟩
      have HSZ : Aside0 (B ≤ (w3.alloc (.cells #[xv] 20)).heap.size) := ⟨by have := HT3.out.size; rw [size_alloc]; omega⟩
      have HON := Aside0.mk hone
      have HPG := Aside0.mk hpg
      clear hv3 hr3 ht3 hOW3 c1 f1 hpg
      rcases hone with rfl | ⟨tt, vv, rfl⟩
      all_goals
        go_wp2_with (at_builtin; refine wpList_append_loc rfl _ _ 75 rfl B 20 i0 .nilIface 1 16 Tryd.underlying75 HI.out HZ0.out HZ1.out HZ2.out rfl (by decide) (.slice (some ⟨g, 0, none⟩) n cp) n fs rfl HOW4.out ⟨w3.heap.size, 0, none⟩ 1 1 [_] rfl rfl HNW.out (by intro u hu; rw [List.mem_singleton] at hu; subst hu; exact HON.out.one) (n + 1) rfl (by unfold maxLen; omega) (by omega) HSZ.out ?_; intro A' c5 w5 hown5 hgrow5 hloc5; have HL5 := Aside0.mk hloc5; have HO5 := Aside0.mk hown5; have HG5 := Aside0.mk hgrow5; clear hown5 hgrow5 hloc5)
        go_round
        case rel =>
          refine ⟨_, rfl, ⟨?_⟩⟩
          obtain ⟨g5, rfl, q1, q2, q3, q4, q5⟩ := list_add (a := a) HOW.out (by omega) hpB hBw hwB HTU.out HT3.out HR3.out HO5.out HG5.out HL5.out
          refine ⟨g5, n + 1, c5, _, rfl, hnv, q1, ?_, q3, q4, ?_⟩
          · rw [encs_succ vs n hnv, List.length_append, ← Nat.add_assoc, HC.out]
            exact q2
          · rw [← List.take_append_getElem hnv]
            exact q5 _ _ HEL.out (HVV.out.mono (fun i hi _ => Nat.le_trans HT2.out.size hi))
        case measure =>
          rw [HM2.out, (rd_add HPG.out HR3.out HG5.out).meas2 s.size, if_pos (trivial : True), if_pos rfl, Int.toNat_natCast, Int.toNat_natCast]
          obtain ⟨hd, hr, hhe, hhd⟩ := HGD.out.head
          have := HPN.out.size
          rw [hhe, List.length_cons] at *
          omega
    · have en : n = vs.length := by omega
      subst en
      have hc2 : c' = a + 1 + (encs vs).length := by rw [← HC.out, List.take_length]
      subst hc2
      have hlt2 : a + 1 + (encs vs).length < s.size := by omega
      have h101 : s[a + 1 + (encs vs).length].toNat = 101 := by
        have := HP2.out.right.at_ 0 (by simp) (by simpa using hlt2)
        simp at this
        rw [this]
        rfl
      go_wp2_with fail
      refine (next_calls _ p s _ hlt2 HRD.out).mono ?_
      rintro e w2 ⟨rfl, hw2⟩
      have HR2 : Aside0 (RdAt w2 p s (a + 1 + (encs vs).length : Nat) 0) := ⟨Drawn0.rd hw2 HRD.out⟩
      have HT2 : Aside0 (Turns (At p) wr w2) := ⟨Drawn0.turns hw2 _⟩
      clear hw2 c1 c2 f1
      have c1 := HR2.out.c1
      have f1 := HR2.out.f1
      rw [h101]
      go_wp2_with fail
      go_ret
      have hel := HEL.out
      rw [List.take_length] at hel
      refine ⟨_, rfl, .inr ⟨_, _, rfl⟩, ((hel.aat HOW.out (by omega)).turns (HT2.out.set_ (p := ⟨p, 1, none⟩) rfl _) (fun i hi _ h => ?_)).mono (fun i hi _ => ?_), ?_, (HTU.out.trans HT2.out).set_ (p := ⟨p, 1, none⟩) rfl _⟩
      · have : i = p := h
        omega
      · omega
      · have := HR2.out.set1 ((a + 1 + (encs vs).length : Nat) + 1 : Int)
        have e : ((a + (108 :: (encs vs ++ [101])).length : Nat) : Int) = ((a + 1 + (encs vs).length : Nat) + 1 : Int) := by rw [HLEN.out]; omega
        show RdAt _ p s ((a + (108 :: (encs vs ++ [101])).length : Nat) : Int) 0
        rw [e]
        simpa using this

theorem value_ok : ∀ (d k : Nat), k + d ≤ 8 → VX k d
  | 0, k, hk => by
    intro w p s a v hg hP h hsz
    cases hg with
    | num _ n hn =>
      rw [enc] at hP ⊢
      refine (value_num k 0 n hn w p s a (by simpa using hP) h hsz).mono ?_
      rintro e w' ⟨rfl, hr, ht⟩
      exact ⟨_, rfl, .inr ⟨_, _, rfl⟩, .num _, by have e : (105 :: (decDigits ((n : Int).toNat) ++ [101])).length = (decDigits n).length + 2 := (by simp); rw [e]; exact hr, ht⟩
  | d + 1, k, hk => by
    intro w p s a v hg hP h hsz
    cases hg with
    | num _ n hn =>
      rw [enc] at hP ⊢
      refine (value_num k 0 n hn w p s a (by simpa using hP) h hsz).mono ?_
      rintro e w' ⟨rfl, hr, ht⟩
      exact ⟨_, rfl, .inr ⟨_, _, rfl⟩, .num _, by have e : (105 :: (decDigits ((n : Int).toNat) ++ [101])).length = (decDigits n).length + 2 := (by simp); rw [e]; exact hr, ht⟩
    | list _ l hl => exact value_list k d (by omega) (value_ok d (k + 1) (by omega)) w p s a l hl hP h hsz
end Go.Proofs.YtjhalgoondljgaaDoor.Re
