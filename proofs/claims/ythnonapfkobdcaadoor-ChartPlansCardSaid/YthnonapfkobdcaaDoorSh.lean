/- A ring's Shards. -/
import Derived.Test.YthnonapfkobdcaaDoorHm
import Derived.Deep.RegionLawGrows
import Derived.Maps.AppendAt
import Derived.ProofKit
namespace Go.Proofs.YthnonapfkobdcaaDoor.Ri
open Go.RowKit Cr Rg Go.Proofs.YthnonapfkobdcaaDoorW.PrintWords Go.Proofs.YthnonapfkobdcaaDoorW.PrintLast Go.Proofs.YthnonapfkobdcaaDoorW.PrintMore
set_option linter.unusedVariables false
set_option linter.unusedSimpArgs false

theorem wpList_append_mine {P : Program} {ops : Array Oper} {rest : List Oper} {o : Oper} {a : Act} {w : World} {Q : Exit → Act → World → Prop}
    (hgd : o.guard = none) (s x : Operand) (t : TypeId) (ho : o.op = Op.call { callee := Callee.builtin Builtin.append, args := #[s, x], argTypes := #[t, t] })
    (base : Nat) (e : TypeId) (i : TypeInfo) (z : Value) (size bytes : Nat) (ht : P.underlying t = some (.slice e)) (hi : P.info? e = some i) (hz : i.zero = some z) (hsize : i.size = size) (hby : i.bytes = bytes) (hzs : z.cells.size = size) (hsz : 0 < size)
    (v : Value) (n : Nat) (xs : List Value) (hs : a.eval s = v) (hown : w.ownsRow base e size v n xs)
    (ad : Addr) (m c : Nat) (news : List Value) (hx : a.eval x = .slice (some ad) m c) (hl : news.length = m * size) (hnews : ∀ j u, news[j]? = some u → w.cell? (ad.add j) = some u) (h1 : ∀ u ∈ news, u.oneCell' = true)
    (N : Nat) (hN : n + m = N) (h63 : N ≤ maxLen) (hbytes : N * bytes ≤ 140737488355328) (hbase : base ≤ w.heap.size)
    (hK : ∀ A' c' w', w'.ownsRow base e size (.slice A' N c') N (xs ++ news) → w.grownBy w' v.ownBlock → ((Value.slice A' N c').ownBlock = v.ownBlock ∨ (Value.slice A' N c').ownBlock = some w.heap.size) → wpList P ops Q rest (a.put o.dst (.slice A' N c')) w') : wpList P ops Q (o :: rest) a w := by
  subst hN
  refine wpList_plain hgd fun K hK' => ?_
  obtain ⟨v', w', hrun, r1, r2, _, r4⟩ := run_append_own_at (P := P) (w := w) base t o.type e i z size bytes ht hi hz hsize hby hzs hsz v n xs hown ad m c news hl hnews h1 h63 hbytes hbase
  obtain ⟨A', c', rfl⟩ := own_slice r1
  unfold Oper.wp
  simp [execOp, ho, resolve, invoke, builtin, hs, hx, hrun, Result.andThen]
  exact hK' _ _ (hK A' c' w' r1 r2 r4)

theorem nums_app (k : IntKind) (xs : List Int) (x : Int) : nums k xs ++ [Value.int k x] = nums k (xs ++ [x]) := by unfold nums; simp
theorem info3 : (Tryd.prog.info? 3).map (fun i => (i.zero, i.size, i.bytes)) = some (some (.int .i64 0), 1, 8) := by kernel_rfl
def kShard : ByteArray := ⟨#[115, 104, 97, 114, 100]⟩
def kNode : ByteArray := ⟨#[110, 111, 100, 101]⟩
def kId : ByteArray := ⟨#[105, 100]⟩
/-- The nodes that so many shards have: each one's home. -/
structure IsShards (l : List (Int × Int)) (many : Nat) (out : List Int) : Prop where
  len : out.length = many
  home : ∀ s (hs : s < out.length), IsHome l (spot kShard s many) out[s]
structure ShardsDone (l : List (Int × Int)) (many : Nat) (W : World) (e : Ending) (w' : World) : Prop where
  ex : ∃ A cap out, e = .returned (.tuple #[.slice A out.length cap, .int .i64 0]) ∧ IsShards l many out ∧ w'.ownsRow W.heap.size 3 1 (.slice A out.length cap) out.length (nums .i64 out)
  below : Below W.heap.size W w'

set_option maxHeartbeats 400000 in
theorem shards_bad {W : World} {p : Nat} {l : List (Int × Int)} (h : RingIs W p l) (m : Int) (hb : m < 1 ∨ 16 < m) : Calls Tryd.prog 29 #[.pointer (some ⟨p, 0, none⟩), .int .i64 m] W fun e w' => e = .returned (.tuple #[.slice none 0 0, .int .i64 1]) ∧ W = w' := by
  have hm := Aside0.mk h.made
  clear h
  by_cases h1 : m < 1
  · clear hb
    go_enter Tryd.func29, Tryd.ntmps29
    go_wp2_with (go_at_call 45; refine (given_yes hm.out).mono ?_; rintro e w' ⟨rfl, rfl⟩)
    go_ret2
    exact ⟨rfl, rfl⟩
  · have h2 : 16 < m := by omega
    clear hb
    go_enter Tryd.func29, Tryd.ntmps29
    go_wp2_with (go_at_call 45; refine (given_yes hm.out).mono ?_; rintro e w' ⟨rfl, rfl⟩)
    go_ret2
    exact ⟨rfl, rfl⟩
set_option maxHeartbeats 1000000 in
set_option maxRecDepth 100000 in
theorem shards_none {W : World} {p : Nat} (h : RingIs W p []) (m : Nat) (h1 : 1 ≤ m) (h2 : m ≤ 16) : Calls Tryd.prog 29 #[.pointer (some ⟨p, 0, none⟩), .int .i64 m] W fun e w' => e = .returned (.tuple #[.slice none 0 0, .int .i64 3]) ∧ Below W.heap.size W w' := by
  have HP := Aside0.mk h
  have hm := Aside0.mk h.made
  have h1' : (1 : Int) ≤ (m : Int) := by omega
  have h2' : (m : Int) ≤ 16 := by omega
  have h3' : (0 : Int) < (m : Int) := by omega
  clear h
  go_enter Tryd.func29, Tryd.ntmps29
  go_wp2_with (go_at_call 45; refine (given_yes hm.out).mono ?_; rintro e w' ⟨rfl, rfl⟩)
  refine wp_loop_rounds 1 ?_
  rw [rounds_succ]
  go_wp2_with fail
  refine (spot_small kShard 0 m _ (by decide) (by omega) (by omega)).mono ?_
  rintro e w' ⟨rfl, hb⟩
  have hsr := spot_range kShard 0 m
  obtain ⟨hs0, hs1⟩ := hsr
  generalize spot kShard 0 m = sp at *
  have HB := Aside0.mk hb
  clear hb
  go_wp2_with fail
  refine (home_none (HP.out.below HB.out) sp hs0 hs1).mono ?_
  rintro e w2 ⟨rfl, rfl⟩
  go_wp2_with fail
  go_ret2
  exact ⟨rfl, HB.out⟩
set_option maxHeartbeats 1000000 in
set_option maxRecDepth 100000 in
theorem shards_some {W : World} {p : Nat} {l : List (Int × Int)} (h : RingIs W p l) (hl : 0 < l.length) (m : Nat) (h1 : 1 ≤ m) (h2 : m ≤ 16) : Calls Tryd.prog 29 #[.pointer (some ⟨p, 0, none⟩), .int .i64 m] W (ShardsDone l m W) := by
  have HP := Aside0.mk h
  have hm := Aside0.mk h.made
  have h1' : (1 : Int) ≤ (m : Int) := by omega
  have h2' : (m : Int) ≤ 16 := by omega
  obtain ⟨i0, hi, hz0, hz1, hz2⟩ := info_parts info3
  have HI := Aside0.mk hi
  have HZ0 := Aside0.mk hz0
  have HZ1 := Aside0.mk hz1
  have HZ2 := Aside0.mk hz2
  clear h hi hz0 hz1 hz2
  go_enter Tryd.func29, Tryd.ntmps29
  go_wp2_with (go_at_call 45; refine (given_yes hm.out).mono ?_; rintro e w' ⟨rfl, rfl⟩)
  go_loopw [6, 22] (fun o i wr => ∃ (A : Option Addr) (cap : Nat) (out : List Int), out.length ≤ m ∧ o = .slice A out.length cap ∧ i = .int .i64 (out.length : Int) ∧ Aside0 (∀ s (hs : s < out.length), IsHome l (spot kShard s m) out[s]) ∧ Aside0 (wr.ownsRow W.heap.size 3 1 (.slice A out.length cap) out.length (nums .i64 out)) ∧ Aside0 (Below W.heap.size W wr)) (fun _ i _ => m - (intOf i).toNat)
  case atStart => exact ⟨none, 0, [], by simp, rfl, rfl, ⟨fun s hs => by simp at hs⟩, ⟨own_nil _ _ _ _⟩, ⟨Below.refl _ _⟩⟩
  case round =>
    obtain ⟨A, cap, out, hk, rfl, rfl, HH, HO, HB⟩ := hrel
    by_cases hlt : out.length < m
    · have hlt' : (out.length : Int) < (m : Int) := by omega
      go_wp2_with fail
      refine (spot_small kShard out.length m _ (by decide) (by omega) (by omega)).mono ?_
      rintro e w1 ⟨rfl, hb⟩
      have hsr := spot_range kShard out.length m
      obtain ⟨hs0, hs1⟩ := hsr
      obtain ⟨sp, hsp⟩ : ∃ sp, spot kShard out.length m = sp := ⟨_, rfl⟩
      rw [hsp] at hs0 hs1 ⊢
      have HSP := Aside0.mk hsp
      have HB1 : Aside0 (Below W.heap.size W w1) := ⟨below_then HB.out HB.out.size hb⟩
      have HO1 : Aside0 (w1.ownsRow W.heap.size 3 1 (.slice A out.length cap) out.length (nums .i64 out)) := ⟨own_move HO.out (fun k hk => hb.block k (own_lt HO.out k hk))⟩
      clear hb hsp
      go_wp2_with fail
      refine (home_some (HP.out.below HB1.out) hl sp hs0 hs1).mono ?_
      rintro e w2 ⟨⟨n, rfl, hn⟩, hb⟩
      have HN : Aside0 (∀ s (hs : s < (out ++ [n]).length), IsHome l (spot kShard s m) (out ++ [n])[s]) := ⟨fun s hs => by
        rcases Nat.lt_or_ge s out.length with h | h
        · rw [List.getElem_append_left h]; exact HH.out s h
        · have e : s = out.length := by simp at hs; omega
          subst e
          rw [List.getElem_append_right (Nat.le_refl _), HSP.out]
          simpa using hn⟩
      have HB2 : Aside0 (Below W.heap.size W w2) := ⟨below_then HB1.out HB1.out.size hb⟩
      have HO2 : Aside0 (w2.ownsRow W.heap.size 3 1 (.slice A out.length cap) out.length (nums .i64 out)) := ⟨own_move HO1.out (fun k hk => hb.block k (own_lt HO1.out k hk))⟩
      have HSZ := Aside0.mk HB2.out.size
      clear hb hn
      go_wp2_with (at_builtin; refine wpList_append_mine rfl _ _ 22 rfl W.heap.size 3 i0 (.int .i64 0) 1 8 Tryd.underlying22 HI.out HZ0.out HZ1.out HZ2.out rfl (by decide) (.slice A out.length cap) out.length (nums .i64 out) rfl (own_alloc HO2.out _) ⟨w2.heap.size, 0, none⟩ 1 1 [.int .i64 n] rfl rfl (cell_one_new _ _ _) (by intro u hu; simp at hu; rw [hu]; rfl) (out ++ [n]).length (by simp) (by simp [maxLen]; omega) (by simp; omega) (by have := HSZ.out; simp; omega) ?_; intro A3 c3 w4 r1 r2 r3)
      rw [nums_app] at r1
      have HO4 := Aside0.mk r1
      have HB4 : Aside0 (Below W.heap.size W w4) := ⟨(below_alloc HB2.out _).grown r2 (by have := HSZ.out; simp; omega) (fun k hk => own_base HO2.out k hk)⟩
      clear r1 r2 r3
      go_roundw
      case rel => exact ⟨A3, c3, out ++ [n], by simp; omega, by simp, by simp, HN, HO4, HB4⟩
      case measure => simp [intOf]; omega
    · have ek : out.length = m := by omega
      subst ek
      have hlt' : ¬ (out.length : Int) < (out.length : Int) := by omega
      go_wp2_with fail
      go_ret2
      exact ⟨⟨A, cap, out, rfl, ⟨rfl, HH.out⟩, HO.out⟩, HB.out⟩
end Go.Proofs.YthnonapfkobdcaaDoor.Ri
