/- WheelLater: tells; the due row beside the wheel. -/
import Derived.Test.YtncmkcdnlcmiaaaWhO
import Derived.Deep.RegionLawGrows
import Derived.Maps.AppendAt
namespace Go.Proofs.Ytncmkcdnlcmiaaa.Wh
open Go.RowKit Mb Go.Proofs.YtncmkcdnlcmiaaaW.PrintWords Go.Proofs.YtncmkcdnlcmiaaaW.PrintLast Go.Proofs.YtncmkcdnlcmiaaaW.PrintMore
set_option linter.unusedVariables false
set_option linter.unusedSimpArgs false

/-- An append to a row of the call's own, in the order of the text: whatever is appended, nothing too. -/
theorem wpList_append_mine {P : Program} {ops : Array Oper} {rest : List Oper} {o : Oper} {a : Act} {w : World} {Q : Exit → Act → World → Prop}
    (hgd : o.guard = none) (s x : Operand) (t : TypeId) (ho : o.op = Op.call { callee := Callee.builtin Builtin.append, args := #[s, x], argTypes := #[t, t] })
    (base : Nat) (e : TypeId) (i : TypeInfo) (z : Value) (size bytes : Nat) (ht : P.underlying t = some (.slice e)) (hi : P.info? e = some i) (hz : i.zero = some z) (hsize : i.size = size) (hby : i.bytes = bytes) (hzs : z.cells.size = size) (hsz : 0 < size)
    (v : Value) (n : Nat) (xs : List Value) (hs : a.eval s = v) (hown : w.ownsRow base e size v n xs)
    (ad : Addr) (m c : Nat) (news : List Value) (hx : a.eval x = .slice (some ad) m c) (hl : news.length = m * size) (hnews : ∀ j u, news[j]? = some u → w.cell? (ad.add j) = some u) (h1 : ∀ u ∈ news, u.oneCell' = true)
    (N : Nat) (hN : n + m = N) (h63 : N ≤ maxLen) (hbytes : N * bytes ≤ 140737488355328) (hbase : base ≤ w.heap.size)
    (hK : ∀ A' c' w', w'.ownsRow base e size (.slice A' N c') N (xs ++ news) → w.grownBy w' v.ownBlock → ((Value.slice A' N c').ownBlock = v.ownBlock ∨ (Value.slice A' N c').ownBlock = some w.heap.size) → wpList P ops Q rest (a.put o.dst (.slice A' N c')) w') : wpList P ops Q (o :: rest) a w := by
  subst hN
  refine wpList_plain hgd fun K hK' => ?_
  obtain ⟨v', w', hrun, r1, r2, _, r4⟩ := run_append_own_at (P := P) (w := w) base t o.type e i z size bytes ht hi hz hsize hby hzs hsz v n xs hown ad m c news hl hnews h1 h63 hbytes hbase
  obtain ⟨A', c', rfl⟩ := own_slice r1
  unfold Oper.wp
  simp [execOp, ho, resolve, invoke, builtin, hs, hx, hrun, Result.andThen]
  exact hK' _ _ (hK A' c' w' r1 r2 r4)

theorem nums_one (k : IntKind) (xs : List Int) : ∀ u ∈ nums k xs, u.oneCell' = true := by
  intro u hu
  obtain ⟨x, _, rfl⟩ := List.mem_map.1 hu
  rfl

/-- The cells of a readable row from a place on. -/
theorem C_from {w : World} {ad : Addr} {n : Nat} {xs : List Int} (h : Kd.C (Kd.int .i64) w (some ad) n xs) (k : Nat) :
    ∀ j u, (nums .i64 (xs.drop k))[j]? = some u → w.cell? ((ad.add k).add j) = some u := by
  intro j u hu
  rw [nums, List.getElem?_map] at hu
  obtain ⟨x, hx, rfl⟩ := Option.map_eq_some_iff.1 hu
  rw [List.getElem?_drop] at hx
  have hl : k + j < xs.length := (List.getElem?_eq_some_iff.1 hx).1
  obtain ⟨ad', e, hc⟩ := Kd.at_int h ((k + j : Nat) : Int) (by omega) (by have := h.1; omega)
  cases e
  rw [Int.toNat_natCast] at hc
  rw [Addr.add_add, hc]
  unfold rd
  rw [Int.toNat_natCast, List.getD_eq_getElem?_getD, hx]
  rfl


set_option maxRecDepth 100000 in
set_option maxHeartbeats 1000000 in
theorem tells_calls (w : World) (A0 A1 : Option Addr) (q c0 c1 : Nat) (ds : List Int) (now : Int) (hq : (idxF 0 ds now).length = q) (hr : Kd.C (Kd.int .i64) w A0 q (idxF 0 ds now)) (hd : Kd.C (Kd.int .i64) w A1 ds.length ds) (hl : ds.length ≤ 1000) :
    Calls Try.prog 14 #[.slice A0 q c0, .slice A1 ds.length c1, .int .i64 now] w fun e w' => e = .returned (.bool true) ∧ w = w' := by
  have hqle : q ≤ 1000 := by
    have h1 := (idxF_len ds 0 (now - 1)).2
    have h2 := cnt_le ds (now - 1)
    rw [show now - 1 + 1 = now by omega] at h1
    omega
  have HQL := Aside0.mk hq
  have HR := Aside0.mk hr
  have HD := Aside0.mk hd
  clear hq hr hd
  go_enter Try.func14, Try.ntmps14
  go_wp2_with fail
  go_loop [7, 8] (fun kk i => ∃ (a u : Nat), a ≤ ds.length ∧ i = .int .i64 a ∧ kk = .int .i64 u ∧ u ≤ q ∧ Aside0 ((idxF 0 (ds.take a) now).length = u)) (fun _ i => ds.length - (intOf i).toNat)
  case atStart => exact ⟨0, 0, by omega, rfl, rfl, by omega, ⟨rfl⟩⟩
  case round =>
    obtain ⟨a, u, ha, rfl, rfl, huq, HU⟩ := hrel
    by_cases hla : a < ds.length
    · have hla' : (a : Int) < (ds.length : Int) := by omega
      have ha0 : (0 : Int) ≤ (a : Int) := by omega
      obtain ⟨ad, ea, hx⟩ := at_nat HD.out a (by omega)
      cases ea
      by_cases hyj : ds[a] = now
      · have g1 : (ds[a] != now) = false := by rw [bne_eq_false_iff_eq]; exact hyj
        obtain ⟨hi1, hi2, hi3⟩ := idx_yes ds a now hla hyj
        have HI1 := Aside0.mk hi1
        have hi4 : u < q := by rw [HU.out, HQL.out] at hi2; exact hi2
        obtain ⟨ad2, ea2, hx2⟩ := at_nat (show Kd.C (Kd.int .i64) w A0 (idxF 0 ds now).length (idxF 0 ds now) from by rw [HQL.out]; exact HR.out) (idxF 0 (ds.take a) now).length hi2
        cases ea2
        rw [hi3, HU.out] at hx2
        have hi5 : (u : Int) < (q : Int) := by omega
        have hi6 : (0 : Int) ≤ (u : Int) := by omega
        clear hi1 hi2 hi3 hyj
        go_wp2_with fail
        go_round
        case rel => exact ⟨a + 1, u + 1, by omega, by go_num, by go_num, by omega, ⟨by rw [HI1.out, HU.out]⟩⟩
        case measure => simp [intOf]; omega
      · have g1 : (ds[a] != now) = true := by rw [bne_iff_ne]; exact hyj
        have hi1 := idx_no ds a now hla hyj
        have HI1 := Aside0.mk hi1
        clear hi1 hyj
        go_wp2_with fail
        go_round
        case rel => exact ⟨a + 1, u, by omega, by go_num, rfl, by omega, ⟨by rw [HI1.out, HU.out]⟩⟩
        case measure => simp [intOf]; omega
    · have ea : a = ds.length := by omega
      subst ea
      have hla' : ¬ (ds.length : Int) < (ds.length : Int) := by omega
      have huq2 : u = q := by
        have := HU.out
        rw [List.take_of_length_le (Nat.le_refl _), HQL.out] at this
        exact this.symm
      subst huq2
      go_wp2_with fail
      go_ret
      exact ⟨rfl, rfl⟩

structure Later (w W : World) (F : Nat → Prop) (p : Nat) (now : Int) (ds : List Int) (c : Nat) (du : List Int) (A : Option Addr) (cap : Nat) : Prop where
  many : Many W F p now ds c
  mine : Mine w W F
  row : W.ownsRow w.heap.size 3 1 (.slice A du.length cap) du.length (nums .i64 du)
  apart : ∀ k, (Value.slice A du.length cap).ownBlock = some k → ¬ F k
theorem Later.tick {w W W' : World} {F : Nat → Prop} {p : Nat} {now : Int} {ds : List Int} {c : Nat} {du : List Int} {A : Option Addr} {cap : Nat} (h : Later w W F p now ds c du A cap) (h2 : Many W' F p (now + 1) ds c) (ht : Turns F W W') : Later w W' F p (now + 1) ds c du A cap :=
  ⟨h2, h.mine.tick ht, own_move h.row (fun k hk => ht.block k (own_lt h.row k hk) (h.apart k hk)), h.apart⟩
theorem Later.set {w W W' : World} {F F' : Nat → Prop} {p : Nat} {now : Int} {ds ds' : List Int} {c c' : Nat} {du : List Int} {A : Option Addr} {cap : Nat} (h : Later w W F p now ds c du A cap) (h2 : Many W' F' p now ds' c') (hF : ∀ k, F' k → F k ∨ W.heap.size ≤ k) (ht : Turns F W W') : Later w W' F' p now ds' c' du A cap :=
  ⟨h2, h.mine.set ht hF, own_move h.row (fun k hk => ht.block k (own_lt h.row k hk) (h.apart k hk)), fun k hk hf => (hF k hf).elim (h.apart k hk) (fun h3 => by have := own_lt h.row k hk; omega)⟩
theorem Later.app {w W W' : World} {F : Nat → Prop} {p : Nat} {now : Int} {ds : List Int} {c : Nat} {du : List Int} {A A' : Option Addr} {cap cap' : Nat} {x : Int} (h : Later w W F p now ds c du A cap)
    (r1 : W'.ownsRow w.heap.size 3 1 (.slice A' (du ++ [x]).length cap') (du ++ [x]).length (nums .i64 (du ++ [x]))) (r2 : (W.alloc (.cells #[.int .i64 x] 3)).grownBy W' (Value.slice A du.length cap).ownBlock)
    (r3 : (Value.slice A' (du ++ [x]).length cap').ownBlock = (Value.slice A du.length cap).ownBlock ∨ (Value.slice A' (du ++ [x]).length cap').ownBlock = some (W.alloc (.cells #[.int .i64 x] 3)).heap.size) : Later w W' F p now ds c (du ++ [x]) A' cap' := by
  have t1 : Turns (fun i => (Value.slice A du.length cap).ownBlock = some i) W W' := ((Turns.refl (fun i => (Value.slice A du.length cap).ownBlock = some i) W).alloc _).trans (Turns.of_grown r2) (fun i hi => .inl hi)
  refine ⟨⟨h.many.is.move t1.size (fun k hk => t1.block k (h.many.is.lt k hk) (fun e => h.apart k e hk))⟩, ⟨h.mine.young, below_tr h.mine.below (t1.below h.mine.below.size (fun i hi => own_base h.row i hi))⟩, r1, fun k hk hf => ?_⟩
  rcases r3 with e | e
  · rw [e] at hk; exact h.apart k hk hf
  · rw [e] at hk
    have h1 := h.many.is.lt k hf
    have h2 : (W.alloc (.cells #[.int .i64 x] 3)).heap.size = W.heap.size + 1 := by simp
    simp only [Option.some.injEq] at hk
    omega
theorem nums_app (k : IntKind) (xs : List Int) (x : Int) : nums k xs ++ [Value.int k x] = nums k (xs ++ [x]) := by unfold nums; simp

end Go.Proofs.Ytncmkcdnlcmiaaa.Wh
