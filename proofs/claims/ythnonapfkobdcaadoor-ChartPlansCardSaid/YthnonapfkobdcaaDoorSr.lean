/- A row of places is sorted. -/
import Derived.Test.YthnonapfkobdcaaDoorLy
import Derived.Test.YthnonapfkobdcaaDoorCm
import Derived.Test.YthnonapfkobdcaaDoorSh
import Derived.Test.YthnonapfkobdcaaDoorMb
namespace Go.Proofs.YthnonapfkobdcaaDoor.Ri
open Go.RowKit Cr Rg Go.Sort Go.Proofs.YthnonapfkobdcaaDoorW.PrintWords Go.Proofs.YthnonapfkobdcaaDoorW.PrintLast Go.Proofs.YthnonapfkobdcaaDoorW.PrintMore
set_option linter.unusedVariables false
set_option linter.unusedSimpArgs false

/-- Outside of F nothing that was there has turned. -/
structure Turns (F : Nat → Prop) (w w' : World) : Prop where
  os : w'.os = w.os
  tape : w'.tape = w.tape
  output : w'.output = w.output
  size : w.heap.size ≤ w'.heap.size
  block : ∀ k, k < w.heap.size → ¬ F k → w'.heap[k]? = w.heap[k]?
theorem Turns.refl (F : Nat → Prop) (w : World) : Turns F w w := ⟨rfl, rfl, rfl, Nat.le_refl _, fun _ _ _ => rfl⟩
theorem Turns.below {F : Nat → Prop} {a b : World} {B : Nat} (h : Turns F a b) (hB : B ≤ a.heap.size) (hF : ∀ i, F i → B ≤ i) : Below B a b := ⟨h.os, h.tape, h.output, h.size, fun i hi => h.block i (by omega) (fun hf => by have := hF i hf; omega)⟩
theorem Turns.cell {F : Nat → Prop} {a b : World} (h : Turns F a b) {p : Addr} {v : Value} (hc : a.cell? p = some v) (hp : ¬ F p.block) : b.cell? p = some v := (World.cell?_of_block (h.block _ (World.block_lt_of_cell? a p hc) hp)).trans hc

def encP (x : Int × Int) : List Value := [.int .i64 x.1, .int .i64 x.2]
def prs (l : List (Int × Int)) : List Value := l.flatMap encP
theorem prs_app (a b : List (Int × Int)) : prs (a ++ b) = prs a ++ prs b := by simp [prs]
theorem prs_len (l : List (Int × Int)) : (prs l).length = l.length * 2 := by
  induction l with
  | nil => rfl
  | cons x l ih => simp only [prs, List.flatMap_cons, List.length_append, List.length_cons] at ih ⊢; rw [ih]; simp [encP]; omega
theorem prs_get (l : List (Int × Int)) : ∀ t, t < l.length * 2 → (prs l)[t]? = some ((encP l.toArray[t / 2]!)[t % 2]!) := by
  induction l with
  | nil => intro t h; simp at h
  | cons x l ih =>
    intro t h
    have e : prs (x :: l) = .int .i64 x.1 :: .int .i64 x.2 :: prs l := rfl
    rw [e]
    match t with
    | 0 => simp [encP]
    | 1 => simp [encP]
    | t + 2 =>
      have h' : t < l.length * 2 := by simp at h; omega
      rw [List.getElem?_cons_succ, List.getElem?_cons_succ, ih t h', show (t + 2) / 2 = t / 2 + 1 by omega, show (t + 2) % 2 = t % 2 by omega]
      have h3 : t / 2 < l.length := by omega
      have h4 : t / 2 + 1 < (x :: l).length := by simp; omega
      rw [getElem!_pos l.toArray (t / 2) (by simpa using h3), getElem!_pos (x :: l).toArray (t / 2 + 1) (by simpa using h4)]
      simp

theorem swo_cf : SWO (ltOf cf) where
  irrefl x := by unfold ltOf; rw [cf_lt]; simp [lt]
  trans x y z h1 h2 := by unfold ltOf at *; rw [cf_lt] at *; simp [lt] at *; omega
  ntrans x y z h1 h2 := by unfold ltOf at *; rw [cf_lt] at *; simp [lt] at *; omega
theorem tot_cf (x y : Int × Int) (h1 : ltOf cf x y = false) (h2 : ltOf cf y x = false) : x = y := by
  unfold ltOf at *; rw [cf_lt] at *; simp [lt] at *
  exact Prod.ext (by omega) (by omega)
theorem srt_cf (l : List (Int × Int)) : (l.mergeSort fun x y => !(ltOf cf) y x) = srt l := by
  unfold srt
  congr 1
  funext x y
  unfold ltOf; rw [cf_lt]
theorem cmp_lays (blk off size : Nat) (w : World) : CmpLays Tryd.prog 42 #[] encP 2 cf blk off size w := fun m os dk _ x y => cmp_calls x y _

set_option maxHeartbeats 400000 in
theorem sort_pl (W : World) (B : Nat) (A : Option Addr) (c : Nat) (l : List (Int × Int)) (h : W.ownsRow B 74 2 (.slice A l.length c) l.length (prs l)) (hl : l.length ≤ 1000000) :
    Calls Tryd.prog 41 #[.slice A l.length c, .func (.func 42) #[] #[]] W fun e w' => e = .returned (.tuple #[]) ∧ ReadsRow P2 2 w' A (srt l).length (srt l) ∧ Turns (fun i => (Value.slice A l.length c).ownBlock = some i) W w' := by
  obtain ⟨h1, h2⟩ := h
  rcases h2 with ⟨e1, e2⟩ | ⟨g, cap, cur, e1, h2, h3, h4, h5, h6, h7⟩
  · have e3 : l = [] := List.eq_nil_of_length_eq_zero e2
    subst e3
    cases e1
    refine (AnyF.slices_SortFunc_none (ρ := Tryd.sortPl_ren) { Tryd.sortPl with } none 0 (.func (.func 42) #[] #[]) W).mono ?_
    rintro e w' ⟨rfl, rfl⟩
    have e0 : srt [] = [] := by unfold srt; simp
    exact ⟨rfl, by rw [e0]; exact ⟨rfl, by simp, fun h => by simp at h⟩, Turns.refl _ _⟩
  · cases e1
    have hg : g < W.heap.size := blk_lt h3
    have hH : HoldsK encP 2 W g 0 l.toArray := by
      intro t ht
      have ht' : t < l.length * 2 := by simpa using ht
      refine ⟨?_, by simp [World.frozen?, h3]⟩
      rw [get_flatK _ _ _ _ (by simpa using ht'), blk_cell h3, Nat.zero_add]
      have e9 : (cur.toList.take (l.length * 2))[t]? = (prs l)[t]? := by rw [h7]
      rw [List.getElem?_take, if_pos ht', Array.getElem?_toList, prs_get l t ht'] at e9
      exact e9
    have hmain := AnyQ.slices_SortFunc_total Tryd.sortPl 2 Tryd.isAgg74 Tryd.sizeOf74 encP (fun _ => rfl) (fun x v hv => by simp [encP] at hv; rcases hv with rfl | rfl <;> rfl) cf swo_cf 42 #[] g 0 c l.toArray W
      (enters_of Tryd.func42 (by kernel_rfl) rfl) (cmp_lays _ _ _ _) hH hg (by simp; omega) tot_cf
    change Calls Tryd.prog 41 _ _ _ at hmain
    refine hmain.mono ?_
    rintro e w' ⟨rfl, n, os, rfl⟩
    rw [srt_cf]
    have hsz : (srt l).toArray.size = l.toArray.size := by simp [srt_len]
    have hH2 := holdsK_sortWorldK_c encP 2 W g 0 l.toArray (srt l).toArray n os hH hg hsz
    refine ⟨rfl, ⟨rfl, by rw [srt_len]; omega, fun _ => ⟨_, rfl, fun k x hk => ?_⟩⟩, rfl, rfl, rfl, size_sortWorldK_c _ _ _ _ _ _ _ _, ?_⟩
    · have hk' : k < (srt l).length := (List.getElem?_eq_some_iff.1 hk).1
      have hx : (srt l).toArray[k]! = x := by
        rw [getElem!_pos _ k (by simpa using hk')]
        have := (List.getElem?_eq_some_iff.1 hk).2
        simpa using this
      refine ⟨encP x, rfl, rfl, fun i v hv => ?_⟩
      have hi : i < 2 := (List.getElem?_eq_some_iff.1 hv).1
      have := (hH2.cell (i := k) (c := i) (by simpa using hk') hi).1
      rw [hx] at this
      have e8 : (⟨g, 0, none⟩ : Addr).add (k * 2 + i) = ⟨g, 0 + k * 2 + i, none⟩ := by simp [Addr.add]; try omega
      rw [e8]
      refine this.trans ?_
      rw [getElem!_pos _ i hi]
      exact (List.getElem?_eq_getElem hi).symm.trans hv
    · intro k hk hne
      have hne' : g ≠ k := fun e => hne (by rw [e]; rfl)
      unfold sortWorldK
      rw [Sort.heap_grow_old _ _ (by rw [size_putRowK]; exact hk)]
      simp [putRowK, putRow, mapBlock, Array.getElem?_modify, hne']
end Go.Proofs.YthnonapfkobdcaaDoor.Ri
