/- slices.Sort on a row of the call's own. -/
import Derived.Test.YtncmkcdnlcmiaaaSo
import Derived.Test.YtncmkcdnlcmiaaaWhA
namespace Go.Proofs.Ytncmkcdnlcmiaaa.Wh
open Go.RowKit Mb Go.Proofs.YtncmkcdnlcmiaaaW.PrintWords Go.Proofs.YtncmkcdnlcmiaaaW.PrintLast Go.Proofs.YtncmkcdnlcmiaaaW.PrintMore
set_option linter.unusedVariables false
set_option linter.unusedSimpArgs false

def sorted (xs : List Int) : List Int := xs.mergeSort fun x y => decide (x ≤ y)

theorem put_take (xs ys : List Int) (hl : ys.length = xs.length) (cur : Array Value) (hs : xs.length ≤ cur.size) :
    (Sort.putCells (Value.int .i64) 0 ys.toArray cur).toList.take xs.length = nums .i64 ys := by
  apply List.ext_getElem?
  intro i
  by_cases h : i < xs.length
  · have h2 : i < cur.size := by omega
    have h3 : i < ys.length := by omega
    rw [List.getElem?_take, if_pos h]
    simp [Sort.putCells, nums, h2, h3, List.getElem?_eq_getElem h3]
  · rw [List.getElem?_take, if_neg h]
    rw [List.getElem?_eq_none (by simp [nums]; omega)]

theorem sort_own (W : World) (B : Nat) (A : Option Addr) (c : Nat) (xs : List Int) (h : W.ownsRow B 3 1 (.slice A xs.length c) xs.length (nums .i64 xs)) (hl : xs.length ≤ 1048576) :
    Calls Try.prog 24 #[.slice A xs.length c] W fun e w' => e = .returned (.tuple #[]) ∧ w'.ownsRow B 3 1 (.slice A xs.length c) xs.length (nums .i64 (sorted xs)) ∧ Turns (fun i => (Value.slice A xs.length c).ownBlock = some i) W w' := by
  obtain ⟨h1, h2⟩ := h
  have hsl : (sorted xs).length = xs.length := by unfold sorted; simp
  rcases h2 with ⟨e1, e2⟩ | ⟨g, cap, cur, e1, h2, h3, h4, h5, h6, h7⟩
  · have e3 : xs = [] := List.eq_nil_of_length_eq_zero e2
    subst e3
    cases e1
    refine (sort_none none 0 W).mono ?_
    rintro e w' ⟨rfl, rfl⟩
    have e0 : sorted [] = [] := by unfold sorted; simp
    exact ⟨rfl, by rw [e0]; exact own_nil _ _ _ _, Turns.refl _ _⟩
  · cases e1
    have hg : g < W.heap.size := blk_lt h3
    have hH : Sort.Holds (Value.int .i64) W g 0 xs.toArray := by
      intro j hj
      have hj' : j < xs.length := by simpa using hj
      refine ⟨?_, by simp [World.frozen?, h3]⟩
      rw [blk_cell h3]
      have e9 : (cur.toList.take (xs.length * 1))[j]? = (nums .i64 xs)[j]? := by rw [h7]
      rw [List.getElem?_take, if_pos (by omega)] at e9
      rw [Array.getElem?_toList] at e9
      rw [Nat.zero_add, e9]
      simp [nums, hj']
    refine (sort_ints g 0 c xs W hH hg (by omega)).mono ?_
    rintro e w' ⟨rfl, n, os, rfl⟩
    have hb : (Sort.grow (Sort.putRow (Value.int .i64) (Sort.ahead W n) g 0 (sorted xs).toArray) os).heap[g]? = some (.cells (Sort.putCells (Value.int .i64) 0 (sorted xs).toArray cur) 3 (0, 0)) := by
      rw [Sort.heap_grow_old _ _ (by simpa using hg)]
      simp [Sort.putRow, Sort.mapBlock, Array.getElem?_modify, h3, Sort.onCells]
    refine ⟨rfl, ⟨by simp [nums, hsl], .inr ⟨g, c, _, rfl, h2, hb, h4, h5, by simpa [Sort.putCells] using h6, ?_⟩⟩, rfl, rfl, rfl, by simp [Sort.grow], ?_⟩
    · rw [Nat.mul_one]
      exact put_take xs (sorted xs) hsl cur (by omega)
    · intro k hk hne
      have hne' : g ≠ k := fun e => hne (by rw [e]; rfl)
      rw [Sort.heap_grow_old _ _ (by simpa using hk)]
      simp [Sort.putRow, Sort.mapBlock, Array.getElem?_modify, hne']

end Go.Proofs.Ytncmkcdnlcmiaaa.Wh
