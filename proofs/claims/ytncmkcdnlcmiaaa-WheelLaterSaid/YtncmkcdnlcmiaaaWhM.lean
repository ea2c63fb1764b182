/- A wheel with numbers 0, 1, .. : what it holds, by the list of their ticks. -/
import Derived.Test.YtncmkcdnlcmiaaaWhL
namespace Go.Proofs.Ytncmkcdnlcmiaaa.Wh
open Go.RowKit Mb Go.Proofs.YtncmkcdnlcmiaaaW.PrintWords Go.Proofs.YtncmkcdnlcmiaaaW.PrintLast Go.Proofs.YtncmkcdnlcmiaaaW.PrintMore
set_option linter.unusedVariables false
set_option linter.unusedSimpArgs false

def dL (ds : List Int) (now : Int) : Int → Option Int := fun x => if 0 ≤ x ∧ x < (ds.length : Int) ∧ now < rd ds x then some (rd ds x) else none
def cnt (ds : List Int) (now : Int) : Nat := (ds.filter (fun d => decide (now < d))).length
def idxF : Nat → List Int → Int → List Int
  | _, [], _ => []
  | i, d :: ds, t => if d = t then (i : Int) :: idxF (i + 1) ds t else idxF (i + 1) ds t

theorem rd_nat (ds : List Int) (k : Nat) (h : k < ds.length) : rd ds (k : Int) = ds[k] := by unfold rd; rw [Int.toNat_natCast, List.getD_eq_getElem?_getD, List.getElem?_eq_getElem h]; rfl
theorem idxF_ge : ∀ (ds : List Int) (i : Nat) (t : Int), ∀ x ∈ idxF i ds t, (i : Int) ≤ x
  | [], _, _, x, h => by simp [idxF] at h
  | d :: ds, i, t, x, h => by
    unfold idxF at h
    split at h
    · rcases List.mem_cons.1 h with h | h
      · omega
      · have := idxF_ge ds (i + 1) t x h; omega
    · have := idxF_ge ds (i + 1) t x h; omega
theorem idxF_rising : ∀ (ds : List Int) (i : Nat) (t : Int), (idxF i ds t).Pairwise (· < ·)
  | [], _, _ => by simp [idxF]
  | d :: ds, i, t => by
    unfold idxF
    split
    · refine List.pairwise_cons.2 ⟨fun x hx => ?_, idxF_rising ds (i + 1) t⟩
      have := idxF_ge ds (i + 1) t x hx; omega
    · exact idxF_rising ds (i + 1) t
theorem idxF_mem : ∀ (ds : List Int) (i : Nat) (t x : Int), x ∈ idxF i ds t ↔ ∃ j : Nat, x = ((i + j : Nat) : Int) ∧ ds[j]? = some t
  | [], i, t, x => by simp [idxF]
  | d :: ds, i, t, x => by
    have ih := idxF_mem ds (i + 1) t x
    have key : (∃ j : Nat, x = ((i + 1 + j : Nat) : Int) ∧ ds[j]? = some t) ↔ ∃ j : Nat, x = ((i + (j + 1) : Nat) : Int) ∧ (d :: ds)[j + 1]? = some t := by
      constructor
      · rintro ⟨j, h1, h2⟩; exact ⟨j, by omega, by simpa using h2⟩
      · rintro ⟨j, h1, h2⟩; exact ⟨j, by omega, by simpa using h2⟩
    unfold idxF
    split
    · next e =>
      rw [List.mem_cons, ih, key]
      constructor
      · rintro (h | ⟨j, h1, h2⟩)
        · exact ⟨0, by omega, by simp [e]⟩
        · exact ⟨j + 1, h1, h2⟩
      · rintro ⟨j, h1, h2⟩
        cases j with
        | zero => exact .inl (by omega)
        | succ j => exact .inr ⟨j, h1, h2⟩
    · next e =>
      rw [ih, key]
      constructor
      · rintro ⟨j, h1, h2⟩; exact ⟨j + 1, h1, h2⟩
      · rintro ⟨j, h1, h2⟩
        cases j with
        | zero => simp at h2; exact absurd h2 e
        | succ j => exact ⟨j, h1, h2⟩
theorem idxF_out (ds : List Int) (now : Int) : IsOut (dL ds now) (now + 1) (idxF 0 ds (now + 1)) := by
  refine ⟨idxF_rising ds 0 _, fun x => ?_⟩
  rw [idxF_mem]
  unfold dL
  constructor
  · rintro ⟨j, h1, h2⟩
    obtain ⟨hj, h3⟩ := List.getElem?_eq_some_iff.1 h2
    have e : x = (j : Int) := by omega
    subst e
    rw [rd_nat ds j hj, h3, if_pos ⟨by omega, by omega, by omega⟩]
  · intro h
    split at h
    · next hc =>
      obtain ⟨j, rfl⟩ : ∃ j : Nat, x = (j : Int) := ⟨x.toNat, by omega⟩
      have hj : j < ds.length := by omega
      rw [rd_nat ds j hj] at h
      exact ⟨j, by omega, by rw [List.getElem?_eq_getElem hj]; exact h⟩
    · cases h
theorem cnt_cons (d : Int) (ds : List Int) (now : Int) : cnt (d :: ds) now = (if now < d then 1 else 0) + cnt ds now := by
  unfold cnt
  rw [List.filter_cons]
  by_cases h : now < d
  · simp [h]; omega
  · simp [h]
theorem idxF_cons (d : Int) (ds : List Int) (i : Nat) (t : Int) : (idxF i (d :: ds) t).length = (if d = t then 1 else 0) + (idxF (i + 1) ds t).length := by
  rw [idxF]
  split
  · simp; omega
  · simp
theorem idxF_len : ∀ (ds : List Int) (i : Nat) (now : Int), cnt ds now - (idxF i ds (now + 1)).length = cnt ds (now + 1) ∧ (idxF i ds (now + 1)).length ≤ cnt ds now
  | [], _, _ => by simp [cnt, idxF]
  | d :: ds, i, now => by
    have ih := idxF_len ds (i + 1) now
    rw [cnt_cons, cnt_cons, idxF_cons]
    split <;> split <;> split <;> omega
theorem dL_tick (ds : List Int) (now : Int) : tickD (dL ds now) (now + 1) = dL ds (now + 1) := by
  funext x
  unfold tickD dL
  by_cases h : 0 ≤ x ∧ x < (ds.length : Int)
  · by_cases h1 : now < rd ds x
    · rw [if_pos (show 0 ≤ x ∧ x < (ds.length : Int) ∧ now < rd ds x from ⟨h.1, h.2, h1⟩)]
      by_cases h2 : rd ds x = now + 1
      · rw [if_pos (by rw [h2]), if_neg (by omega)]
      · rw [if_neg (by simpa using h2), if_pos ⟨h.1, h.2, by omega⟩]
    · rw [if_neg (show ¬ (0 ≤ x ∧ x < (ds.length : Int) ∧ now < rd ds x) from fun e => h1 e.2.2), if_neg (by simp), if_neg (by omega)]
  · rw [if_neg (show ¬ (0 ≤ x ∧ x < (ds.length : Int) ∧ now < rd ds x) from fun e => h ⟨e.1, e.2.1⟩), if_neg (by simp), if_neg (fun e => h ⟨e.1, e.2.1⟩)]
theorem dL_set (ds : List Int) (now k : Int) (hk : 1 ≤ k) : upd (dL ds now) (ds.length : Int) (some (now + k)) = dL (ds ++ [now + k]) now := by
  funext x
  unfold upd dL
  by_cases e : x = (ds.length : Int)
  · subst e
    have e1 : rd (ds ++ [now + k]) (ds.length : Int) = now + k := by rw [rd_nat _ _ (by simp)]; simp
    rw [if_pos rfl, e1, if_pos ⟨by omega, by simp; omega, by omega⟩]
  · rw [if_neg e]
    by_cases h : 0 ≤ x ∧ x < (ds.length : Int)
    · obtain ⟨j, rfl⟩ : ∃ j : Nat, x = (j : Int) := ⟨x.toNat, by omega⟩
      have hj : j < ds.length := by omega
      have e1 : rd (ds ++ [now + k]) (j : Int) = rd ds (j : Int) := by rw [rd_nat _ _ (by simp; omega), rd_nat _ _ hj, List.getElem_append_left hj]
      rw [e1]
      have e2 : ((ds ++ [now + k]).length : Int) = (ds.length : Int) + 1 := by simp
      rw [e2]
      by_cases h1 : now < rd ds (j : Int)
      · rw [if_pos ⟨by omega, by omega, h1⟩, if_pos ⟨by omega, by omega, h1⟩]
      · rw [if_neg (fun e => h1 e.2.2), if_neg (fun e => h1 e.2.2)]
    · rw [if_neg (fun e => h ⟨e.1, e.2.1⟩), if_neg (fun e2 => by have := e2.2.1; simp at this; omega)]
theorem dL_none (ds : List Int) (now x : Int) (h : (ds.length : Int) ≤ x) : dL ds now x = none := by unfold dL; rw [if_neg (by omega)]
theorem cnt_set (ds : List Int) (now k : Int) (hk : 1 ≤ k) : cnt (ds ++ [now + k]) now = cnt ds now + 1 := by
  unfold cnt
  rw [List.filter_append, List.length_append]
  have : decide (now < now + k) = true := decide_eq_true (by omega)
  simp [this]
theorem cnt_le (ds : List Int) (now : Int) : cnt ds now ≤ ds.length := List.length_filter_le _ _

structure Many (W : World) (F : Nat → Prop) (p : Nat) (now : Int) (ds : List Int) (c : Nat) : Prop where
  is : Whl W F p now (dL ds now) (cnt ds now) c
theorem many_new {W : World} {F : Nat → Prop} {p : Nat} (h : Whl W F p 0 (fun _ => none) 0 0) : Many W F p 0 [] 0 := ⟨by
  rw [show dL [] 0 = fun _ => none by funext x; unfold dL; rw [if_neg]; intro e; have := e.1; have := e.2.1; simp at this; omega]; exact h⟩
structure ManySet (W : World) (F : Nat → Prop) (p : Nat) (now : Int) (ds : List Int) (c : Nat) (e : Ending) (w' : World) : Prop where
  ret : e = .returned (.int .i64 0)
  ex : ∃ F', Many w' F' p now ds (c + 1) ∧ ∀ k, F' k → F k ∨ W.heap.size ≤ k
  turns : Turns F W w'
theorem many_set {W : World} {F : Nat → Prop} {p : Nat} {now : Int} {ds : List Int} {c : Nat} (h : Many W F p now ds c) (i k : Int) (hi : i = (ds.length : Int)) (h1 : 1 ≤ k) (h2 : k ≤ 64) (hl : ds.length ≤ 100) (hnow : 0 ≤ now) (hnow' : now ≤ 1048576) (hc : c ≤ 1048576) :
    Calls Try.prog 10 #[.pointer (some ⟨p, 0, none⟩), .int .i64 i, .int .i64 k] W (ManySet W F p now (ds ++ [now + k]) c) := by
  subst hi
  have hle := cnt_le ds now
  refine (wset h.is (ds.length : Int) k (wf_of (by omega) (by omega)) h1 (by omega) (.inr (by omega)) hnow (by omega) (by omega) hc).mono ?_
  rintro e w' ⟨rfl, ⟨F', h3, h4⟩, h5⟩
  rw [dL_set ds now k h1, show addN (dL ds now) (ds.length : Int) (cnt ds now) = cnt (ds ++ [now + k]) now by unfold addN; rw [dL_none ds now _ (by omega), cnt_set ds now k h1]; rfl] at h3
  exact ⟨rfl, ⟨F', ⟨h3⟩, h4⟩, h5⟩
structure ManyTick (W : World) (F : Nat → Prop) (p : Nat) (now : Int) (ds : List Int) (c : Nat) (e : Ending) (w' : World) : Prop where
  ret : ∃ Av cv, e = .returned (.slice Av (idxF 0 ds (now + 1)).length cv) ∧ w'.ownsRow W.heap.size 3 1 (.slice Av (idxF 0 ds (now + 1)).length cv) (idxF 0 ds (now + 1)).length (nums .i64 (idxF 0 ds (now + 1)))
  is : Many w' F p (now + 1) ds c
  turns : Turns F W w'
theorem many_tick {W : World} {F : Nat → Prop} {p : Nat} {now : Int} {ds : List Int} {c : Nat} (h : Many W F p now ds c) (hnow : 0 ≤ now) (hnow' : now ≤ 1048576) (hc : c ≤ 1048576) :
    Calls Try.prog 11 #[.pointer (some ⟨p, 0, none⟩)] W (ManyTick W F p now ds c) := by
  refine (wtick_is h.is hnow (by omega) hc _ (idxF_out ds now)).mono ?_
  rintro e w' ⟨h1, h2, h3⟩
  rw [dL_tick, (idxF_len ds 0 now).1] at h2
  exact ⟨h1, ⟨h2⟩, h3⟩

end Go.Proofs.Ytncmkcdnlcmiaaa.Wh
