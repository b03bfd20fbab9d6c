/-
  A LIST OF INSTRUCTIONS AS ONE ROW OF CELLS.
-/
import Derived.Test.YtdkhbnkhpebkkaaDoorDec
namespace Go.Proofs.YtdkhbnkhpebkkaaDoor
set_option linter.unusedSimpArgs false
set_option linter.unusedVariables false
open Go.RowKit
def flat : List Ins → List Value
  | [] => []
  | i :: l => .int .u8 (N8 i.o) :: .int .u8 (N8 i.a) :: .int .u8 (N8 i.b) :: .int .u8 (N8 i.c) :: flat l
theorem flat_len (l : List Ins) : (flat l).length = l.length * 4 := by
  induction l with
  | nil => rfl
  | cons i l ih => simp [flat, ih]; omega
theorem flat_app (l m : List Ins) : flat (l ++ m) = flat l ++ flat m := by
  induction l with
  | nil => rfl
  | cons i l ih => simp [flat, ih]
theorem flat_one (l : List Ins) : ∀ u ∈ flat l, u.oneCell' = true := by
  induction l with
  | nil => intro u hu; cases hu
  | cons i l ih =>
    intro u hu
    simp only [flat, List.mem_cons] at hu
    rcases hu with rfl | rfl | rfl | rfl | hu
    · rfl
    · rfl
    · rfl
    · rfl
    · exact ih u hu
theorem flat_get : ∀ (l : List Ins) (k j : Nat) (i : Ins) (v : Value), l[k]? = some i → (insA i)[j]? = some v → (flat l)[k * 4 + j]? = some v
  | [], k, j, i, v, h, _ => by simp at h
  | x :: l, 0, j, i, v, h, hv => by
    obtain rfl : x = i := by simpa using h
    rw [Nat.zero_mul, Nat.zero_add]
    rcases j with _ | _ | _ | _ | j
    · simpa [flat] using hv
    · simpa [flat] using hv
    · simpa [flat] using hv
    · simpa [flat] using hv
    · simp at hv
  | x :: l, k + 1, j, i, v, h, hv => by
    have := flat_get l k j i v (by simpa using h) hv
    rw [show (k + 1) * 4 + j = k * 4 + j + 4 by omega]
    simpa [flat] using this
theorem flat_inv {l : List Ins} {x : Nat} {u : Value} (h : (flat l)[x]? = some u) : ∃ k i j, l[k]? = some i ∧ (insA i)[j]? = some u ∧ x = k * 4 + j := by
  have hx : x < (flat l).length := by
    rcases Nat.lt_or_ge x (flat l).length with h1 | h1
    · exact h1
    · rw [List.getElem?_eq_none h1] at h; cases h
  rw [flat_len] at hx
  have hk : x / 4 < l.length := by omega
  have hj : x % 4 < (insA l[x / 4]).size := by simp; omega
  refine ⟨x / 4, l[x / 4], x % 4, List.getElem?_eq_getElem hk, ?_, by omega⟩
  have h2 := flat_get l (x / 4) (x % 4) _ _ (List.getElem?_eq_getElem hk) (Array.getElem?_eq_getElem hj)
  rw [show x / 4 * 4 + x % 4 = x by omega, h] at h2
  rw [Array.getElem?_eq_getElem hj]
  exact h2.symm
theorem IRd.reads {w : World} {A : Option Addr} {n : Nat} {l : List Ins} (h : IRd w A n l) : Reads w w.heap.size 4 A n (flat l) := by
  refine ⟨by rw [flat_len, h.len], fun hn => ?_⟩
  obtain ⟨ad, i, e, hi, hc⟩ := h.at_ hn
  refine ⟨ad, e, ?_, fun j u hu => ?_⟩
  · have := block_lt_of_cell (hc 0 _ rfl)
    rwa [block_of_add, block_of_add] at this
  · obtain ⟨k, i, j, hk, hj, rfl⟩ := flat_inv hu
    obtain ⟨ad', e', hc'⟩ := h.cells k i hk
    rw [e] at e'
    injection e' with e'
    subst e'
    rw [← add_of_add]
    exact hc' j u hj
theorem own_ird {w : World} {base n c : Nat} {A : Option Addr} {l : List Ins} (h : w.ownsRow base 46 4 (.slice A n c) n (flat l)) (hl : l.length = n) : IRd w A n l := by
  refine ⟨hl, fun k i hk => ?_⟩
  have hkl : k < l.length := by
    rcases Nat.lt_or_ge k l.length with h1 | h1
    · exact h1
    · rw [List.getElem?_eq_none h1] at hk; cases hk
  obtain ⟨g, cap, hv, _, _⟩ := h.form (by omega)
  injection hv with e1
  subst e1
  refine ⟨_, rfl, fun j v hj => ?_⟩
  rw [add_of_add]
  exact h.cells (g := g) rfl _ _ (flat_get l k j i v hk hj)
theorem own_empty (w : World) (base : Nat) (hb : base ≤ w.heap.size) : (w.alloc (.cells #[] 46)).ownsRow base 46 4 (.slice (some ⟨w.heap.size, 0, none⟩) 0 0) 0 (flat []) :=
  ⟨rfl, .inr ⟨w.heap.size, 0, #[], rfl, hb, heap_alloc_new w _, Nat.le_refl _, Nat.zero_le _, rfl, rfl⟩⟩
end Go.Proofs.YtdkhbnkhpebkkaaDoor
