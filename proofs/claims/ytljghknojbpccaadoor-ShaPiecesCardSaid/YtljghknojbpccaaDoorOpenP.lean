/-
  A SLICE OF SLICES OF BYTES AS AN ARGUMENT, OPENED.
-/
import Derived.Test.YtljghknojbpccaaDoorTabs
import Derived.Test.YtljghknojbpccaaDoorLawP
import Derived.Deep.Slices
namespace Go.Proofs.YtljghknojbpccaaDoor
set_option linter.unusedSimpArgs false
set_option linter.unusedVariables false
open Go.ChangeShapes Go.WideShapes Go.ChangeAt Go.RowKit

theorem cells22 : Tryd.prog.cellsOf 22 = 1 := by kernel_rfl
theorem open_rd_cells {H : Type} {enc : TypeId × Value → H} {W : World} {v : Value} {fuel : Nat} {x : DataW H × List MemPlace}
    (hf : DataW.trod enc Tryd.prog W 0 (fun _ => true) true fuel 22 [v] = some x) :
    ∃ (A : Option Addr) (n c : Nat) (bs : List UInt8), v = .slice A n c ∧ Rd W A n bs ∧ n ≤ c ∧ n ≤ 9223372036854775807 := by
  rcases open_ints Tryd.underlying22 Tryd.underlying5 cells5 hf with ⟨hcs, _⟩ | ⟨a, n, c, zs, hcs, _, hnc, hm, hzl, _, hcell, hwf⟩
  · injection hcs with hv
    exact ⟨none, 0, 0, [], hv, ⟨rfl, fun h => by omega⟩, Nat.le_refl _, by omega⟩
  · injection hcs with hv
    rw [if_pos rfl] at hzl
    refine ⟨some a, n, c, (zs.take n).map fun z => UInt8.ofNat z.toNat, hv, ⟨by simp; omega, fun _ => ⟨a, rfl, fun j u hu => ?_⟩⟩, hnc, by simp only [maxLen] at hm; omega⟩
    have hj : j < n := Nat.lt_of_not_le fun hc' => by
      rw [List.getElem?_eq_none (by simp; omega)] at hu
      cases hu
    have hjz : j < zs.length := by omega
    rw [hcell j hjz]
    have hw := hwf _ (List.getElem_mem hjz)
    have hlo : 0 ≤ zs[j] ∧ zs[j] < 256 := by
      simp [Lit.wf, IntKind.min, IntKind.max, IntKind.signed, IntKind.bits] at hw
      omega
    have hn8 : N8 (UInt8.ofNat zs[j].toNat) = zs[j] := by
      unfold N8
      rw [UInt8.toNat_ofNat', Nat.mod_eq_of_lt (by omega)]
      omega
    simp only [List.map_map, List.map_take, List.getElem?_take, hj, if_pos, List.getElem?_map, List.getElem?_eq_getElem hjz, Option.map_some, Function.comp, Option.some.injEq] at hu
    rw [← hu, List.getD, List.getElem?_eq_getElem hjz, Option.getD_some]
    show _ = some (Value.int .u8 (N8 _))
    rw [hn8]

/-- A SLICE OF SLICES OF BYTES, OPENED. -/
theorem open_rdd {H : Type} {enc : TypeId × Value → H} {W : World} {base : Nat} {v : Value} {d : DataW H} {ps : List MemPlace}
    (hv : Value.okWide Tryd.prog W .any base 28 v) (h0 : DataW.Trod enc Tryd.prog W 0 (fun _ => true) true 28 v d ps) :
    ∃ (A : Option Addr) (n c : Nat) (bss : List (List UInt8)), v = .slice A n c ∧ Rdd W A n bss ∧ n ≤ c ∧ n ≤ 9223372036854775807 := by
  obtain ⟨A, n, c, rfl⟩ := okWide_slice Tryd.underlying28 hv
  obtain ⟨fuel, hf⟩ := h0
  rcases Go.Deep.open_slice1 Tryd.underlying28 cells22 hf with ⟨hcs, _⟩ | ⟨a, n', c', m, q, V, D, Pl, hcs, _, hnc, hm, hmm, _, hx⟩
  · simp [Value.cells] at hcs
    obtain ⟨rfl, rfl, rfl⟩ := hcs
    exact ⟨none, 0, 0, [], rfl, ⟨rfl, fun k h => by omega⟩, Nat.le_refl _, by omega⟩
  · simp [Value.cells] at hcs
    obtain ⟨rfl, rfl, rfl⟩ := hcs
    rw [if_pos rfl] at hmm
    subst hmm
    obtain ⟨B, hB⟩ := Go.Deep.choose_lt (α := List UInt8) (n := n) (p := fun k bs => ∃ A' n' c', V k = .slice A' n' c' ∧ Rd W A' n' bs ∧ n' ≤ c' ∧ n' ≤ 9223372036854775807) (fun i hi => by
      obtain ⟨A', n', c', bs, h1, h2, h3, h4⟩ := open_rd_cells (hx i (by omega)).2
      exact ⟨bs, A', n', c', h1, h2, h3, h4⟩)
    refine ⟨some a, n, m, (List.range n).map B, rfl, ⟨by simp, fun k hk => ?_⟩, hnc, by simp only [maxLen] at hm; omega⟩
    obtain ⟨A', n', c', h1, h2, h3, h4⟩ := hB k hk
    refine ⟨a, A', n', c', rfl, ?_, ?_, h3, h4⟩
    · rw [(hx k (by omega)).1, h1]
    · rw [List.getD_eq_getElem?_getD, List.getElem?_map, List.getElem?_range hk]
      exact h2
end Go.Proofs.YtljghknojbpccaaDoor
