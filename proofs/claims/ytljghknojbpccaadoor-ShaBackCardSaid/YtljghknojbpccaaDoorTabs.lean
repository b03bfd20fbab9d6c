/-
  WHAT A ROW GIVES: the two tables of the library, a slice of bytes opened; a world for a witness.
-/
import Derived.Test.YtljghknojbpccaaDoorCards
import Derived.Test.YtljghknojbpccaaDoorTie
import Derived.Test.YtljghknojbpccaaDoorLawA
import Derived.ProofKit
import Derived.OpenShut
import Derived.Deep.DeepHandedRow
import Derived.Lib.LaidTab
import Derived.Stop.LaidErr
namespace Go.Proofs.YtljghknojbpccaaDoor
set_option linter.unusedSimpArgs false
set_option linter.unusedVariables false
open Go.ChangeShapes Go.WideShapes Go.ChangeAt Go.RowKit

theorem gInit : Tryd.prog.globalNamed "nacelle/sha.initial" = some 0 := by kernel_rfl
theorem gKs : Tryd.prog.globalNamed "nacelle/sha.constants" = some 1 := by kernel_rfl
theorem gInitT : (Tryd.prog.globals[0]?).map (·.type) = some 44 := by kernel_rfl
theorem gKsT : (Tryd.prog.globals[1]?).map (·.type) = some 59 := by kernel_rfl
theorem cells44 : Tryd.prog.cellsOf 44 = 8 := by kernel_rfl
theorem cells59 : Tryd.prog.cellsOf 59 = 64 := by kernel_rfl
theorem cells5 : Tryd.prog.cellsOf 5 = 1 := by kernel_rfl
theorem cells43 : Tryd.prog.cellsOf 43 = 1 := by kernel_rfl
/-- the eight words, as a list -/
def initL : List UInt32 := [Sp.init.a, Sp.init.b, Sp.init.c, Sp.init.d, Sp.init.e, Sp.init.f, Sp.init.g, Sp.init.h]
abbrev laidL : List (String × DataW Unit) := [("nacelle/sha.initial", Rows.laid_nacelle_sha_initial), ("nacelle/sha.constants", Rows.laid_nacelle_sha_constants)]
theorem initD : (Rows.laid_nacelle_sha_initial : DataW Unit) = Lib.tabData .u32 (initL.map N32) := by kernel_rfl
theorem ksD : (Rows.laid_nacelle_sha_constants : DataW Unit) = Lib.tabData .u32 (Sp.ks.map N32) := by kernel_rfl
theorem s8V_list (s : Sp.S8) : (s8V s).toList = [s.a, s.b, s.c, s.d, s.e, s.f, s.g, s.h].map U32 := rfl
theorem ksLen : Sp.ks.length = 64 := by decide +kernel

/-- WHAT THE ROW's LIST GIVES. -/
theorem tables {W : World} (h : laidMetH Tryd.prog laidL W) : Tables W := by
  have h' : laidMet Tryd.prog laidL W := h
  have h2 := h'.tail
  rw [laidL, initD] at h'
  rw [ksD] at h2
  have t1 := Lib.tabIs_of_head gInit gInitT Tryd.underlying44 Tryd.underlying43 cells43 cells44 h'
  have t2 := Lib.tabIs_of_head gKs gKsT Tryd.underlying59 Tryd.underlying43 cells43 cells59 h2
  refine ⟨fun j v hj => ?_, fun j hj => ?_⟩
  · have hj' : j < 8 := Nat.lt_of_not_le fun hc => by
      rw [Array.getElem?_eq_none (show (s8V Sp.init).size ≤ j from hc)] at hj
      cases hj
    have hc := t1.cell gInit j (by simpa [initL] using hj')
    rw [hc, ← hj, ← Array.getElem?_toList, s8V_list]
    show _ = (initL.map U32)[j]?
    have hl : j < initL.length := hj'
    simp [List.getD, hl]
  · have hl : j < Sp.ks.length := by rw [ksLen]; exact hj
    have hc := t2.cell gKs j (by simpa using hl)
    rw [hc]
    simp [List.getD, hl]

/-- A SLICE OF BYTES, OPENED. -/
theorem open_rd {H : Type} {enc : TypeId × Value → H} {W : World} {base : Nat} {v : Value} {d : DataW H} {ps : List MemPlace}
    (hv : Value.okWide Tryd.prog W .any base 22 v) (h0 : DataW.Trod enc Tryd.prog W 0 (fun _ => true) true 22 v d ps) :
    ∃ (A : Option Addr) (n c : Nat) (bs : List UInt8), v = .slice A n c ∧ Rd W A n bs ∧ n ≤ c ∧ n ≤ 9223372036854775807 := by
  obtain ⟨A, n, c, rfl⟩ := okWide_slice Tryd.underlying22 hv
  obtain ⟨fuel, hf⟩ := h0
  rcases open_ints Tryd.underlying22 Tryd.underlying5 cells5 hf with ⟨hcs, _⟩ | ⟨a, n', c', zs, hcs, _, hnc, hm, hzl, _, hcell, hwf⟩
  · simp [Value.cells] at hcs
    obtain ⟨rfl, rfl, rfl⟩ := hcs
    exact ⟨none, 0, 0, [], rfl, ⟨rfl, fun h => by omega⟩, Nat.le_refl _, by omega⟩
  · simp [Value.cells] at hcs
    obtain ⟨rfl, rfl, rfl⟩ := hcs
    rw [if_pos rfl] at hzl
    refine ⟨some a, n, c, (zs.take n).map fun z => UInt8.ofNat z.toNat, rfl, ⟨by simp; omega, fun _ => ⟨a, rfl, fun j u hu => ?_⟩⟩, hnc, by simp only [maxLen] at hm; omega⟩
    have hj : j < n := Nat.lt_of_not_le fun hc' => by
      rw [List.getElem?_eq_none (by simp; omega)] at hu
      cases hu
    have hjz : j < zs.length := by omega
    rw [hcell j hjz]
    have hw := hwf _ (List.getElem_mem hjz)
    have hlo : 0 ≤ zs[j] ∧ zs[j] < 256 := by
      simp [Lit.wf, IntKind.min, IntKind.max, IntKind.signed, IntKind.bits] at hw
      omega
    have hn8 : N8 (UInt8.ofNat zs[j].toNat) = zs[j] := by
      unfold N8
      rw [UInt8.toNat_ofNat', Nat.mod_eq_of_lt (by omega)]
      omega
    simp only [List.map_map, List.map_take, List.getElem?_take, hj, if_pos, List.getElem?_map, List.getElem?_eq_getElem hjz, Option.map_some, Function.comp, Option.some.injEq] at hu
    rw [← hu, List.getD, List.getElem?_eq_getElem hjz, Option.getD_some]
    show _ = some (Value.int .u8 (N8 _))
    rw [hn8]

/-- A WORLD FOR A WITNESS: the two tables laid. -/
noncomputable def laidWorld (os : Os) : World :=
  let w := World.holding Tryd.prog os ⟨#[], #[], []⟩
  { w with heap := (w.heap.modify 0 (fun o => match o with
      | .cells _ t frozen => .cells (initL.map U32).toArray t frozen
      | o => o)).modify 1 (fun o => match o with
      | .cells _ t frozen => .cells (Sp.ks.map U32).toArray t frozen
      | o => o) }
theorem own : ownKnob Tryd.prog.godebug = none := by kernel_rfl
theorem laidOut : laidOutB Tryd.prog = true := by kernel_rfl
end Go.Proofs.YtljghknojbpccaaDoor
