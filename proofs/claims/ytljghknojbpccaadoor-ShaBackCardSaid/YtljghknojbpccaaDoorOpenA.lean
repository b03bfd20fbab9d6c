/-
  A SUM AS AN ARGUMENT, OPENED: thirty-two bytes.
-/
import Derived.Test.YtljghknojbpccaaDoorTabs
namespace Go.Proofs.YtljghknojbpccaaDoor
set_option linter.unusedSimpArgs false
set_option linter.unusedVariables false
open Go.ChangeShapes Go.WideShapes Go.ChangeAt Go.RowKit

theorem cells24 : Tryd.prog.cellsOf 24 = 32 := by kernel_rfl
theorem okWide_arr24 {W : World} {base : Nat} {r : Reach} {v : Value} (h : Value.okWide Tryd.prog W r base 24 v) : ∃ cs : Array Value, v = .agg cs ∧ cs.size = 32 := by
  rw [← cells24]
  simp only [Value.okWide, Tryd.underlying24, Cell.okWide] at h
  cases v <;> simp_all [Cell.ok]
theorem byte_of {z : Int} (h : (Lit.int .u8 z).wf = true) : Value.int .u8 z = U8 (UInt8.ofNat z.toNat) := by
  have hb := bounds_u8 h
  have hn8 : N8 (UInt8.ofNat z.toNat) = z := by
    unfold N8
    rw [UInt8.toNat_ofNat', Nat.mod_eq_of_lt (by omega)]
    omega
  show _ = Value.int .u8 (N8 _)
  rw [hn8]
theorem open_arr24 {H : Type} {enc : TypeId × Value → H} {W : World} {base : Nat} {r : Reach} {v : Value} {d : DataW H} {ps : List MemPlace}
    (hv : Value.okWide Tryd.prog W r base 24 v) (h0 : DataW.Trod enc Tryd.prog W 0 (fun _ => true) true 24 v d ps) : ∃ l : List UInt8, v = .agg (bytesV l) ∧ l.length = 32 := by
  obtain ⟨cs, rfl, hs⟩ := okWide_arr24 hv
  obtain ⟨fuel, hf⟩ := h0
  obtain ⟨xs, m, _, _, hlen, hl, hel⟩ := DataW.trod_array Tryd.underlying24 hf
  have hel2 : ∀ i, i < 32 → ∃ x : UInt8, cs[i]? = some (U8 x) := fun i hi => by
    have h := hel i hi
    rw [List.getElem?_eq_getElem (by omega), cells5, Nat.mul_one] at h
    obtain ⟨z, hc, _, hw⟩ := DataW.trod_int Tryd.underlying5 h
    refine ⟨UInt8.ofNat z.toNat, ?_⟩
    have h1 : (Value.agg cs).cells.toList[i]? = some (.int .u8 z) := by
      have := congrArg (·[0]?) hc
      simpa [List.getElem?_take, List.getElem?_drop] using this
    rw [← byte_of hw]
    simpa [Value.cells] using h1
  refine ⟨(List.range 32).map fun i => if hi : i < 32 then Classical.choose (hel2 i hi) else 0, ?_, by simp⟩
  congr 1
  apply Array.ext_getElem?
  intro i
  by_cases hi : i < 32
  · rw [Classical.choose_spec (hel2 i hi)]
    simp [bytesV, hi]
  · rw [Array.getElem?_eq_none (by omega), Array.getElem?_eq_none (by simp [bytesV]; omega)]
end Go.Proofs.YtljghknojbpccaaDoor
