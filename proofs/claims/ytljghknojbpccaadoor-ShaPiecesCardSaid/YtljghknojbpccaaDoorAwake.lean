/-
  THE WALKS OF few AND awake.
-/
import Derived.Test.YtljghknojbpccaaDoorHex
namespace Go.Proofs.YtljghknojbpccaaDoor
set_option linter.unusedSimpArgs false
set_option linter.unusedVariables false
open Go.RowKit

theorem few_any (A : Option Addr) (n c : Nat) (w : World) (hnc : n ≤ c) (hn : n ≤ 9223372036854775807) : Calls Tryd.prog 8 #[.slice A n c] w fun e w' => e = .returned (.slice A (min n 2000) c) ∧ w = w' := by
  by_cases h : 2000 < n
  · have hm : min n 2000 = 2000 := by omega
    rw [hm]
    go_enter Tryd.func8, Tryd.ntmps8
    go_wp2
    go_ret
    exact ⟨rfl, rfl⟩
  · have hm : min n 2000 = n := by omega
    rw [hm]
    go_enter Tryd.func8, Tryd.ntmps8
    go_wp2
    go_ret
    exact ⟨rfl, rfl⟩

def abcHex : List UInt8 := [98, 97, 55, 56, 49, 54, 98, 102, 56, 102, 48, 49, 99, 102, 101, 97, 52, 49, 52, 49, 52, 48, 100, 101, 53, 100, 97, 101, 50, 50, 50, 51, 98, 48, 48, 51, 54, 49, 97, 51, 57, 54, 49, 55, 55, 97, 57, 99, 98, 52, 49, 48, 102, 102, 54, 49, 102, 50, 48, 48, 49, 53, 97, 100]
def nilHex : List UInt8 := [101, 51, 98, 48, 99, 52, 52, 50, 57, 56, 102, 99, 49, 99, 49, 52, 57, 97, 102, 98, 102, 52, 99, 56, 57, 57, 54, 102, 98, 57, 50, 52, 50, 55, 97, 101, 52, 49, 101, 52, 54, 52, 57, 98, 57, 51, 52, 99, 97, 52, 57, 53, 57, 57, 49, 98, 55, 56, 53, 50, 98, 56, 53, 53]
theorem rd_abc (w : World) : Rd (w.alloc (.cells #[.int .u8 97, .int .u8 98, .int .u8 99] 5 (3, 4))) (some ⟨w.heap.size, 0, none⟩) 3 [97, 98, 99] :=
  ⟨rfl, fun _ => ⟨_, rfl, fun j u hu => by
    rw [Addr.add_lit, Nat.zero_add, cell_of_row _ _ _ _ _ (3, 4) (heap_alloc_new w _)]
    have e : (#[Value.int .u8 97, .int .u8 98, .int .u8 99] : Array Value) = (([97, 98, 99] : List UInt8).map U8).toArray := rfl
    rw [e, List.getElem?_toArray]
    exact hu⟩⟩
set_option maxRecDepth 100000 in
theorem abc_hex : Sp.hexL (Sp.digest [97, 98, 99]) = abcHex := by decide +kernel
set_option maxRecDepth 100000 in
theorem nil_hex : Sp.hexL (Sp.digest []) = nilHex := by decide +kernel
theorem digest_length (m : List UInt8) : (Sp.digest m).length = 32 := rfl

set_option maxRecDepth 100000 in
set_option maxHeartbeats 1000000 in
theorem awake_any (w : World) (ht : Tables w) : Calls Tryd.prog 11 #[] w fun e w' => e = .returned (.bool true) ∧ Below w.heap.size w w' := by
  have kc := fun (w : World) (C : Array Value) (n c : Nat) => Lib.run_convert_bytes_const (P := Tryd.prog) w 22 5 C n c Tryd.underlying22 Tryd.underlying5
  have hsz := ht.size
  go_enter Tryd.func11, Tryd.ntmps11
  have hb0 : Below w.heap.size w (w.alloc (.cells #[.int .u8 97, .int .u8 98, .int .u8 99] 5 (3, 4))) := (Below.refl _ _).alloc (Nat.le_refl _) _
  go_wp2_with fail
  refine (sum_any _ 3 3 [97, 98, 99] _ (Nat.le_refl _) (rd_abc w) (by simp) (ht.below hb0 hsz)).mono ?_
  rintro e w1 ⟨rfl, hb1⟩
  have hb01 := hb0.trans (hb1.mono hb0.size)
  go_wp2_with fail
  refine (hex_any (Sp.digest [97, 98, 99]) rfl w1).mono ?_
  rintro e w2 ⟨rfl, hb2⟩
  have hb02 := hb01.trans (hb2.mono hb01.size)
  rw [abc_hex, abcHex]
  go_wp2_with fail
  refine (sum_any none 0 0 [] w2 (Nat.le_refl _) (Rd.none_ w2) (by simp) (ht.below hb02 hsz)).mono ?_
  rintro e w3 ⟨rfl, hb3⟩
  have hb03 := hb02.trans (hb3.mono hb02.size)
  go_wp2_with fail
  refine (hex_any (Sp.digest []) rfl w3).mono ?_
  rintro e w4 ⟨rfl, hb4⟩
  have hb04 := hb03.trans (hb4.mono hb03.size)
  rw [nil_hex, nilHex]
  go_wp2_with fail
  go_ret
  exact ⟨rfl, hb04⟩
end Go.Proofs.YtljghknojbpccaaDoor
