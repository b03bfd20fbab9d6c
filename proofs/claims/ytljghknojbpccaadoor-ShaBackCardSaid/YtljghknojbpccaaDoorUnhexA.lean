/-
  THE WALK OF sha.value, sha.Unhex: the digits of a sum, read.
-/
import Derived.Test.YtljghknojbpccaaDoorAwake
import Derived.Test.YtljghknojbpccaaDoorUnhexP
import Derived.Lib.OthersKept
import Derived.Laws.RangeAny
import Derived.IntWalk
namespace Go.Proofs.YtljghknojbpccaaDoor
set_option linter.unusedSimpArgs false
set_option linter.unusedVariables false
open Go.RowKit

section
variable (t : TypeId) (x y : UInt8)
theorem ofInt8 (x : UInt8) : BitVec.ofInt 8 (x.toNat : Int) = x.toBitVec := by
  rw [BitVec.ofInt_natCast]; exact BitVec.ofNat_toNat ..
@[go_sem high] theorem or8 : binOp .or t (U8 x) (U8 y) = pure (U8 (x ||| y)) := by
  unfold U8 N8
  rw [binOp_or, intBits_or]
  congr 2
  show IntKind.u8.wrap ((BitVec.ofInt 8 (x.toNat : Int) ||| BitVec.ofInt 8 (y.toNat : Int)).toNat : Int) = _
  rw [ofInt8, ofInt8, wrap_u8]
  have h := (x ||| y).toNat_lt
  show (((x ||| y).toNat : Int) % 256) = ((x ||| y).toNat : Int)
  omega
@[go_sem high] theorem shl8_4 : binOp .shl t (U8 x) (.int .u64 4) = pure (U8 (x <<< 4)) := by
  unfold U8 N8
  rw [binOp_shl, shift_shl .u8 .u64 _ _ (by omega) (by simp [IntKind.bits])]
  congr 2
  have h4 : (4 : Int).toNat = 4 := rfl
  rw [wrap_u8, UInt8.toNat_shiftLeft, Nat.shiftLeft_eq, h4]
  have e : (4 : UInt8).toNat % 8 = 4 := rfl
  rw [e]
  omega
@[go_sem high] theorem add8 : binOp .add t (U8 x) (U8 y) = pure (U8 (x + y)) := by
  unfold U8 N8
  rw [binOp_add]
  show pure (Value.int .u8 (IntKind.u8.wrap _)) = _
  congr 2
end

theorem dig_some {x d : UInt8} (h : Sp.dig x = some d) : (48 ≤ x.toNat ∧ x.toNat ≤ 57 ∧ N8 d = (x.toNat : Int) - 48) ∨ (97 ≤ x.toNat ∧ x.toNat ≤ 102 ∧ N8 d = (x.toNat : Int) - 97 + 10) := by
  unfold Sp.dig at h
  have := x.toNat_lt
  unfold N8
  split at h
  · injection h with h
    subst h
    refine Or.inl ⟨by omega, by omega, ?_⟩
    rw [UInt8.toNat_sub]
    simp
    omega
  · split at h
    · injection h with h
      subst h
      refine Or.inr ⟨by omega, by omega, ?_⟩
      rw [UInt8.toNat_add, UInt8.toNat_sub]
      simp
      omega
    · cases h
theorem dig_none {x : UInt8} (h : Sp.dig x = none) : ¬ (48 ≤ x.toNat ∧ x.toNat ≤ 57) ∧ ¬ (97 ≤ x.toNat ∧ x.toNat ≤ 102) := by
  unfold Sp.dig at h
  split at h
  · cases h
  · split at h
    · cases h
    · exact ⟨by assumption, by assumption⟩

/-- a digit's value -/
theorem value_ok (x d : UInt8) (h : Sp.dig x = some d) (w : World) : Calls Tryd.prog 24 #[.int .i32 (x.toNat : Int)] w fun e w' => e = .returned (.tuple #[U8 d, .bool true]) ∧ w = w' := by
  unfold U8
  rcases dig_some h with ⟨h1, h2, h3⟩ | ⟨h1, h2, h3⟩
  · rw [h3]
    generalize x.toNat = r at h1 h2
    clear h3 h
    have a1 : decide ((48 : Int) ≤ (r : Int)) = true := by simp; omega
    have a2 : decide ((r : Int) ≤ 57) = true := by simp; omega
    have a3 : IntKind.i32.wrap ((r : Int) - 48) = (r : Int) - 48 := IntWalk.i32_in _ (by omega)
    have a4 : IntKind.u8.wrap ((r : Int) - 48) = (r : Int) - 48 := by rw [wrap_u8]; omega
    go_enter Tryd.func24, Tryd.ntmps24
    go_wp2
    all_goals go_ret2
    all_goals first | exact ⟨by simp [a4], rfl⟩ | (exfalso; omega) | trace_state
  · rw [h3]
    generalize x.toNat = r at h1 h2
    clear h3 h
    have a1 : decide ((48 : Int) ≤ (r : Int)) = true := by simp; omega
    have a2 : decide ((r : Int) ≤ 57) = false := by simp; omega
    have a5 : decide ((97 : Int) ≤ (r : Int)) = true := by simp; omega
    have a6 : decide ((r : Int) ≤ 102) = true := by simp; omega
    have a3 : IntKind.i32.wrap ((r : Int) - 97) = (r : Int) - 97 := IntWalk.i32_in _ (by omega)
    have a4 : IntKind.u8.wrap ((r : Int) - 97) = (r : Int) - 97 := by rw [wrap_u8]; omega
    have a7 : IntKind.u8.wrap ((r : Int) - 97 + 10) = (r : Int) - 97 + 10 := by rw [wrap_u8]; omega
    go_enter Tryd.func24, Tryd.ntmps24
    go_wp2
    all_goals go_ret2
    all_goals first | exact ⟨by simp [a4, a7], rfl⟩ | (exfalso; omega) | trace_state
/-- no digit -/
theorem value_no (r : Nat) (h1 : ¬ (48 ≤ r ∧ r ≤ 57)) (h2 : ¬ (97 ≤ r ∧ r ≤ 102)) (hr : r ≤ 2147483647) (w : World) : Calls Tryd.prog 24 #[.int .i32 (r : Int)] w fun e w' => e = .returned (.tuple #[.int .u8 0, .bool false]) ∧ w = w' := by
  go_enter Tryd.func24, Tryd.ntmps24
  go_wp2
  all_goals go_ret2
  all_goals first | exact ⟨rfl, rfl⟩ | (exfalso; omega) | trace_state
end Go.Proofs.YtljghknojbpccaaDoor
