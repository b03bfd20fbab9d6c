/-
  THE OPERATIONS OF THE MODEL ON WORDS OF 32 BITS, told with Lean's UInt32: 'U32 x' is the model's value of the word x, 'U8 x' of the byte x.
-/
import Derived.Test.YtljghknojbpccaaDoorProg
import Derived.Test.YtljghknojbpccaaDoorPlain
import Derived.WalkKit
import Derived.WalkSpells
import Derived.WalkLawsBesides
import Derived.BigQuiet
import Derived.Laws.Rows
import Derived.Laws.CopyRow
import Derived.KernelRfl
namespace Go.Proofs.YtljghknojbpccaaDoor
set_option linter.unusedSimpArgs false
set_option linter.unusedVariables false
open Go.RowKit

/-- the word's number, behind a name: the walk's simp does not take it apart -/
def N32 (x : UInt32) : Int := (x.toNat : Int)
def N8 (x : UInt8) : Int := (x.toNat : Int)
abbrev U32 (x : UInt32) : Value := .int .u32 (N32 x)
abbrev U8 (x : UInt8) : Value := .int .u8 (N8 x)
theorem N32_in (x : UInt32) : 0 ≤ N32 x ∧ N32 x < 4294967296 := by
  unfold N32
  have := x.toNat_lt
  omega
theorem N8_in (x : UInt8) : 0 ≤ N8 x ∧ N8 x < 256 := by
  unfold N8
  have := x.toNat_lt
  omega

theorem wrap_u32 (n : Int) : IntKind.u32.wrap n = n % 4294967296 := rfl
theorem wrap_u8 (n : Int) : IntKind.u8.wrap n = n % 256 := rfl
theorem wrap_u32_nat (n : Nat) : IntKind.u32.wrap (n : Int) = ((n % 4294967296 : Nat) : Int) := by rw [wrap_u32]; omega
theorem lt32 (x : UInt32) : x.toNat < 4294967296 := x.toNat_lt
theorem ofInt32 (x : UInt32) : BitVec.ofInt 32 (x.toNat : Int) = x.toBitVec := by
  rw [BitVec.ofInt_natCast]; exact BitVec.ofNat_toNat ..

section
variable (t : TypeId) (x y : UInt32)
theorem binOp_add32 : binOp .add t (U32 x) (U32 y) = pure (U32 (x + y)) := by
  unfold U32 N32
  rw [binOp_add]
  show pure (Value.int .u32 (IntKind.u32.wrap _)) = _
  congr 2
theorem binOp_xor32 : binOp .xor t (U32 x) (U32 y) = pure (U32 (x ^^^ y)) := by
  unfold U32 N32
  rw [binOp_xor, intBits_xor]
  congr 2
  show IntKind.u32.wrap ((BitVec.ofInt 32 (x.toNat : Int) ^^^ BitVec.ofInt 32 (y.toNat : Int)).toNat : Int) = _
  rw [ofInt32, ofInt32, wrap_u32_nat]
  have h := lt32 (x ^^^ y)
  exact congrArg (fun n : Nat => (n : Int)) (Nat.mod_eq_of_lt h)
theorem binOp_and32 : binOp .and t (U32 x) (U32 y) = pure (U32 (x &&& y)) := by
  unfold U32 N32
  rw [binOp_and, intBits_and]
  congr 2
  show IntKind.u32.wrap ((BitVec.ofInt 32 (x.toNat : Int) &&& BitVec.ofInt 32 (y.toNat : Int)).toNat : Int) = _
  rw [ofInt32, ofInt32, wrap_u32_nat]
  have h := lt32 (x &&& y)
  exact congrArg (fun n : Nat => (n : Int)) (Nat.mod_eq_of_lt h)
theorem binOp_or32 : binOp .or t (U32 x) (U32 y) = pure (U32 (x ||| y)) := by
  unfold U32 N32
  rw [binOp_or, intBits_or]
  congr 2
  show IntKind.u32.wrap ((BitVec.ofInt 32 (x.toNat : Int) ||| BitVec.ofInt 32 (y.toNat : Int)).toNat : Int) = _
  rw [ofInt32, ofInt32, wrap_u32_nat]
  have h := lt32 (x ||| y)
  exact congrArg (fun n : Nat => (n : Int)) (Nat.mod_eq_of_lt h)
/-- x << n, n a number below 32 -/
theorem binOp_shl32 (n : Nat) (h : n < 32) : binOp .shl t (U32 x) (.int .u64 (n : Int)) = pure (U32 (x <<< UInt32.ofNat n)) := by
  unfold U32 N32
  rw [binOp_shl, shift_shl .u32 .u64 _ _ (by omega) (by simp [IntKind.bits]; omega)]
  congr 2
  rw [Int.toNat_natCast, wrap_u32, UInt32.toNat_shiftLeft, UInt32.toNat_ofNat', Nat.mod_eq_of_lt (show n < 2 ^ 32 by omega), Nat.mod_eq_of_lt h, Nat.shiftLeft_eq]
  have e : ((x.toNat : Int) * 2 ^ n) = ((x.toNat * 2 ^ n : Nat) : Int) := by simp
  rw [e]
  omega
theorem binOp_shr32 (n : Nat) (h : n < 32) : binOp .shr t (U32 x) (.int .u64 (n : Int)) = pure (U32 (x >>> UInt32.ofNat n)) := by
  unfold U32 N32
  rw [binOp_shr, shift_shr .u32 .u64 _ _ (by omega) (by simp [IntKind.bits]; omega)]
  congr 2
  rw [Int.toNat_natCast, UInt32.toNat_shiftRight, UInt32.toNat_ofNat', Nat.mod_eq_of_lt (show n < 2 ^ 32 by omega), Nat.mod_eq_of_lt h, Nat.shiftRight_eq_div_pow]
  simp
theorem unary_xor32 : Op.unary .xor (U32 x) = pure (U32 (~~~x)) := by
  unfold U32 N32
  show Op.intBits .xor .u32 (if IntKind.u32.signed then -1 else IntKind.u32.max) (x.toNat : Int) = _
  rw [intBits_xor]
  congr 2
  show IntKind.u32.wrap ((BitVec.ofInt 32 (4294967295 : Int) ^^^ BitVec.ofInt 32 (x.toNat : Int)).toNat : Int) = _
  rw [ofInt32, wrap_u32_nat]
  have e : BitVec.ofInt 32 (4294967295 : Int) ^^^ x.toBitVec = (~~~x).toBitVec := by
    have : BitVec.ofInt 32 (4294967295 : Int) = BitVec.allOnes 32 := by decide
    rw [this, UInt32.toBitVec_not, BitVec.not_def]
  rw [e]
  exact congrArg Int.ofNat (Nat.mod_eq_of_lt (lt32 (~~~x)))
/-- 4294967295 - x is x's complement -/
theorem binOp_sub32 : binOp .sub t (.int .u32 4294967295) (U32 x) = pure (U32 (~~~x)) := by
  unfold U32 N32
  rw [binOp_sub]
  show pure (Value.int .u32 (IntKind.u32.wrap _)) = _
  congr 2
  have h := lt32 x
  have e : (~~~x).toNat = 4294967295 - x.toNat := by
    show (~~~x).toBitVec.toNat = _
    rw [UInt32.toBitVec_not, BitVec.toNat_not]
    rfl
  rw [wrap_u32, e]
  omega
end
section
variable (t : TypeId) (x y : UInt32)
@[go_sem high] theorem shl32_int (n : Int) (h0 : 0 ≤ n) (h1 : n < 32) : binOp .shl t (U32 x) (.int .u64 n) = pure (U32 (x <<< UInt32.ofNat n.toNat)) := by
  obtain ⟨k, rfl⟩ := Int.eq_ofNat_of_zero_le h0
  exact binOp_shl32 t x k (by omega)
@[go_sem high] theorem shr32_int (n : Int) (h0 : 0 ≤ n) (h1 : n < 32) : binOp .shr t (U32 x) (.int .u64 n) = pure (U32 (x >>> UInt32.ofNat n.toNat)) := by
  obtain ⟨k, rfl⟩ := Int.eq_ofNat_of_zero_le h0
  exact binOp_shr32 t x k (by omega)
end
attribute [go_sem high] binOp_add32 binOp_xor32 binOp_and32 binOp_or32 binOp_sub32 unary_xor32
theorem U32_lit (n : Nat) (h : n < 4294967296) : Value.int .u32 (n : Int) = U32 (UInt32.ofNat n) := by
  unfold U32 N32
  rw [UInt32.toNat_ofNat', Nat.mod_eq_of_lt h]
end Go.Proofs.YtljghknojbpccaaDoor
