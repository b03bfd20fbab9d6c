/-
  A WORD OUT OF FOUR BYTES: by shifts, and by sums.
-/
import Derived.Test.YtljghknojbpccaaDoorPlain
namespace Go.Proofs.YtljghknojbpccaaDoor.Sp
set_option linter.unusedSimpArgs false
set_option linter.unusedVariables false

/-- the word of the first j bytes, by sums -/
def wordN (b : List UInt8) (t : Nat) : Nat → UInt32
  | 0 => 0
  | j + 1 => wordN b t j * 256 + (b.getD (4 * t + j) 0).toUInt32

theorem or_add (a b i : Nat) (h : b < 2 ^ i) : a * 2 ^ i ||| b = a * 2 ^ i + b := by
  rw [← Nat.shiftLeft_eq, Nat.shiftLeft_add_eq_or_of_lt h]

theorem word_sum (b0 b1 b2 b3 : UInt8) : ((((0 : UInt32) * (256 : UInt32) + b0.toUInt32) * (256 : UInt32) + b1.toUInt32) * (256 : UInt32) + b2.toUInt32) * (256 : UInt32) + b3.toUInt32
    = (((b0.toUInt32 <<< (24 : UInt32)) ||| (b1.toUInt32 <<< (16 : UInt32))) ||| (b2.toUInt32 <<< (8 : UInt32))) ||| b3.toUInt32 := by
  apply UInt32.toNat_inj.1
  have h0 := b0.toNat_lt
  have h1 := b1.toNat_lt
  have h2 := b2.toNat_lt
  have h3 := b3.toNat_lt
  have e24 : (24 : UInt32).toNat = 24 := rfl
  have e16 : (16 : UInt32).toNat = 16 := rfl
  have e8 : (8 : UInt32).toNat = 8 := rfl
  have e256 : (256 : UInt32).toNat = 256 := rfl
  have e0 : (0 : UInt32).toNat = 0 := rfl
  simp only [UInt32.toNat_add, UInt32.toNat_mul, UInt32.toNat_or, UInt32.toNat_shiftLeft, UInt8.toNat_toUInt32, e24, e16, e8, e256, e0, Nat.shiftLeft_eq]
  generalize b0.toNat = x0 at *
  generalize b1.toNat = x1 at *
  generalize b2.toNat = x2 at *
  generalize b3.toNat = x3 at *
  have r : x0 * 2 ^ (24 % 32) % 2 ^ 32 ||| x1 * 2 ^ (16 % 32) % 2 ^ 32 ||| x2 * 2 ^ (8 % 32) % 2 ^ 32 ||| x3 = x0 * 16777216 + x1 * 65536 + x2 * 256 + x3 := by
    have p24 : 2 ^ (24 % 32) = 16777216 := by decide
    have p16 : 2 ^ (16 % 32) = 65536 := by decide
    have p8 : 2 ^ (8 % 32) = 256 := by decide
    rw [p24, p16, p8]
    rw [show x0 * 16777216 % 2 ^ 32 = x0 * 256 * 2 ^ 16 by omega, show x1 * 65536 % 2 ^ 32 = x1 * 2 ^ 16 by omega, show x2 * 256 % 2 ^ 32 = x2 * 2 ^ 8 by omega]
    rw [show x0 * 256 * 2 ^ 16 = x0 * 2 ^ 24 by omega, or_add _ _ 24 (by omega), show x0 * 2 ^ 24 + x1 * 2 ^ 16 = (x0 * 2 ^ 8 + x1) * 2 ^ 16 by omega, or_add _ _ 16 (by omega),
      show (x0 * 2 ^ 8 + x1) * 2 ^ 16 + x2 * 2 ^ 8 = ((x0 * 2 ^ 8 + x1) * 2 ^ 8 + x2) * 2 ^ 8 by omega, or_add _ _ 8 (by omega)]
  rw [r]
  omega
theorem wordN_four (b : List UInt8) (t : Nat) : wordN b t 4 = word b t := word_sum _ _ _ _
end Go.Proofs.YtljghknojbpccaaDoor.Sp
