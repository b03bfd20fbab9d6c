/-
  PLAIN: the digits of a sum, read back.
-/
namespace Go.Proofs.YtljghknojbpccaaDoor.Sp
/-- the value of a digit, as a number; none: no digit -/
def dig (x : UInt8) : Option UInt8 :=
  if 48 ≤ x.toNat ∧ x.toNat ≤ 57 then some (x - 48) else if 97 ≤ x.toNat ∧ x.toNat ≤ 102 then some (x - 97 + 10) else none
/-- behind k digits -/
def uh (l : List UInt8) : Nat → List UInt8
  | 0 => List.replicate 32 0
  | k + 1 => (uh l k).set (k / 2) (((uh l k).getD (k / 2) 0) <<< 4 ||| (dig (l.getD k 0)).getD 0)
def good (l : List UInt8) (k : Nat) : Prop := ∀ j, j < k → (dig (l.getD j 0)).isSome = true
/-- what Unhex answers -/
noncomputable def unhex (l : List UInt8) : Option (List UInt8) := by
  classical
  exact if l.length = 64 ∧ good l 64 then some (uh l 64) else none
theorem uh_length (l : List UInt8) (k : Nat) : (uh l k).length = 32 := by
  induction k with
  | zero => rfl
  | succ k ih => simp [uh, ih]
theorem dig_lt16 {x d : UInt8} (h : dig x = some d) : d.toNat < 16 := by
  unfold dig at h
  have := x.toNat_lt
  split at h
  · injection h with h
    subst h
    rw [UInt8.toNat_sub]
    simp
    omega
  · split at h
    · injection h with h
      subst h
      rw [UInt8.toNat_add, UInt8.toNat_sub]
      simp
      omega
    · cases h
theorem shl_or_add (x n : UInt8) (h : n.toNat < 16) : x <<< 4 ||| n = x * 16 + n := by
  apply UInt8.toNat_inj.1
  have hx := x.toNat_lt
  rw [UInt8.toNat_or, UInt8.toNat_shiftLeft, UInt8.toNat_add, UInt8.toNat_mul]
  have e : (4 : UInt8).toNat % 8 = 4 := rfl
  have e2 : (16 : UInt8).toNat = 16 := rfl
  rw [e, e2]
  have h1 : x.toNat <<< 4 % 2 ^ 8 = (x.toNat % 16) <<< 4 := by
    rw [Nat.shiftLeft_eq, Nat.shiftLeft_eq]
    omega
  rw [h1, ← Nat.shiftLeft_add_eq_or_of_lt (by omega), Nat.shiftLeft_eq]
  omega
end Go.Proofs.YtljghknojbpccaaDoor.Sp
