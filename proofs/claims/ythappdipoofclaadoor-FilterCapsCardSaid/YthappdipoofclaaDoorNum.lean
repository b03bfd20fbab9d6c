/-
  THE NUMBER THAT BYTES ARE, least significant first: octet.number, octet.Get, and the document's Number.
-/
import Derived.Test.YthappdipoofclaaDoorBytes
import Derived.IntWalk
import Derived.Laws.BitsLemmas
namespace Go.Proofs.YthappdipoofclaaDoor
set_option linter.unusedSimpArgs false
set_option linter.unusedVariables false
open Go.RowKit

/-- the number of the first k bytes -/
def numN (l : List UInt8) : Nat → Nat
  | 0 => 0
  | k + 1 => numN l k + (l.getD k 0).toNat * 2 ^ (8 * k)
theorem numN_lt (l : List UInt8) : ∀ k, numN l k < 2 ^ (8 * k)
  | 0 => by simp [numN]
  | k + 1 => by
    have h1 := numN_lt l k
    have h2 := (l.getD k 0).toNat_lt
    have e : 2 ^ (8 * (k + 1)) = 2 ^ (8 * k) * 256 := by rw [show 8 * (k + 1) = 8 * k + 8 by omega, Nat.pow_add]
    simp only [numN]
    rw [e]
    have h3 : (l.getD k 0).toNat * 2 ^ (8 * k) ≤ 255 * 2 ^ (8 * k) := Nat.mul_le_mul_right _ (by omega)
    omega
theorem pow_le8 {k : Nat} (hk : k ≤ 8) : 2 ^ (8 * k) ≤ 18446744073709551616 := by
  have : (2 : Nat) ^ (8 * k) ≤ 2 ^ 64 := Nat.pow_le_pow_right (by omega) (by omega)
  simpa using this
theorem wrap_u64_nat (n : Nat) (h : n < 18446744073709551616) : IntKind.u64.wrap (n : Int) = (n : Int) := by
  show (n : Int) % 18446744073709551616 = n
  omega
theorem ofInt64 (n : Nat) : BitVec.ofInt 64 (n : Int) = BitVec.ofNat 64 n := by rw [BitVec.ofInt_natCast]
/-- one byte more, by or -/
theorem or_step (l : List UInt8) (k : Nat) (hk : k ≤ 7) : bits BinOp.or IntKind.u64 ((numN l k : Nat) : Int) (IntKind.u64.wrap (N8 (l.getD k 0) * 2 ^ (8 * k))) = ((numN l (k + 1) : Nat) : Int) := by
  have h1 := numN_lt l k
  have h2 := (l.getD k 0).toNat_lt
  have h3 := numN_lt l (k + 1)
  have h4 := pow_le8 (show k + 1 ≤ 8 by omega)
  have h5 := pow_le8 (show k ≤ 8 by omega)
  have e : N8 (l.getD k 0) * 2 ^ (8 * k) = (((l.getD k 0).toNat * 2 ^ (8 * k) : Nat) : Int) := by simp [N8]
  have hs : (l.getD k 0).toNat * 2 ^ (8 * k) < 18446744073709551616 := by
    have : numN l (k + 1) = numN l k + (l.getD k 0).toNat * 2 ^ (8 * k) := rfl
    omega
  rw [e, wrap_u64_nat _ hs]
  unfold bits
  show IntKind.u64.wrap ((BitVec.ofInt 64 _ ||| BitVec.ofInt 64 _).toNat : Int) = _
  rw [ofInt64, ofInt64, BitVec.toNat_or, BitVec.toNat_ofNat, BitVec.toNat_ofNat, Nat.mod_eq_of_lt (show numN l k < 2 ^ 64 by simpa using (by omega : numN l k < 18446744073709551616)), Nat.mod_eq_of_lt (show _ < 2 ^ 64 by simpa using hs)]
  have ho : numN l k ||| (l.getD k 0).toNat * 2 ^ (8 * k) = numN l (k + 1) := by
    rw [Nat.or_comm, ← Nat.shiftLeft_eq, ← Nat.shiftLeft_add_eq_or_of_lt h1, Nat.shiftLeft_eq]
    simp only [numN]
    omega
  rw [ho]
  exact wrap_u64_nat _ (by omega)
/-- .. and by sum and unit -/
theorem sum_step (l : List UInt8) (k : Nat) (hk : k ≤ 7) : IntKind.u64.wrap (((numN l k : Nat) : Int) + IntKind.u64.wrap (N8 (l.getD k 0) * ((2 ^ (8 * k) : Nat) : Int))) = ((numN l (k + 1) : Nat) : Int) := by
  have h1 := numN_lt l k
  have h2 := (l.getD k 0).toNat_lt
  have h3 := numN_lt l (k + 1)
  have h4 := pow_le8 (show k + 1 ≤ 8 by omega)
  have e : N8 (l.getD k 0) * ((2 ^ (8 * k) : Nat) : Int) = (((l.getD k 0).toNat * 2 ^ (8 * k) : Nat) : Int) := by simp [N8]
  have hs : (l.getD k 0).toNat * 2 ^ (8 * k) < 18446744073709551616 := by
    have : numN l (k + 1) = numN l k + (l.getD k 0).toNat * 2 ^ (8 * k) := rfl
    omega
  rw [e, wrap_u64_nat _ hs]
  have e2 : ((numN l k : Nat) : Int) + (((l.getD k 0).toNat * 2 ^ (8 * k) : Nat) : Int) = ((numN l (k + 1) : Nat) : Int) := by simp only [numN]; push_cast; rfl
  rw [e2]
  exact wrap_u64_nat _ (by omega)

/-- the k-th byte of a slice that reads -/
theorem Rd.at_ {w : World} {A : Option Addr} {n : Nat} {xs : List UInt8} (h : Rd w A n xs) {k : Nat} (hk : k < n) : ∃ ad, A = some ad ∧ w.cell? (ad.add k) = some (.int .u8 (N8 (xs.getD k 0))) := by
  obtain ⟨ad, e, hc⟩ := h.cells (by omega)
  have hl : k < xs.length := by have := h.len; omega
  refine ⟨ad, e, hc k _ ?_⟩
  rw [List.getElem?_map, List.getElem?_eq_getElem hl, List.getD_eq_getElem?_getD, List.getElem?_eq_getElem hl]
  rfl

set_option maxRecDepth 100000 in
set_option maxHeartbeats 1000000 in
theorem number_any (A : Option Addr) (n c : Nat) (xs : List UInt8) (w : World) (hR : Rd w A n xs) (hn : n ≤ 8) : Calls Tryd.prog 44 #[.slice A n c] w fun e w' => e = .returned (.int .u64 ((numN xs n : Nat) : Int)) ∧ w = w' := by
  go_enter Tryd.func44, Tryd.ntmps44
  go_wp2_with fail
  go_loop [3, 8] (fun v i => ∃ k : Nat, k ≤ n ∧ i = .int .i64 (k : Int) ∧ v = .int .u64 ((numN xs k : Nat) : Int)) (fun _ i => n - (intOf i).toNat)
  case atStart => exact ⟨0, by omega, rfl, rfl⟩
  case round =>
    obtain ⟨k, hk, rfl, rfl⟩ := hrel
    by_cases hlt : k < n
    · obtain ⟨ad, rfl, hc⟩ := hR.at_ hlt
      have hx := N8_in (xs.getD k 0)
      have hk7 : k ≤ 7 := by omega
      have ho := or_step xs k hk7
      have HO := Lib.hid ho
      clear ho
      generalize N8 (xs.getD k 0) = x at *
      generalize numN xs k = m at *
      go_wp2
      rw [HO.out]
      go_round
      case rel => exact ⟨k + 1, by omega, by go_num, rfl⟩
      case measure => simp [intOf]; omega
    · obtain rfl : k = n := by omega
      go_wp2
      go_ret
      exact ⟨rfl, rfl⟩

set_option maxRecDepth 100000 in
set_option maxHeartbeats 1000000 in
theorem refnumber_any (A : Option Addr) (n c : Nat) (xs : List UInt8) (w : World) (hR : Rd w A n xs) (hn : n ≤ 8) : Calls Tryd.prog 32 #[.slice A n c] w fun e w' => e = .returned (.int .u64 ((numN xs n : Nat) : Int)) ∧ w = w' := by
  go_enter Tryd.func32, Tryd.ntmps32
  go_wp2_with fail
  go_loop [3, 4, 5] (fun v u i => ∃ k m : Nat, k ≤ n ∧ i = .int .i64 (k : Int) ∧ v = .int .u64 ((numN xs k : Nat) : Int) ∧ u = .int .u64 (m : Int) ∧ (k ≤ 7 → m = 2 ^ (8 * k))) (fun _ _ i => n - (intOf i).toNat)
  case atStart => exact ⟨0, 1, by omega, rfl, rfl, rfl, fun _ => rfl⟩
  case round =>
    obtain ⟨k, m, hk, rfl, rfl, rfl, hm⟩ := hrel
    by_cases hlt : k < n
    · obtain ⟨ad, rfl, hc⟩ := hR.at_ hlt
      have hx := N8_in (xs.getD k 0)
      have hk7 : k ≤ 7 := by omega
      have hm7 := hm hk7
      have ho := sum_step xs k hk7
      rw [← hm7] at ho
      have HO := Lib.hid ho
      have HM := Lib.hid hm7
      clear ho hm hm7
      generalize N8 (xs.getD k 0) = x at *
      generalize numN xs k = q at *
      go_wp2
      rw [HO.out]
      go_round
      case rel => exact ⟨k + 1, (IntKind.u64.wrap ((m : Int) * 256)).toNat, by omega, by go_num, rfl, by
        have : 0 ≤ IntKind.u64.wrap ((m : Int) * 256) := by
          show 0 ≤ ((m : Int) * 256) % 18446744073709551616
          omega
        rw [Int.toNat_of_nonneg this], fun h7 => by
        have h8 := pow_le8 (show k + 1 ≤ 8 by omega)
        have e : 2 ^ (8 * (k + 1)) = 2 ^ (8 * k) * 256 := by rw [show 8 * (k + 1) = 8 * k + 8 by omega, Nat.pow_add]
        have hlt8 : (2 : Nat) ^ (8 * (k + 1)) ≤ 2 ^ 56 := Nat.pow_le_pow_right (by omega) (by omega)
        have h56 : (2 : Nat) ^ 56 = 72057594037927936 := by decide
        have hmm : (m : Int) * 256 = ((2 ^ (8 * (k + 1)) : Nat) : Int) := by rw [e, HM.out]; push_cast; rfl
        rw [hmm, wrap_u64_nat _ (by omega), Int.toNat_natCast]⟩
      case measure => simp [intOf]; omega
    · obtain rfl : k = n := by omega
      clear hm
      go_wp2
      go_ret
      exact ⟨rfl, rfl⟩

set_option maxHeartbeats 400000 in
theorem get_any (A : Option Addr) (n c : Nat) (xs : List UInt8) (w : World) (hR : Rd w A n xs) (hn : n ≤ 8) (h1 : 1 ≤ n) : Calls Tryd.prog 34 #[.slice A n c] w fun e w' => e = .returned (.tuple #[.int .u64 ((numN xs n : Nat) : Int), .int .i64 0]) ∧ w = w' := by
  go_enter Tryd.func34, Tryd.ntmps34
  go_wp2_with fail
  refine (number_any A n c xs w hR hn).mono ?_
  rintro e w' ⟨rfl, rfl⟩
  go_wp2
  go_ret2
  exact ⟨rfl, rfl⟩
end Go.Proofs.YthappdipoofclaaDoor
