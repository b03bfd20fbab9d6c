/-
  PLAIN: the digits of a sum, read back: the sum; and told again: the digits.
-/
import Derived.Test.YtljghknojbpccaaDoorUnhexB
namespace Go.Proofs.YtljghknojbpccaaDoor.Sp
set_option linter.unusedSimpArgs false
set_option linter.unusedVariables false

theorem dig_hex2 (x : UInt8) : dig ((hex2 x).getD 0 0) = some (x >>> 4) ∧ dig ((hex2 x).getD 1 0) = some (x &&& 15) := by
  have key : ∀ n : Nat, n < 256 → dig ((hex2 (UInt8.ofNat n)).getD 0 0) = some (UInt8.ofNat n >>> 4) ∧ dig ((hex2 (UInt8.ofNat n)).getD 1 0) = some (UInt8.ofNat n &&& 15) := by decide +kernel
  have := key x.toNat x.toNat_lt
  rwa [UInt8.ofNat_toNat] at this
theorem join_hex2 (x : UInt8) : ((0 : UInt8) <<< 4 ||| (x >>> 4)) <<< 4 ||| (x &&& 15) = x := by
  have key : ∀ n : Nat, n < 256 → ((0 : UInt8) <<< 4 ||| (UInt8.ofNat n >>> 4)) <<< 4 ||| (UInt8.ofNat n &&& 15) = UInt8.ofNat n := by decide +kernel
  have := key x.toNat x.toNat_lt
  rwa [UInt8.ofNat_toNat] at this
theorem hexL_get (l : List UInt8) (i : Nat) (h : i < l.length) : (hexL l).getD (2 * i) 0 = (hex2 (l.getD i 0)).getD 0 0 ∧ (hexL l).getD (2 * i + 1) 0 = (hex2 (l.getD i 0)).getD 1 0 := by
  induction l generalizing i with
  | nil => simp at h
  | cons x l ih =>
    have e : hexL (x :: l) = hex2 x ++ hexL l := rfl
    have hl : (hex2 x).length = 2 := rfl
    rw [e]
    cases i with
    | zero => exact ⟨rfl, rfl⟩
    | succ i =>
      have hi : i < l.length := by simpa using h
      have h1 := ih i hi
      constructor
      · rw [List.getD_eq_getElem?_getD, List.getElem?_append_right (by omega), hl, show 2 * (i + 1) - 2 = 2 * i by omega, ← List.getD_eq_getElem?_getD, h1.1]
        rfl
      · rw [List.getD_eq_getElem?_getD, List.getElem?_append_right (by omega), hl, show 2 * (i + 1) + 1 - 2 = 2 * i + 1 by omega, ← List.getD_eq_getElem?_getD, h1.2]
        rfl
/-- behind 2 i digits of l's text: the first i bytes of l, and zeros -/
theorem uh_hexL (l : List UInt8) (hl : l.length = 32) : ∀ i, i ≤ 32 → uh (hexL l) (2 * i) = l.take i ++ List.replicate (32 - i) 0
  | 0, _ => rfl
  | i + 1, hi => by
    have ih := uh_hexL l hl i (by omega)
    have hg := hexL_get l i (by omega)
    have hd := dig_hex2 (l.getD i 0)
    have e1 : uh (hexL l) (2 * i + 1) = (uh (hexL l) (2 * i)).set i (((uh (hexL l) (2 * i)).getD i 0) <<< 4 ||| (l.getD i 0 >>> 4)) := by
      show (uh (hexL l) (2 * i)).set ((2 * i) / 2) _ = _
      rw [show 2 * i / 2 = i by omega, hg.1, hd.1]; rfl
    have e2 : uh (hexL l) (2 * i + 2) = (uh (hexL l) (2 * i + 1)).set i (((uh (hexL l) (2 * i + 1)).getD i 0) <<< 4 ||| (l.getD i 0 &&& 15)) := by
      show (uh (hexL l) (2 * i + 1)).set ((2 * i + 1) / 2) _ = _
      rw [show (2 * i + 1) / 2 = i by omega, hg.2, hd.2]; rfl
    have hlen : (uh (hexL l) (2 * i)).length = 32 := uh_length _ _
    have h0 : (uh (hexL l) (2 * i)).getD i 0 = 0 := by
      rw [ih, List.getD_eq_getElem?_getD, List.getElem?_append_right (by simp; omega)]
      rw [List.getElem?_replicate]
      split <;> rfl
    rw [show 2 * (i + 1) = 2 * i + 2 by omega, e2, e1, h0]
    have hgs : ((uh (hexL l) (2 * i)).set i ((0 : UInt8) <<< 4 ||| (l.getD i 0 >>> 4))).getD i 0 = (0 : UInt8) <<< 4 ||| (l.getD i 0 >>> 4) := by
      rw [List.getD_eq_getElem?_getD, List.getElem?_set_self (by omega)]; rfl
    rw [hgs, join_hex2, List.set_set, ih]
    apply List.ext_getElem?
    intro j
    rw [List.getElem?_set]
    by_cases hj : i = j
    · subst hj
      rw [if_pos rfl, if_pos (by simp; omega), List.getElem?_append_left (by simp; omega), List.getElem?_take, if_pos (by omega)]
      simp [List.getD, show i < l.length by omega]
    · rw [if_neg hj]
      by_cases hlt : j < i
      · rw [List.getElem?_append_left (by simp; omega), List.getElem?_append_left (by simp; omega), List.getElem?_take, List.getElem?_take, if_pos hlt, if_pos (by omega)]
      · rw [List.getElem?_append_right (by simp; omega), List.getElem?_append_right (by simp; omega), List.getElem?_replicate, List.getElem?_replicate]
        simp only [List.length_take]
        have : (j - min i l.length < 32 - i) ↔ (j - min (i + 1) l.length < 32 - (i + 1)) := by omega
        simp only [this]
theorem good_hexL (l : List UInt8) (hl : l.length = 32) : good (hexL l) 64 := fun j hj => by
  have hg := hexL_get l (j / 2) (by omega)
  have hd := dig_hex2 (l.getD (j / 2) 0)
  rcases Nat.mod_two_eq_zero_or_one j with h | h
  · rw [show j = 2 * (j / 2) by omega, hg.1, hd.1]; rfl
  · rw [show j = 2 * (j / 2) + 1 by omega, hg.2, hd.2]; rfl
theorem back_sum (l : List UInt8) (hl : l.length = 32) : uh (hexL l) 64 = l := by
  have := uh_hexL l hl 32 (Nat.le_refl _)
  rw [show 64 = 2 * 32 from rfl, this, List.take_of_length_le (by omega)]
  simp

theorem dig_alpha {x d : UInt8} (h : dig x = some d) : alpha.getD d.toNat 0 = x := by
  have key : ∀ n : Nat, n < 256 → (dig (UInt8.ofNat n)).all (fun d => alpha.getD d.toNat 0 == UInt8.ofNat n) = true := by decide +kernel
  have := key x.toNat x.toNat_lt
  rw [UInt8.ofNat_toNat, h] at this
  simpa using this
theorem hex2_join (d e : UInt8) (hd : d.toNat < 16) (he : e.toNat < 16) : hex2 (((0 : UInt8) <<< 4 ||| d) <<< 4 ||| e) = [alpha.getD d.toNat 0, alpha.getD e.toNat 0] := by
  have key : ∀ n : Nat, n < 16 → ∀ m : Nat, m < 16 → hex2 (((0 : UInt8) <<< 4 ||| UInt8.ofNat n) <<< 4 ||| UInt8.ofNat m) = [alpha.getD (UInt8.ofNat n).toNat 0, alpha.getD (UInt8.ofNat m).toNat 0] := by decide +kernel
  have := key d.toNat hd e.toNat he
  rwa [UInt8.ofNat_toNat, UInt8.ofNat_toNat] at this
/-- the byte that two digits write -/
def joined (l : List UInt8) (i : Nat) : UInt8 := ((0 : UInt8) <<< 4 ||| (dig (l.getD (2 * i) 0)).getD 0) <<< 4 ||| (dig (l.getD (2 * i + 1) 0)).getD 0
theorem uh_even (l : List UInt8) : ∀ i, i ≤ 32 → uh l (2 * i) = (List.range i).map (joined l) ++ List.replicate (32 - i) 0
  | 0, _ => rfl
  | i + 1, hi => by
    have ih := uh_even l i (by omega)
    have e1 : uh l (2 * i + 1) = (uh l (2 * i)).set i (((uh l (2 * i)).getD i 0) <<< 4 ||| (dig (l.getD (2 * i) 0)).getD 0) := by
      show (uh l (2 * i)).set ((2 * i) / 2) _ = _
      rw [show 2 * i / 2 = i by omega]
    have e2 : uh l (2 * i + 2) = (uh l (2 * i + 1)).set i (((uh l (2 * i + 1)).getD i 0) <<< 4 ||| (dig (l.getD (2 * i + 1) 0)).getD 0) := by
      show (uh l (2 * i + 1)).set ((2 * i + 1) / 2) _ = _
      rw [show (2 * i + 1) / 2 = i by omega]
    have hlen : (uh l (2 * i)).length = 32 := uh_length _ _
    have h0 : (uh l (2 * i)).getD i 0 = 0 := by
      rw [ih, List.getD_eq_getElem?_getD, List.getElem?_append_right (by simp)]
      rw [List.getElem?_replicate]
      split <;> rfl
    rw [show 2 * (i + 1) = 2 * i + 2 by omega, e2, e1, h0]
    have hgs : ((uh l (2 * i)).set i ((0 : UInt8) <<< 4 ||| (dig (l.getD (2 * i) 0)).getD 0)).getD i 0 = (0 : UInt8) <<< 4 ||| (dig (l.getD (2 * i) 0)).getD 0 := by
      rw [List.getD_eq_getElem?_getD, List.getElem?_set_self (by omega)]; rfl
    rw [hgs, List.set_set, ih]
    apply List.ext_getElem?
    intro j
    rw [List.getElem?_set]
    by_cases hj : i = j
    · subst hj
      rw [if_pos rfl, if_pos (by simp; omega), List.getElem?_append_left (by simp)]
      simp [joined]
    · rw [if_neg hj]
      by_cases hlt : j < i
      · rw [List.getElem?_append_left (by simp; omega), List.getElem?_append_left (by simp; omega)]
        simp [hlt, show j < i + 1 by omega]
      · rw [List.getElem?_append_right (by simp; omega), List.getElem?_append_right (by simp; omega), List.getElem?_replicate, List.getElem?_replicate]
        simp only [List.length_map, List.length_range]
        have : (j - i < 32 - i) ↔ (j - (i + 1) < 32 - (i + 1)) := by omega
        simp only [this]
theorem back_text (l : List UInt8) (hl : l.length = 64) (hg : good l 64) : hexL (uh l 64) = l := by
  have hu := uh_even l 32 (Nat.le_refl _)
  rw [show 2 * 32 = 64 from rfl] at hu
  have hul : (uh l 64).length = 32 := uh_length _ _
  have hel : ∀ i, i < 32 → (uh l 64).getD i 0 = joined l i := fun i hi => by
    rw [hu, List.getD_eq_getElem?_getD, List.getElem?_append_left (by simpa using hi)]
    simp [hi]
  have hpair : ∀ i, i < 32 → hex2 (joined l i) = [l.getD (2 * i) 0, l.getD (2 * i + 1) 0] := fun i hi => by
    obtain ⟨d, hd⟩ := Option.isSome_iff_exists.1 (hg (2 * i) (by omega))
    obtain ⟨e, he⟩ := Option.isSome_iff_exists.1 (hg (2 * i + 1) (by omega))
    unfold joined
    rw [hd, he, Option.getD_some, Option.getD_some, hex2_join d e (dig_lt16 hd) (dig_lt16 he), dig_alpha hd, dig_alpha he]
  have hh : (hexL (uh l 64)).length = 64 := by rw [hexL_length, hul]
  have all : ∀ j, j < 64 → (hexL (uh l 64)).getD j 0 = l.getD j 0 := fun j hj => by
    have hx := hexL_get (uh l 64) (j / 2) (by omega)
    rw [hel _ (by omega), hpair _ (by omega)] at hx
    rcases Nat.mod_two_eq_zero_or_one j with h | h
    · rw [show j = 2 * (j / 2) by omega, hx.1]; rfl
    · rw [show j = 2 * (j / 2) + 1 by omega, hx.2]; rfl
  apply List.ext_getElem?
  intro j
  by_cases hj : j < 64
  · have := all j hj
    rw [List.getD_eq_getElem?_getD, List.getD_eq_getElem?_getD, List.getElem?_eq_getElem (by omega), List.getElem?_eq_getElem (by omega)] at this
    rw [List.getElem?_eq_getElem (by omega), List.getElem?_eq_getElem (by omega)]
    exact congrArg some this
  · rw [List.getElem?_eq_none (by omega), List.getElem?_eq_none (by omega)]
end Go.Proofs.YtljghknojbpccaaDoor.Sp
