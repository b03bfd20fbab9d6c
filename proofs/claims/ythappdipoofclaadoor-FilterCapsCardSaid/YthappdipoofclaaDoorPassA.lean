/-
  THE WALKS OF satisfied.
-/
import Derived.Test.YthappdipoofclaaDoorRuleB
namespace Go.Proofs.YthappdipoofclaaDoor
set_option linter.unusedSimpArgs false
set_option linter.unusedVariables false
open Go.RowKit

/-- a field's number in a message -/
def fnum (f : Fld) (bs : List UInt8) : Nat := numN (bs.drop f.at_.toNat) f.size.toNat
/-- does a message satisfy a field that may be? -/
def satB (f : Fld) (bs : List UInt8) : Bool := decide (f.at_ + f.size ≤ bs.length ∧ f.low ≤ (fnum f bs : Int) ∧ (fnum f bs : Int) ≤ f.high)
theorem satB_iff {f : Fld} {bs : List UInt8} : satB f bs = true ↔ (f.at_ + f.size ≤ bs.length ∧ f.low ≤ (fnum f bs : Int) ∧ (fnum f bs : Int) ≤ f.high) := by simp [satB]
theorem satB_no {f : Fld} {bs : List UInt8} (h : ¬ (f.at_ + f.size ≤ bs.length ∧ f.low ≤ (fnum f bs : Int) ∧ (fnum f bs : Int) ≤ f.high)) : satB f bs = false := by simpa [satB] using h
theorem numN_congr (l l' : List UInt8) : ∀ k, (∀ j, j < k → l.getD j 0 = l'.getD j 0) → numN l k = numN l' k
  | 0, _ => rfl
  | k + 1, h => by
    simp only [numN]
    rw [numN_congr l l' k (fun j hj => h j (by omega)), h k (by omega)]
/-- a piece of a slice that reads -/
theorem Rd.piece {w : World} {ad : Addr} {n : Nat} {xs : List UInt8} (h : Rd w (some ad) n xs) (i k : Nat) (hk : i + k ≤ n) : Rd w (some (ad.add i)) k ((xs.drop i).take k) := by
  have hl := h.len
  refine ⟨by simp; omega, fun hp => ⟨_, rfl, fun j u hu => ?_⟩⟩
  obtain ⟨ad', e, hc⟩ := h.cells (by omega)
  obtain rfl : ad = ad' := by injection e
  rw [add_of_add]
  refine hc _ u ?_
  rw [List.map_take, List.map_drop, List.getElem?_take] at hu
  split at hu
  · rw [List.getElem?_drop] at hu
    exact hu
  · cases hu
theorem fnum_piece (f : Fld) (bs : List UInt8) (k : Nat) (hk : f.size = (k : Int)) : numN ((bs.drop f.at_.toNat).take k) k = fnum f bs := by
  unfold fnum
  rw [hk, Int.toNat_natCast]
  refine numN_congr _ _ k fun j hj => ?_
  rw [List.getD_eq_getElem?_getD, List.getElem?_take, if_pos hj, ← List.getD_eq_getElem?_getD]

set_option maxHeartbeats 1000000 in
theorem satisfied_any (f : Fld) (B : Option Addr) (m c : Nat) (bs : List UInt8) (w : World) (ho : okB f = true) (hR : Rd w B m bs) (hmc : m ≤ c) (hm : m ≤ 9223372036854775807) :
    Calls Tryd.prog 29 #[fldV f, .slice B m c] w fun e w' => e = .returned (.bool (satB f bs)) ∧ Below w.heap.size w w' := by
  obtain ⟨g1, g2, g3, g4, g5⟩ := okB_iff.1 ho
  have hlen := hR.len
  obtain ⟨p, s, l, h⟩ := f
  obtain ⟨p, rfl⟩ := Int.eq_ofNat_of_zero_le g3
  obtain ⟨s, rfl⟩ := Int.eq_ofNat_of_zero_le (show 0 ≤ s by have : (1 : Int) ≤ s := g1; omega)
  have g1' : 1 ≤ s := by have : (1 : Int) ≤ (s : Int) := g1; omega
  have g2' : s ≤ 8 := by have : (s : Int) ≤ 8 := g2; omega
  have g4' : p ≤ 64 := by have : (p : Int) ≤ 64 - (s : Int) := g4; omega
  have hbx := (Below.refl w.heap.size w).alloc (Nat.le_refl _) (.cells (fldA ⟨(p : Int), (s : Int), l, h⟩) 38)
  clear g1 g2 g3 g4 g5 ho
  by_cases h1 : p + s ≤ m
  · obtain ⟨ad, rfl, _⟩ := hR.cells (by omega)
    have hR2 := (hR.piece p s h1).grown hbx
    have hn := fnum_piece ⟨(p : Int), (s : Int), l, h⟩ bs s rfl
    rw [show (⟨(p : Int), (s : Int), l, h⟩ : Fld).at_.toNat = p from Int.toNat_natCast p] at hn
    have key : ∀ b : Bool, (decide (l ≤ (fnum ⟨(p : Int), (s : Int), l, h⟩ bs : Int)) && decide ((fnum ⟨(p : Int), (s : Int), l, h⟩ bs : Int) ≤ h)) = b → satB ⟨(p : Int), (s : Int), l, h⟩ bs = b := fun b hb => by
      rw [← hb]
      have : ((p : Int) + (s : Int) ≤ (bs.length : Int)) := by rw [hlen]; omega
      simp [satB, this]
    have KEY := Lib.hid key
    have HN := Lib.hid hn
    clear key hn hlen
    have hpc : p + s ≤ c := by omega
    have hpc2 : p < c := by omega
    go_enter Tryd.func29, Tryd.ntmps29
    go_wp2_with fail
    refine (get_any _ s (c - p) _ _ hR2 g2' g1').mono ?_
    rintro e w' ⟨rfl, rfl⟩
    rw [HN.out]
    generalize (fnum ⟨(p : Int), (s : Int), l, h⟩ bs : Int) = N at *
    clear hR hR2 HN
    by_cases hlo : l ≤ N
    · by_cases hhi : N ≤ h
      · have HK := Lib.hid (KEY.out true (by simp [hlo, hhi]))
        clear KEY
        go_wp2
        go_ret
        rw [HK.out]
        exact ⟨rfl, hbx⟩
      · have HK := Lib.hid (KEY.out false (by simp [hhi]))
        have hd : decide (N ≤ h) = false := by simpa using hhi
        clear KEY hhi
        go_wp2
        go_ret
        rw [HK.out]
        exact ⟨rfl, hbx⟩
    · have HK := Lib.hid (KEY.out false (by simp [hlo]))
      have hd : decide (l ≤ N) = false := by simpa using hlo
      clear KEY hlo
      go_wp2
      go_ret
      rw [HK.out]
      exact ⟨rfl, hbx⟩
  · rw [satB_no (by simp; omega)]
    clear hlen
    go_enter Tryd.func29, Tryd.ntmps29
    go_wp2
    go_ret
    exact ⟨rfl, hbx⟩
end Go.Proofs.YthappdipoofclaaDoor
