/-
  THE WALK OF ShaSums.
-/
import Derived.Test.YtljghknojbpccaaDoorAwake
namespace Go.Proofs.YtljghknojbpccaaDoor
set_option linter.unusedSimpArgs false
set_option linter.unusedVariables false
open Go.RowKit

theorem conv_rd (xs : List UInt8) (A : Option Addr) (n c : Nat) (w : World) (h : Rd w A n xs) : (convert 22 9 (.slice A n c)).run Tryd.prog w = .ok (.string ⟨xs.toArray⟩) w := by
  rcases A with _ | ad
  · have hn : n = 0 := by
      rcases Nat.eq_zero_or_pos n with h0 | h0
      · exact h0
      · obtain ⟨_, h1, _⟩ := h.cells h0; cases h1
    subst hn
    have hx : xs = [] := List.eq_nil_of_length_eq_zero h.len
    subst hx
    exact run_convert_bytes_nil w 22 5 Tryd.underlying22 Tryd.underlying5 0 c 9 (by kernel_rfl)
  · rcases Nat.eq_zero_or_pos n with h0 | h0
    · subst h0
      have hx : xs = [] := List.eq_nil_of_length_eq_zero h.len
      subst hx
      exact conv_string [] ad c w (fun j u hu => by simp at hu) 0 rfl
    · obtain ⟨ad', e, hc⟩ := h.cells h0
      obtain rfl : ad = ad' := by injection e
      exact conv_string xs ad c w hc n h.len
theorem Rd.take {w : World} {A : Option Addr} {n : Nat} {xs : List UInt8} (h : Rd w A n xs) (k : Nat) : Rd w A (min n k) (xs.take k) := by
  refine ⟨by have := h.len; simp; omega, fun hn => ?_⟩
  obtain ⟨ad, e, hc⟩ := h.cells (by omega)
  refine ⟨ad, e, fun j u hu => hc j u ?_⟩
  rw [List.map_take, List.getElem?_take] at hu
  split at hu
  · exact hu
  · cases hu
theorem own_form {w : World} {base n : Nat} {v : Value} {xs : List Value} {g : Nat} (h : w.ownsRow base 5 1 v n xs) (hg : v.ownBlock = some g) : ∃ cap, v = .slice (some ⟨g, 0, none⟩) n cap ∧ n ≤ cap := by
  rcases h.2 with ⟨rfl, _⟩ | ⟨g', cap, cur, rfl, _, _, hle, _⟩
  · simp [Value.ownBlock] at hg
  · have : g' = g := by simpa [Value.ownBlock] using hg
    subst this
    exact ⟨cap, rfl, hle⟩
theorem own_rd {w : World} {base n g cap : Nat} {xs : List UInt8} (h : w.ownsRow base 5 1 (.slice (some ⟨g, 0, none⟩) n cap) n (xs.map U8)) : Rd w (some ⟨g, 0, none⟩) n xs :=
  ⟨by have := h.1; simpa using this, fun _ => ⟨_, rfl, h.cells rfl⟩⟩
theorem eq24 (a b : List UInt8) (ha : a.length = 32) (hb : b.length = 32) (w : World) : (Op.equalIn 10000 24 (.agg (bytesV a)) (.agg (bytesV b))).run Tryd.prog w = .ok (a == b) w :=
  run_equalIn_bytes w 9998 24 5 32 Tryd.underlying24 Tryd.underlying5 (fun _ => by kernel_rfl) a b ha hb

set_option maxRecDepth 100000 in
set_option maxHeartbeats 1000000 in
theorem shaSums_walk (A : Option Addr) (n c : Nat) (bs : List UInt8) (w : World) (hR : Rd w A n bs) (hnc : n ≤ c) (hn : n ≤ 9223372036854775807) (ht : Tables w) :
    Calls Tryd.prog 3 #[.slice A n c] w fun e w' => e = .returned (.bool true) ∧ Below w.heap.size w w' := by
  obtain ⟨i0, hi0, hz0, hz1, hz2⟩ := info_parts info5'
  have hsz := ht.size
  have hR2 := hR.take 2000
  have hb0 := (Below.refl w.heap.size w).alloc (Nat.le_refl _) (.cells #[] 5)
  have hown0 := World.ownsRow_lit (base := w.heap.size) (e := 5) (size := 1) w #[] 0 (Nat.le_refl _) (by simp [maxLen]) rfl
  have hrd := (hR2.grown hb0).reads
  have hm1 : min n 2000 ≤ 2000 := by omega
  have hm2 : min n 2000 ≤ c := by omega
  go_enter Tryd.func3, Tryd.ntmps3
  go_wp2_with fail
  refine (few_any A n c w hnc hn).mono ?_
  rintro e w' ⟨rfl, rfl⟩
  generalize min n 2000 = k at hR2 hrd hm1 hm2
  generalize bs.take 2000 = xs at hR2 hrd
  go_wp2_with (at_builtin; refine wpList_append_any _ rfl (.tmp 6) (.tmp 7) 22 rfl w.heap.size 5 i0 _ 1 1 Tryd.underlying22 hi0 hz0 hz1 hz2 rfl (by omega) _ 0 _ rfl hown0 _ A k c (xs.map U8) rfl hrd (U8_one _) (by simp only [maxLen]; omega) (by omega) (by simp) ?_; intro v1 w1 hown1 hg1 hat1)
  have hbel1 : Below w.heap.size w w1 := hb0.grown hg1 (by simp) (fun k hk => (hown0.lt k hk).1)
  obtain ⟨g, hgv⟩ : ∃ g, v1.ownBlock = some g := by
    rcases hat1 with e | e
    · exact ⟨_, e.trans rfl⟩
    · exact ⟨_, e⟩
  have hown2 : w1.ownsRow w.heap.size 5 1 v1 k (xs.map U8) := by
    rw [Nat.zero_add, List.nil_append] at hown1
    exact hown1
  obtain ⟨cap, hv1, hcap⟩ := own_form hown2 hgv
  rw [hv1] at hown2
  rw [hv1]
  have hRin := own_rd hown2
  have hRb := hR2.grown hbel1
  have hxl : xs.length ≤ 2000 := by have := hR2.len; omega
  clear hg1 hat1 hown1 hown2 hv1 hgv hrd hown0 hb0
  refine (sum_any A k c xs w1 hm2 hRb (by omega) (ht.below hbel1 hsz)).mono ?_
  rintro e w2 ⟨rfl, hb2⟩
  have hbel2 := hbel1.trans (hb2.mono hbel1.size)
  have hRin2 := hRin.grown hb2
  have hRb2 := hRb.grown hb2
  go_wp2_with fail
  refine (refsum_any _ k cap xs w2 hRin2 (by omega)).mono ?_
  rintro e w3 ⟨rfl, hb3⟩
  have hbel3 := hbel2.trans (hb3.mono hbel2.size)
  have hcv1 := conv_rd xs _ k cap w3 (hRin2.grown hb3)
  have hcv2 := conv_rd xs A k c w3 (hRb2.grown hb3)
  have heq := fun W => eq24 (Sp.digest xs) (Sp.digest xs) rfl rfl W
  simp only [beq_self_eq_true] at heq
  go_wp2_with fail
  refine (awake_any w3 (ht.below hbel3 hsz)).mono ?_
  rintro e w4 ⟨rfl, hb4⟩
  have hbel4 := hbel3.trans (hb4.mono hbel3.size)
  go_wp2_with fail
  go_ret
  exact ⟨rfl, hbel4⟩
end Go.Proofs.YtljghknojbpccaaDoor
