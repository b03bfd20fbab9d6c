/-
  THE WALK OF ShaPieces.
-/
import Derived.Test.YtljghknojbpccaaDoorLawB
namespace Go.Proofs.YtljghknojbpccaaDoor
set_option linter.unusedSimpArgs false
set_option linter.unusedVariables false
open Go.RowKit

/-- a slice of slices of bytes that reads -/
structure Rdd (w : World) (A : Option Addr) (n : Nat) (bss : List (List UInt8)) : Prop where
  len : bss.length = n
  cells : ∀ k, k < n → ∃ ad A' n' c', A = some ad ∧ w.cell? (ad.add k) = some (.slice A' n' c') ∧ Rd w A' n' (bss.getD k []) ∧ n' ≤ c' ∧ n' ≤ 9223372036854775807

/-- the bytes of the first k pieces -/
def catN (bss : List (List UInt8)) : Nat → List UInt8
  | 0 => []
  | k + 1 => catN bss k ++ (bss.getD k []).take 2000
theorem catN_len (bss : List (List UInt8)) : ∀ k, (catN bss k).length ≤ 2000 * k
  | 0 => Nat.le_refl _
  | k + 1 => by
    have := catN_len bss k
    simp only [catN, List.length_append, List.length_take]
    omega

/-- what holds at each round's head -/
structure PInv (w wr : World) (m : List UInt8) (A : Option Addr) (L c : Nat) : Prop where
  holds : Holds wr w.heap.size m
  own : wr.ownsRow w.heap.size 5 1 (.slice A L c) L (m.map U8)
  bel : Below w.heap.size w wr
theorem PInv.len {w wr : World} {m : List UInt8} {A : Option Addr} {L c : Nat} (h : PInv w wr m A L c) : m.length = L := by
  have := h.own.1
  simpa using this
theorem PInv.cap {w wr : World} {m : List UInt8} {A : Option Addr} {L c : Nat} (h : PInv w wr m A L c) : L ≤ c := by
  rcases h.own.2 with ⟨e, e2⟩ | ⟨g', cap, cur, e, _, _, hle, _⟩
  · injection e with e1 e2 e3
    omega
  · injection e with e1 e2 e3
    omega
theorem PInv.rd {w wr : World} {m : List UInt8} {A : Option Addr} {L c : Nat} (h : PInv w wr m A L c) : Rd wr A L m := by
  refine ⟨h.len, fun hp => ?_⟩
  obtain ⟨g, cap, hv, _, _⟩ := h.own.form hp
  injection hv with e1 e2 e3
  subst e1
  exact ⟨_, rfl, h.own.cells rfl⟩
/-- behind Write and append -/
theorem PInv.next {w wr w2 w3 : World} {m xs : List UInt8} {A A' : Option Addr} {L c L' c' : Nat} (h : PInv w wr m A L c) (hH : Holds w2 w.heap.size (m ++ xs)) (hf : wr.grownBy w2 (some w.heap.size))
    (hown : w3.ownsRow w.heap.size 5 1 (.slice A' L' c') L' (m.map U8 ++ xs.map U8)) (hg : w2.grownBy w3 (Value.slice A L c).ownBlock) : PInv w w3 (m ++ xs) A' L' c' := by
  have hb2 : Below w.heap.size w w2 := h.bel.grown hf h.bel.size (by rintro k hk; injection hk with hk; omega)
  obtain ⟨rst, hr, hblk⟩ := hH.ex
  have ho : w2.ownsRow w.heap.size 5 1 (.slice A L c) L (m.map U8) := by
    obtain ⟨_, _, hblk0⟩ := h.holds.ex
    exact h.own.kept hf (.inr (own_blk_ne h.own hblk0 (by decide)))
  refine ⟨hH.keep (hg.block _ hblk.lt ?_), by rw [List.map_append]; exact hown, hb2.grown hg hb2.size (fun k hk => (ho.lt k hk).1)⟩
  intro e
  exact own_blk_ne ho hblk (by decide) e.symm

theorem own_slice {w : World} {base n : Nat} {v : Value} {xs : List Value} (h : w.ownsRow base 5 1 v n xs) : ∃ A c, v = .slice A n c := by
  rcases h.2 with ⟨rfl, h2⟩ | ⟨g', cap, cur, rfl, _, _, hle, _⟩
  · subst h2
    exact ⟨none, 0, rfl⟩
  · exact ⟨_, cap, rfl⟩
theorem PInv.next' {w wr w2 w3 : World} {m xs : List UInt8} {A : Option Addr} {L c n : Nat} {v : Value} (h : PInv w wr m A L c) (hH : Holds w2 w.heap.size (m ++ xs)) (hf : wr.grownBy w2 (some w.heap.size))
    (hown : w3.ownsRow w.heap.size 5 1 v n (m.map U8 ++ xs.map U8)) (hg : w2.grownBy w3 (Value.slice A L c).ownBlock) : ∃ A' L' c', v = .slice A' L' c' ∧ PInv w w3 (m ++ xs) A' L' c' := by
  obtain ⟨A', c', rfl⟩ := own_slice hown
  exact ⟨A', n, c', rfl, h.next hH hf hown hg⟩
theorem PInv.later {w wr w' : World} {m : List UInt8} {A : Option Addr} {L c : Nat} (h : PInv w wr m A L c) (hb : Below wr.heap.size wr w') : PInv w w' m A L c := by
  refine ⟨h.holds.below hb h.holds.lt, h.own.kept (only_of_below hb none) ?_, h.bel.trans (hb.mono h.bel.size)⟩
  by_cases e : (Value.slice A L c).ownBlock = none
  · exact .inl e
  · exact .inr e
theorem PInv.own2 {w wr w2 : World} {m : List UInt8} {A : Option Addr} {L c : Nat} (h : PInv w wr m A L c) (hf : wr.grownBy w2 (some w.heap.size)) : w2.ownsRow w.heap.size 5 1 (.slice A L c) L (m.map U8) := by
  obtain ⟨_, _, hblk0⟩ := h.holds.ex
  exact h.own.kept hf (.inr (own_blk_ne h.own hblk0 (by decide)))
theorem eqD (m : List UInt8) : ∃ D, D = bytesV (Sp.digest m) ∧ ∀ W, (Op.equalIn 10000 24 (.agg D) (.agg D)).run Tryd.prog W = .ok true W :=
  ⟨_, rfl, fun W => by
    have := eq24 (Sp.digest m) (Sp.digest m) rfl rfl W
    rwa [beq_self_eq_true] at this⟩

set_option maxRecDepth 100000 in
set_option maxHeartbeats 4000000 in
theorem shaPieces_walk (A : Option Addr) (n c : Nat) (bss : List (List UInt8)) (w : World) (hR : Rdd w A n bss) (hnc : n ≤ c) (hn : n ≤ 9223372036854775807) (ht : Tables w) :
    Calls Tryd.prog 4 #[.slice A n c] w fun e w' => e = .returned (.bool true) ∧ Below w.heap.size w w' := by
  obtain ⟨i0, hi0, hz0, hz1, hz2⟩ := info_parts info5'
  have hsz := ht.size
  go_enter Tryd.func4, Tryd.ntmps4
  go_wp2_with fail
  refine (new_any w ht).mono ?_
  rintro e w1 ⟨rfl, H1, hb1⟩
  go_wp2_with fail
  go_loopw [4, 5] (fun v i wr => ∃ k L A' c', k ≤ n ∧ k ≤ 12 ∧ i = .int .i64 (k : Int) ∧ v = .slice A' L c' ∧ PInv w wr (catN bss k) A' L c') (fun _ i _ => n - (intOf i).toNat)
  case atStart => exact ⟨0, 0, none, 0, Nat.zero_le _, Nat.zero_le _, rfl, rfl, H1, ⟨rfl, .inl ⟨rfl, rfl⟩⟩, hb1⟩
  case round =>
    obtain ⟨k, L, A', c', hkn, hk12, rfl, rfl, hI⟩ := hrel
    have hml := catN_len bss k
    by_cases hgo : k < n ∧ k < 12
    · obtain ⟨hlt, h12⟩ := hgo
      obtain ⟨ad, Ak, nk, ck, rfl, hcell, hRk, hnck, hnk⟩ := hR.cells k hlt
      have hcw : wr.cell? (ad.add k) = some (.slice Ak nk ck) := (hI.bel.cell (block_lt_of_cell hcell)).trans hcell
      go_wp2_with fail
      refine (few_any Ak nk ck wr hnck hnk).mono ?_
      rintro e w' ⟨rfl, rfl⟩
      replace hRk := hRk.take 2000
      have hm1 : min nk 2000 ≤ 2000 := by omega
      have hm2 : min nk 2000 ≤ ck := by omega
      have hcat : catN bss (k + 1) = catN bss k ++ (bss.getD k []).take 2000 := rfl
      have HC := Lib.hid hcat
      clear hcat hnck hnk hcell hcw
      generalize min nk 2000 = kk at *
      generalize (bss.getD k []).take 2000 = xs at *
      generalize catN bss k = m at *
      have hxl := hRk.len
      have hlen := hI.len
      go_wp2_with fail
      refine (write_any w.heap.size Ak kk ck xs m wr hRk.len hm2 (hRk.src_in hI.bel (Nat.le_refl _)) hI.holds (by omega) (ht.below hI.bel hsz) hsz).mono ?_
      rintro e w2 ⟨rfl, H2, f2⟩
      have hb2 := Below.grow_own hI.bel f2 (Nat.le_refl _)
      have hL : L ≤ 24000 := by omega
      have hb2s := hb2.size
      clear hxl hlen
      go_wp2_with (at_builtin; refine wpList_append_any _ rfl (.tmp 26) (.tmp 27) 22 rfl w.heap.size 5 i0 _ 1 1 Tryd.underlying22 hi0 hz0 hz1 hz2 rfl (by omega) (.slice A' L c') L (m.map U8) rfl (hI.own2 f2) _ Ak kk ck (xs.map U8) rfl (hRk.grown hb2).reads (U8_one _) (by simp only [maxLen]; omega) (by omega) hb2s ?_; intro v3 w3 hown3 hg3 hat3; obtain ⟨A3, L3, c3, rfl, hI3⟩ := hI.next' H2 f2 hown3 hg3)
      clear hown3 hg3 hat3 H2 f2 hb2 hb2s
      have hl3 := hI3.len
      have hx2 := hRk.len
      have hm24 : (m ++ xs).length ≤ 26000 := by simp; omega
      refine (len_any w.heap.size (m ++ xs) w3 hI3.holds).mono ?_
      rintro e w' ⟨rfl, rfl⟩
      have hL3 : L3 ≤ 100000000 := by omega
      rw [hl3]
      clear hx2
      have Hl3 := Lib.hid hl3
      clear hl3
      by_cases hodd : k % 2 = 1
      · have ht1 : ((k : Int) % 2 == 1) = true := by rw [beq_iff_eq]; omega
        clear hodd
        go_wp2_with fail
        obtain ⟨D, hD, heq⟩ := eqD (m ++ xs)
        refine (hsum_any w.heap.size (m ++ xs) w3 hI3.holds (by omega) (ht.below hI3.bel hsz)).mono ?_
        rintro e w4 ⟨rfl, hb4⟩
        have hI4 := hI3.later hb4
        rw [← hD]
        have HD := Lib.hid hD
        clear hD
        go_wp2_with fail
        refine (refsum_any A3 L3 c3 (m ++ xs) w4 hI4.rd hL3).mono ?_
        rintro e w5 ⟨rfl, hb5⟩
        have hI5 := hI4.later hb5
        rw [← HD.out]
        go_wp2_with fail
        go_roundw
        case rel => exact ⟨k + 1, L3, A3, c3, by omega, by omega, by go_num, rfl, HC.out ▸ hI5⟩
        case measure => simp [intOf]; omega
      · have ht1 : ((k : Int) % 2 == 1) = false := by rw [beq_eq_false_iff_ne]; omega
        clear hodd
        go_wp2_with fail
        go_roundw
        case rel => exact ⟨k + 1, L3, A3, c3, by omega, by omega, by go_num, rfl, HC.out ▸ hI3⟩
        case measure => simp [intOf]; omega
    · have hm24 : (catN bss k).length ≤ 24000 := by omega
      have hlen := hI.len
      have hL3 : L ≤ 100000000 := by omega
      clear hlen hml
      generalize catN bss k = m at *
      by_cases hlt : k < n
      all_goals
        go_wp2_with fail
        obtain ⟨D, hD, heq⟩ := eqD m
        refine (hsum_any w.heap.size m wr hI.holds (by omega) (ht.below hI.bel hsz)).mono ?_
        rintro e w2 ⟨rfl, hb2⟩
        have hI2 := hI.later hb2
        rw [← hD]
        have HD := Lib.hid hD
        clear hD
        go_wp2_with fail
        refine (refsum_any A' L c' m w2 hI2.rd hL3).mono ?_
        rintro e w3 ⟨rfl, hb3⟩
        have hI3 := hI2.later hb3
        rw [← HD.out]
        go_wp2_with fail
        refine (hsum_any w.heap.size m w3 hI3.holds (by omega) (ht.below hI3.bel hsz)).mono ?_
        rintro e w4 ⟨rfl, hb4⟩
        have hI4 := hI3.later hb4
        rw [← HD.out]
        go_wp2_with fail
        refine (sum_any A' L c' m w4 hI4.cap hI4.rd (by omega) (ht.below hI4.bel hsz)).mono ?_
        rintro e w5 ⟨rfl, hb5⟩
        have hI5 := hI4.later hb5
        rw [← HD.out]
        go_wp2_with fail
        refine (awake_any w5 (ht.below hI5.bel hsz)).mono ?_
        rintro e w6 ⟨rfl, hb6⟩
        have hI6 := hI5.later hb6
        go_wp2_with fail
        go_ret
        exact ⟨rfl, hI6.bel⟩
end Go.Proofs.YtljghknojbpccaaDoor
