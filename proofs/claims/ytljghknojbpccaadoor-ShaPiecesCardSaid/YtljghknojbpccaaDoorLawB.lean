/-
  THE WALK OF ShaCopies.
-/
import Derived.Test.YtljghknojbpccaaDoorLawA
import Derived.Deep.RegionHeld3
import Derived.IntWalk
namespace Go.Proofs.YtljghknojbpccaaDoor
set_option linter.unusedSimpArgs false
set_option linter.unusedVariables false
open Go.RowKit

theorem Holds.other {w w' : World} {g g' : Nat} {m : List UInt8} (h : Holds w g m) (hf : w.grownBy w' (some g')) (hne : g ≠ g') : Holds w' g m := h.keep (hf.block g h.lt (by simpa using hne))
theorem Below.grow_own {w0 w w' : World} {g : Nat} (h : Below w0.heap.size w0 w) (hf : w.grownBy w' (some g)) (hg : w0.heap.size ≤ g) : Below w0.heap.size w0 w' :=
  h.grown hf h.size (by rintro k hk; injection hk with hk; omega)
theorem Blk.range {w : World} {g : Nat} {t : TypeId} {l : List Value} (h : Blk w g t l.toArray) : w.rangeAt g 0 l := fun j v hj => by
  rw [h.cell]
  simpa using hj
theorem range_below {w w' : World} {g : Nat} {l : List Value} (h : w.rangeAt g 0 l) (hb : Below w.heap.size w w') : w'.rangeAt g 0 l := fun j v hj =>
  (hb.cell (block_lt_of_cell (h j v hj))).trans (h j v hj)

/-- what holds in the last region -/
structure CopS (w : World) (g gx a b : Nat) (m1 m2 : List UInt8) (E1 E2 : List Value) (W : World) : Prop where
  h1 : Holds W g m1
  h2 : Holds W gx m2
  r1 : W.rangeAt a 0 E1
  r2 : W.rangeAt b 0 E2
  bel : Below w.heap.size w W
theorem CopS.drew {w W : World} {g gx a b : Nat} {m1 m2 : List UInt8} {E1 E2 : List Value} (h : CopS w g gx a b m1 m2 E1 E2 W) : CopS w g gx a b m1 m2 E1 E2 W.drew :=
  ⟨h.h1.keep rfl, h.h2.keep rfl, (World.rangeAt_drew _ _ _ _).2 h.r1, (World.rangeAt_drew _ _ _ _).2 h.r2, h.bel.drew⟩
theorem CopS.grown {w W W' : World} {g gx a b : Nat} {m1 m2 : List UInt8} {E1 E2 : List Value} (h : CopS w g gx a b m1 m2 E1 E2 W) (hb : Below W.heap.size W W') : CopS w g gx a b m1 m2 E1 E2 W' :=
  ⟨h.h1.below hb h.h1.lt, h.h2.below hb h.h2.lt, range_below h.r1 hb, range_below h.r2 hb, h.bel.trans (hb.mono h.bel.size)⟩

/-- a sum is laid into a block of its own -/
theorem store24_new {ops : Array Oper} {rest : List Oper} {o : Oper} {a : Act} {Q : Exit → Act → World → Prop} (w9 : World) (z : Array Value) (hgd : o.guard = none) (x y : Operand) (ho : o.op = .store 24 x y) (hx : a.eval x = .pointer (some ⟨w9.heap.size, 0, none⟩))
    (cs : Array Value) (hy : a.eval y = .agg cs) (hs : cs.size = 32) (h1 : cs.all (·.oneCell') = true) (hz : z.size = 32)
    (h : ∀ W', Blk W' w9.heap.size 24 cs → Below w9.heap.size w9 W' → wpList Tryd.prog ops Q rest (a.put o.dst undef) W') :
    wpList Tryd.prog ops Q (o :: rest) a (w9.alloc (.cells z 24)) := by
  have hr := Blk.new w9 24 z
  exact store24 hgd x y ho w9.heap.size hx cs hy z hr hz hs h1
    (h _ (hr.setRow cs) (below_setRow ((Below.refl w9.heap.size w9).alloc (Nat.le_refl _) _) (Nat.le_refl _) _))

/-- a row of the call's own behind two appends onto an empty literal -/
theorem two_own {w5 w7 w8 : World} {v1 v2 : Value} {k1 k2 : Nat} {xs ys : List UInt8} (h1 : w7.ownsRow w5.heap.size 5 1 v1 k1 (xs.map U8))
    (g1 : (w5.alloc (.cells #[] 5)).grownBy w7 (Value.slice (some ⟨w5.heap.size, 0, none⟩) 0 0).ownBlock)
    (a1 : v1.ownBlock = (Value.slice (some ⟨w5.heap.size, 0, none⟩) 0 0).ownBlock ∨ v1.ownBlock = some (w5.alloc (.cells #[] 5)).heap.size)
    (h2 : w8.ownsRow w5.heap.size 5 1 v2 (k1 + k2) (xs.map U8 ++ ys.map U8)) (g2 : w7.grownBy w8 v1.ownBlock)
    (a2 : v2.ownBlock = v1.ownBlock ∨ v2.ownBlock = some w7.heap.size) :
    ∃ g cap, v2 = .slice (some ⟨g, 0, none⟩) (k1 + k2) cap ∧ k1 + k2 ≤ cap ∧ Rd w8 (some ⟨g, 0, none⟩) (k1 + k2) (xs ++ ys) ∧ Below w5.heap.size w5 w8 := by
  have b0 : Below w5.heap.size w5 (w5.alloc (.cells #[] 5)) := (Below.refl _ _).alloc (Nat.le_refl _) _
  have o0 := World.ownsRow_lit (base := w5.heap.size) (e := 5) (size := 1) w5 #[] 0 (Nat.le_refl _) (by simp [maxLen]) rfl
  have b1 : Below w5.heap.size w5 w7 := b0.grown g1 (by simp) (fun k hk => (o0.lt k hk).1)
  have b2 : Below w5.heap.size w5 w8 := b1.grown g2 b1.size (fun k hk => (h1.lt k hk).1)
  have hv1 : ∃ g, v1.ownBlock = some g := by
    rcases a1 with e | e
    · exact ⟨_, e.trans rfl⟩
    · exact ⟨_, e⟩
  have hv2 : ∃ g, v2.ownBlock = some g := by
    rcases a2 with e | e
    · obtain ⟨g, hg⟩ := hv1
      exact ⟨g, e.trans hg⟩
    · exact ⟨_, e⟩
  obtain ⟨g, hg⟩ := hv2
  rw [← List.map_append] at h2
  obtain ⟨cap, e, hc⟩ := own_form h2 hg
  subst e
  exact ⟨g, cap, rfl, hc, own_rd h2, b2⟩

set_option maxRecDepth 100000 in
set_option maxHeartbeats 4000000 in
theorem shaCopies_walk (A1 A2 A3 : Option Addr) (n1 n2 n3 c1 c2 c3 : Nat) (bs1 bs2 bs3 : List UInt8) (w : World) (hR1 : Rd w A1 n1 bs1) (hR2 : Rd w A2 n2 bs2) (hR3 : Rd w A3 n3 bs3)
    (hnc1 : n1 ≤ c1) (hnc2 : n2 ≤ c2) (hnc3 : n3 ≤ c3) (hn1 : n1 ≤ 9223372036854775807) (hn2 : n2 ≤ 9223372036854775807) (hn3 : n3 ≤ 9223372036854775807) (ht : Tables w) :
    Calls Tryd.prog 5 #[.slice A1 n1 c1, .slice A2 n2 c2, .slice A3 n3 c3] w fun e w' => e = .returned (.bool true) ∧ Below w.heap.size w w' := by
  obtain ⟨i0, hi0, hz0, hz1, hz2⟩ := info_parts info5'
  have hsz := ht.size
  replace hR1 := hR1.take 2000
  replace hR2 := hR2.take 2000
  replace hR3 := hR3.take 2000
  have hm1 : min n1 2000 ≤ 2000 := by omega
  have hm2 : min n2 2000 ≤ 2000 := by omega
  have hm3 : min n3 2000 ≤ 2000 := by omega
  have hd1 : min n1 2000 ≤ c1 := by omega
  have hd2 : min n2 2000 ≤ c2 := by omega
  have hd3 : min n3 2000 ≤ c3 := by omega
  go_enter Tryd.func5, Tryd.ntmps5
  go_wp2_with fail
  refine (few_any A1 n1 c1 w hnc1 hn1).mono ?_
  rintro e w' ⟨rfl, rfl⟩
  go_wp2_with fail
  refine (few_any A2 n2 c2 w hnc2 hn2).mono ?_
  rintro e w' ⟨rfl, rfl⟩
  go_wp2_with fail
  refine (few_any A3 n3 c3 w hnc3 hn3).mono ?_
  rintro e w' ⟨rfl, rfl⟩
  clear hnc1 hnc2 hnc3 hn1 hn2 hn3
  generalize min n1 2000 = k1 at hR1 hm1 hd1
  generalize min n2 2000 = k2 at hR2 hm2 hd2
  generalize min n3 2000 = k3 at hR3 hm3 hd3
  generalize bs1.take 2000 = xs at hR1
  generalize bs2.take 2000 = ys at hR2
  generalize bs3.take 2000 = zs at hR3
  have hl1 := hR1.len
  have hl2 := hR2.len
  have hl3 := hR3.len
  go_wp2_with fail
  refine (new_any w ht).mono ?_
  rintro e w1 ⟨rfl, H1, hb1⟩
  go_wp2_with fail
  refine (write_any w.heap.size A1 k1 c1 xs [] w1 hl1 hd1 (hR1.src_in hb1 (Nat.le_refl _)) H1 (by simp; omega) (ht.below hb1 hsz) hsz).mono ?_
  rintro e w2 ⟨rfl, H2, f2⟩
  rw [List.nil_append] at H2
  have hb2 := Below.grow_own hb1 f2 (Nat.le_refl _)
  go_wp2_with fail
  refine (copy_any w.heap.size xs w2 H2).mono ?_
  rintro e w3 ⟨rfl, H3x, hbc⟩
  have H3 := H2.below hbc H2.lt
  have hne : w.heap.size ≠ w2.heap.size := Nat.ne_of_lt H2.lt
  have hb3 := hb2.trans (hbc.mono hb2.size)
  have hgx : w.heap.size ≤ w2.heap.size := hb2.size
  generalize w2.heap.size = gx at H3x hne hgx hbc
  go_wp2_with fail
  refine (write_any w.heap.size A2 k2 c2 ys xs w3 hl2 hd2 (hR2.src_in hb3 (Nat.le_refl _)) H3 (by omega) (ht.below hb3 hsz) hsz).mono ?_
  rintro e w4 ⟨rfl, H4, f4⟩
  have H4x := H3x.other f4 (Ne.symm hne)
  have hb4 := Below.grow_own hb3 f4 (Nat.le_refl _)
  go_wp2_with fail
  refine (write_any gx A3 k3 c3 zs xs w4 hl3 hd3 (hR3.src_in hb4 hgx) H4x (by omega) (ht.below hb4 hsz) (by omega)).mono ?_
  rintro e w5 ⟨rfl, H5x, f5⟩
  have H5 := H4.other f5 hne
  have hb5 := Below.grow_own hb4 f5 hgx
  clear f2 f4 f5 hbc H1 H2 H3 H3x H4 H4x
  -- the first sum's own row
  have hb6 := hb5.alloc hb5.size (.cells #[] 5)
  have hown0 := World.ownsRow_lit (base := w5.heap.size) (e := 5) (size := 1) w5 #[] 0 (Nat.le_refl _) (by simp [maxLen]) rfl
  have hrd1 := (hR1.grown hb6).reads
  have hlt5 := H5.lt
  have hlt5x := H5x.lt
  have hg5 : w.heap.size ≤ w5.heap.size := hb5.size
  go_wp2_with (first
    | (at_builtin; refine wpList_append_any _ rfl (.tmp 29) (.tmp 30) 22 rfl w5.heap.size 5 i0 _ 1 1 Tryd.underlying22 hi0 hz0 hz1 hz2 rfl (by omega) (.slice (some ⟨w5.heap.size, 0, none⟩) 0 0) 0 _ rfl hown0 _ A1 k1 c1 (xs.map U8) rfl hrd1 (U8_one _) (by simp only [maxLen]; omega) (by omega) (by simp) ?_; intro v1 w7 hown1 hg1 hat1; rw [Nat.zero_add, List.nil_append] at hown1)
    | (at_builtin; refine wpList_append_any _ rfl (.tmp 31) (.tmp 32) 22 rfl w5.heap.size 5 i0 _ 1 1 Tryd.underlying22 hi0 hz0 hz1 hz2 rfl (by omega) v1 k1 (xs.map U8) rfl hown1 _ A2 k2 c2 (ys.map U8) rfl (hR2.grown (hb6.grown hg1 (by simp; omega) (fun k hk => Nat.le_trans hg5 (hown0.lt k hk).1))).reads (U8_one _) (by simp only [maxLen]; omega) (by omega) (by have := hg1.size; simp at this; omega) ?_; intro v2 w8 hown2 hg2 hat2))
  obtain ⟨g7, cap7, rfl, hcap7, hRd7, hb58⟩ := two_own hown1 hg1 hat1 hown2 hg2 hat2
  clear hown1 hg1 hat1 hown2 hg2 hat2 hown0 hrd1 hb6
  have hb8 := hb5.trans (hb58.mono hg5)
  have H8 := H5.below hb58 hlt5
  have H8x := H5x.below hb58 hlt5x
  have hlA : (xs ++ ys).length ≤ 100000000 := by simp; omega
  have hlB : (xs ++ zs).length ≤ 100000000 := by simp; omega
  obtain ⟨D1, hD1⟩ : ∃ D, D = Sp.digest (xs ++ ys) := ⟨_, rfl⟩
  obtain ⟨D2, hD2⟩ : ∃ D, D = Sp.digest (xs ++ zs) := ⟨_, rfl⟩
  have hD1l : (bytesV D1).size = 32 := by rw [bytesV_size, hD1]; rfl
  have hD2l : (bytesV D2).size = 32 := by rw [bytesV_size, hD2]; rfl
  replace hD1 := Lib.hid hD1
  replace hD2 := Lib.hid hD2
  refine (sum_any _ _ cap7 (xs ++ ys) w8 hcap7 hRd7 hlA (ht.below hb8 hsz)).mono ?_
  rintro e w9 ⟨rfl, hb9⟩
  rw [← hD1.out]
  have H9 := H8.below hb9 H8.lt
  have H9x := H8x.below hb9 H8x.lt
  have hbel9 := hb8.trans (hb9.mono hb8.size)
  have hg9 : w.heap.size ≤ w9.heap.size := hbel9.size
  clear hb58 hb8 H8 H8x hb9 hRd7 hcap7
  go_wp2_with (first
    | (refine store24_new w9 _ rfl (.tmp 9) (.tmp 34) rfl rfl (bytesV D1) rfl hD1l (bytesV_one _) (by rfl) ?_; intro w10 hrA hb910)
    | (at_builtin; refine wpList_append_any _ rfl (.tmp 35) (.tmp 36) 22 rfl w10.heap.size 5 i0 _ 1 1 Tryd.underlying22 hi0 hz0 hz1 hz2 rfl (by omega) (.slice (some ⟨w10.heap.size, 0, none⟩) 0 0) 0 _ rfl
        (World.ownsRow_lit (base := w10.heap.size) (e := 5) (size := 1) w10 #[] 0 (Nat.le_refl _) (by simp [maxLen]) rfl) _ A1 k1 c1 (xs.map U8) rfl (hR1.grown ((hbel9.trans (hb910.mono hg9)).alloc (Nat.le_trans hg9 hb910.size) (.cells #[] 5))).reads (U8_one _) (by simp only [maxLen]; omega) (by omega) (by simp) ?_
       intro v1 w11 hown1 hg1 hat1; rw [Nat.zero_add, List.nil_append] at hown1)
    | (at_builtin; refine wpList_append_any _ rfl (.tmp 37) (.tmp 38) 22 rfl w10.heap.size 5 i0 _ 1 1 Tryd.underlying22 hi0 hz0 hz1 hz2 rfl (by omega) v1 k1 (xs.map U8) rfl hown1 _ A3 k3 c3 (zs.map U8) rfl
        (hR3.grown (((hbel9.trans (hb910.mono hg9)).alloc (Nat.le_trans hg9 hb910.size) (.cells #[] 5)).grown hg1 (by have := hb910.size; simp; omega) (fun k hk => by have := hb910.size; simp [Value.ownBlock] at hk; omega))).reads (U8_one _) (by simp only [maxLen]; omega) (by omega) (by have := hg1.size; simp at this; omega) ?_
       intro v2 w12 hown2 hg2 hat2))
  obtain ⟨g12, cap12, rfl, hcap12, hRd12, hbC⟩ := two_own hown1 hg1 hat1 hown2 hg2 hat2
  clear hown1 hg1 hat1 hown2 hg2 hat2
  have hbel12 := (hbel9.trans (hb910.mono hg9)).trans (hbC.mono (Nat.le_trans hg9 hb910.size))
  refine (sum_any _ _ cap12 (xs ++ zs) w12 hcap12 hRd12 hlB (ht.below hbel12 hsz)).mono ?_
  rintro e w13 ⟨rfl, hb13⟩
  rw [← hD2.out]
  have hX := hb910.trans ((hbC.trans (hb13.mono hbC.size)).mono hb910.size)
  have hrB := (hrA.below hbC hrA.lt).below hb13 (Nat.lt_of_lt_of_le hrA.lt hbC.size)
  go_wp2_with (refine store24_new w13 _ rfl (.tmp 10) (.tmp 40) rfl rfl (bytesV D2) rfl hD2l (bytesV_one _) (by rfl) ?_; intro w14 hrD hbD)
  have hY : Below w9.heap.size w9 w14 := hX.trans (hbD.mono hX.size)
  have hS : CopS w w.heap.size gx w9.heap.size w13.heap.size (xs ++ ys) (xs ++ zs) (D1.map U8) (D2.map U8) w14 :=
    ⟨H9.below hY H9.lt, H9x.below hY H9x.lt, (hrB.below hbD hrB.lt).range, hrD.range, hbel9.trans (hY.mono hg9)⟩
  have c15g : ∀ W, CopS w w.heap.size gx w9.heap.size w13.heap.size (xs ++ ys) (xs ++ zs) (D1.map U8) (D2.map U8) W → Calls Tryd.prog 15 #[.pointer (some ⟨w.heap.size, 0, none⟩)] W fun e W' => e = .returned (.agg (List.map U8 D1).toArray) ∧ CopS w w.heap.size gx w9.heap.size w13.heap.size (xs ++ ys) (xs ++ zs) (D1.map U8) (D2.map U8) W' :=
    fun W h => (hsum_any w.heap.size (xs ++ ys) W h.h1 hlA (ht.below h.bel hsz)).mono fun e W' ⟨he, hb⟩ => ⟨by rw [he, ← hD1.out]; rfl, h.grown hb⟩
  have c15x : ∀ W, CopS w w.heap.size gx w9.heap.size w13.heap.size (xs ++ ys) (xs ++ zs) (D1.map U8) (D2.map U8) W → Calls Tryd.prog 15 #[.pointer (some ⟨gx, 0, none⟩)] W fun e W' => e = .returned (.agg (List.map U8 D2).toArray) ∧ CopS w w.heap.size gx w9.heap.size w13.heap.size (xs ++ ys) (xs ++ zs) (D1.map U8) (D2.map U8) W' :=
    fun W h => (hsum_any gx (xs ++ zs) W h.h2 hlB (ht.below h.bel hsz)).mono fun e W' ⟨he, hb⟩ => ⟨by rw [he, ← hD2.out]; rfl, h.grown hb⟩
  have c14g : ∀ W, CopS w w.heap.size gx w9.heap.size w13.heap.size (xs ++ ys) (xs ++ zs) (D1.map U8) (D2.map U8) W → Calls Tryd.prog 14 #[.pointer (some ⟨w.heap.size, 0, none⟩)] W fun e W' => e = .returned (.int .i64 ((k1 : Int) + (k2 : Int))) ∧ CopS w w.heap.size gx w9.heap.size w13.heap.size (xs ++ ys) (xs ++ zs) (D1.map U8) (D2.map U8) W' :=
    fun W h => (len_any w.heap.size (xs ++ ys) W h.h1).mono fun e W' ⟨he, hb⟩ => ⟨by rw [he, List.length_append, hl1, hl2]; rfl, hb ▸ h⟩
  have c14x : ∀ W, CopS w w.heap.size gx w9.heap.size w13.heap.size (xs ++ ys) (xs ++ zs) (D1.map U8) (D2.map U8) W → Calls Tryd.prog 14 #[.pointer (some ⟨gx, 0, none⟩)] W fun e W' => e = .returned (.int .i64 ((k1 : Int) + (k3 : Int))) ∧ CopS w w.heap.size gx w9.heap.size w13.heap.size (xs ++ ys) (xs ++ zs) (D1.map U8) (D2.map U8) W' :=
    fun W h => (len_any gx (xs ++ zs) W h.h2).mono fun e W' ⟨he, hb⟩ => ⟨by rw [he, List.length_append, hl1, hl3]; rfl, hb ▸ h⟩
  have c11 : ∀ W, CopS w w.heap.size gx w9.heap.size w13.heap.size (xs ++ ys) (xs ++ zs) (D1.map U8) (D2.map U8) W → Calls Tryd.prog 11 #[] W fun e W' => e = .returned (.bool true) ∧ CopS w w.heap.size gx w9.heap.size w13.heap.size (xs ++ ys) (xs ++ zs) (D1.map U8) (D2.map U8) W' :=
    fun W h => (awake_any W (ht.below h.bel hsz)).mono fun e W' ⟨he, hb⟩ => ⟨he, h.grown hb⟩
  have hL1 : D1.length = 32 := by rw [bytesV_size] at hD1l; exact hD1l
  have hL2 : D2.length = 32 := by rw [bytesV_size] at hD2l; exact hD2l
  have e1 : ∀ W, (Op.equalIn 10000 24 (.agg (List.map U8 D1).toArray) (.agg (List.map U8 D1).toArray)).run Tryd.prog W = .ok true W := fun W => by
    have := eq24 D1 D1 hL1 hL1 W
    rwa [beq_self_eq_true] at this
  have e2 : ∀ W, (Op.equalIn 10000 24 (.agg (List.map U8 D2).toArray) (.agg (List.map U8 D2).toArray)).run Tryd.prog W = .ok true W := fun W => by
    have := eq24 D2 D2 hL2 hL2 W
    rwa [beq_self_eq_true] at this
  have hw1 : IntKind.i64.wrap ((k1 : Int) + (k2 : Int)) = (k1 : Int) + (k2 : Int) := IntWalk.i64_in _ (by omega)
  have hw2 : IntKind.i64.wrap ((k1 : Int) + (k3 : Int)) = (k1 : Int) + (k3 : Int) := IntWalk.i64_in _ (by omega)
  have hu24 := Tryd.underlying24
  have hi1 : (Tryd.prog.info? 24).map (·.size) = some (List.map U8 D1).length := by rw [List.length_map, hL1]; exact info24
  have hi2 : (Tryd.prog.info? 24).map (·.size) = some (List.map U8 D2).length := by rw [List.length_map, hL2]; exact info24
  clear H9 H9x H5 H5x hrA hrB hrD hbD hY hX hb13 hbC hRd12 hbel12 hb910 hbel9 hcap12 hi0 hz0 hz1 hz2 hR1 hR2 hR3 hb1 hb2 hb3 hb4 hb5
  generalize List.map U8 D1 = E1 at *
  generalize List.map U8 D2 = E2 at *
  refine wp_region_noPanic ?_
  refine wp_region_held_drew (S := CopS w w.heap.size gx w9.heap.size w13.heap.size (xs ++ ys) (xs ++ zs) E1 E2) (by kernel_rfl) hS.drew (fun hH => ?_)
  refine wpAnyH_take (i := 0) (oi := { dst := some 41, op := Op.move (Operand.tmp 7), type := 29, pos := "law.go:69", after := #[], guard := none }) (v := .pointer (some ⟨w.heap.size, 0, none⟩)) rfl (by kernel_rfl) (by kernel_rfl) (by kernel_rfl) (fun _ _ _ h => h) (Or.inl ⟨by rfl, fun w hw => by go_simp⟩) hH ?_
  try simp only [Act.put, List.setIfInBounds_toArray, List.set_cons_zero, List.set_cons_succ]
  refine wpAnyH_take (i := 2) (oi := { dst := some 43, op := Op.load 24 (Operand.tmp 9), type := 24, pos := "law.go:69", after := #[], guard := none }) (v := .agg (List.toArray E1)) rfl (by kernel_rfl) (by kernel_rfl) (by kernel_rfl) (fun _ _ _ h => h) (yieldsIf_load_mid (by rfl) _ _ rfl _ _ rfl E1 _ (fun _ h => h.r1) Tryd.underlying24 rfl hi1) hH ?_
  try simp only [Act.put, List.setIfInBounds_toArray, List.set_cons_zero, List.set_cons_succ]
  refine wpAnyH_ready (rs := [1]) (by kernel_rfl) (by simp) ?_
  refine AllReadyH.cons (o := { dst := some 42, op := Op.call { callee := Callee.value (Operand.func 15), args := #[Operand.tmp 41], argTypes := #[29] }, type := 24, pos := "law.go:69", after := #[{ on := 0, ground := Ground.data }], guard := none }) rfl (fun K hK => ?_) AllReadyH.nil
  go_simp
  refine (c15g _ hH).mono ?_
  rintro e W1 ⟨rfl, hC⟩
  go_wp2_with fail
  refine hK.out _ _ hC (fun hC2 => ?_)
  clear hK K hH hC2
  have hH := hC
  clear hC
  try simp only [Act.put, List.setIfInBounds_toArray, List.set_cons_zero, List.set_cons_succ]
  refine wpAnyH_take (i := 3) (oi := { dst := some 44, op := Op.binOp BinOp.eql 24 (Operand.tmp 42) (Operand.tmp 43) 24, type := 4, pos := "law.go:69", after := #[{ on := 1, ground := Ground.data }, { on := 2, ground := Ground.data }], guard := none }) (v := .bool true) rfl (by kernel_rfl) (by kernel_rfl) (by kernel_rfl) (fun _ _ _ h => h) (Or.inl ⟨by rfl, fun w hw => by go_simp⟩) hH ?_
  try simp only [Act.put, List.setIfInBounds_toArray, List.set_cons_zero, List.set_cons_succ]
  refine wpAnyH_take (i := 4) (oi := { dst := some 45, op := Op.move (Operand.tmp 44), type := 4, pos := "law.go:69", after := #[{ on := 3, ground := Ground.data }, { on := 1, ground := Ground.chain }], guard := none }) (v := .bool true) rfl (by kernel_rfl) (by kernel_rfl) (by kernel_rfl) (fun _ _ _ h => h) (Or.inl ⟨by rfl, fun w hw => by go_simp⟩) hH ?_
  try simp only [Act.put, List.setIfInBounds_toArray, List.set_cons_zero, List.set_cons_succ]
  refine wpAnyH_take (i := 5) (oi := { dst := some 46, op := Op.move (Operand.tmp 8), type := 29, pos := "law.go:69", after := #[{ on := 4, ground := Ground.guard }], guard := some (4, true) }) (v := .pointer (some ⟨gx, 0, none⟩)) rfl (by kernel_rfl) (by kernel_rfl) (by kernel_rfl) (fun _ _ _ h => h) (Or.inl ⟨by rfl, fun w hw => by go_simp⟩) hH ?_
  try simp only [Act.put, List.setIfInBounds_toArray, List.set_cons_zero, List.set_cons_succ]
  refine wpAnyH_take (i := 7) (oi := { dst := some 48, op := Op.load 24 (Operand.tmp 10), type := 24, pos := "law.go:69", after := #[{ on := 4, ground := Ground.guard }], guard := some (4, true) }) (v := .agg (List.toArray E2)) rfl (by kernel_rfl) (by kernel_rfl) (by kernel_rfl) (fun _ _ _ h => h) (yieldsIf_load_mid (by rfl) _ _ rfl _ _ rfl E2 _ (fun _ h => h.r2) Tryd.underlying24 rfl hi2) hH ?_
  try simp only [Act.put, List.setIfInBounds_toArray, List.set_cons_zero, List.set_cons_succ]
  refine wpAnyH_ready (rs := [6]) (by kernel_rfl) (by simp) ?_
  refine AllReadyH.cons (o := { dst := some 47, op := Op.call { callee := Callee.value (Operand.func 15), args := #[Operand.tmp 46], argTypes := #[29] }, type := 24, pos := "law.go:69", after := #[{ on := 5, ground := Ground.data }, { on := 4, ground := Ground.chain }, { on := 4, ground := Ground.guard }], guard := some (4, true) }) rfl (fun K hK => ?_) AllReadyH.nil
  go_simp
  refine (c15x _ hH).mono ?_
  rintro e W2 ⟨rfl, hC⟩
  go_wp2_with fail
  refine hK.out _ _ hC (fun hC2 => ?_)
  clear hK K hH hC2
  have hH := hC
  clear hC
  try simp only [Act.put, List.setIfInBounds_toArray, List.set_cons_zero, List.set_cons_succ]
  refine wpAnyH_take (i := 8) (oi := { dst := some 49, op := Op.binOp BinOp.eql 24 (Operand.tmp 47) (Operand.tmp 48) 24, type := 4, pos := "law.go:69", after := #[{ on := 6, ground := Ground.data }, { on := 7, ground := Ground.data }, { on := 4, ground := Ground.guard }], guard := some (4, true) }) (v := .bool true) rfl (by kernel_rfl) (by kernel_rfl) (by kernel_rfl) (fun _ _ _ h => h) (Or.inl ⟨by rfl, fun w hw => by go_simp⟩) hH ?_
  try simp only [Act.put, List.setIfInBounds_toArray, List.set_cons_zero, List.set_cons_succ]
  refine wpAnyH_take (i := 9) (oi := { dst := some 50, op := Op.pick (Operand.tmp 45) (Operand.tmp 49) (Operand.const (Value.bool false)), type := 4, pos := "law.go:69", after := #[{ on := 4, ground := Ground.data }, { on := 8, ground := Ground.data }], guard := none }) (v := .bool true) rfl (by kernel_rfl) (by kernel_rfl) (by kernel_rfl) (fun _ _ _ h => h) (Or.inl ⟨by rfl, fun w hw => by go_simp⟩) hH ?_
  try simp only [Act.put, List.setIfInBounds_toArray, List.set_cons_zero, List.set_cons_succ]
  refine wpAnyH_take (i := 10) (oi := { dst := some 51, op := Op.move (Operand.tmp 50), type := 4, pos := "law.go:69", after := #[{ on := 9, ground := Ground.data }, { on := 6, ground := Ground.chain }], guard := none }) (v := .bool true) rfl (by kernel_rfl) (by kernel_rfl) (by kernel_rfl) (fun _ _ _ h => h) (Or.inl ⟨by rfl, fun w hw => by go_simp⟩) hH ?_
  try simp only [Act.put, List.setIfInBounds_toArray, List.set_cons_zero, List.set_cons_succ]
  refine wpAnyH_take (i := 11) (oi := { dst := some 52, op := Op.move (Operand.tmp 7), type := 29, pos := "law.go:69", after := #[{ on := 10, ground := Ground.guard }], guard := some (10, true) }) (v := .pointer (some ⟨w.heap.size, 0, none⟩)) rfl (by kernel_rfl) (by kernel_rfl) (by kernel_rfl) (fun _ _ _ h => h) (Or.inl ⟨by rfl, fun w hw => by go_simp⟩) hH ?_
  try simp only [Act.put, List.setIfInBounds_toArray, List.set_cons_zero, List.set_cons_succ]
  refine wpAnyH_take (i := 13) (oi := { dst := some 54, op := Op.move (Operand.tmp 0), type := 22, pos := "law.go:69", after := #[{ on := 10, ground := Ground.guard }], guard := some (10, true) }) (v := .slice A1 k1 c1) rfl (by kernel_rfl) (by kernel_rfl) (by kernel_rfl) (fun _ _ _ h => h) (Or.inl ⟨by rfl, fun w hw => by go_simp⟩) hH ?_
  try simp only [Act.put, List.setIfInBounds_toArray, List.set_cons_zero, List.set_cons_succ]
  refine wpAnyH_take (i := 14) (oi := { dst := some 55, op := Op.call { callee := Callee.builtin Builtin.len, args := #[Operand.tmp 54], argTypes := #[22] }, type := 3, pos := "law.go:69", after := #[{ on := 13, ground := Ground.data }, { on := 10, ground := Ground.guard }], guard := some (10, true) }) (v := .int .i64 (k1 : Int)) rfl (by kernel_rfl) (by kernel_rfl) (by kernel_rfl) (fun _ _ _ h => h) (Or.inl ⟨by rfl, fun w hw => by go_simp⟩) hH ?_
  try simp only [Act.put, List.setIfInBounds_toArray, List.set_cons_zero, List.set_cons_succ]
  refine wpAnyH_take (i := 15) (oi := { dst := some 56, op := Op.move (Operand.tmp 1), type := 22, pos := "law.go:69", after := #[{ on := 10, ground := Ground.guard }], guard := some (10, true) }) (v := .slice A2 k2 c2) rfl (by kernel_rfl) (by kernel_rfl) (by kernel_rfl) (fun _ _ _ h => h) (Or.inl ⟨by rfl, fun w hw => by go_simp⟩) hH ?_
  try simp only [Act.put, List.setIfInBounds_toArray, List.set_cons_zero, List.set_cons_succ]
  refine wpAnyH_take (i := 16) (oi := { dst := some 57, op := Op.call { callee := Callee.builtin Builtin.len, args := #[Operand.tmp 56], argTypes := #[22] }, type := 3, pos := "law.go:69", after := #[{ on := 15, ground := Ground.data }, { on := 10, ground := Ground.guard }], guard := some (10, true) }) (v := .int .i64 (k2 : Int)) rfl (by kernel_rfl) (by kernel_rfl) (by kernel_rfl) (fun _ _ _ h => h) (Or.inl ⟨by rfl, fun w hw => by go_simp⟩) hH ?_
  try simp only [Act.put, List.setIfInBounds_toArray, List.set_cons_zero, List.set_cons_succ]
  refine wpAnyH_take (i := 17) (oi := { dst := some 58, op := Op.binOp BinOp.add 3 (Operand.tmp 55) (Operand.tmp 57) 3, type := 3, pos := "law.go:69", after := #[{ on := 14, ground := Ground.data }, { on := 16, ground := Ground.data }, { on := 10, ground := Ground.guard }], guard := some (10, true) }) (v := .int .i64 ((k1 : Int) + (k2 : Int))) rfl (by kernel_rfl) (by kernel_rfl) (by kernel_rfl) (fun _ _ _ h => h) (Or.inl ⟨by rfl, fun w hw => by go_simp⟩) hH ?_
  try simp only [Act.put, List.setIfInBounds_toArray, List.set_cons_zero, List.set_cons_succ]
  refine wpAnyH_ready (rs := [12]) (by kernel_rfl) (by simp) ?_
  refine AllReadyH.cons (o := { dst := some 53, op := Op.call { callee := Callee.value (Operand.func 14), args := #[Operand.tmp 52], argTypes := #[29] }, type := 3, pos := "law.go:69", after := #[{ on := 11, ground := Ground.data }, { on := 10, ground := Ground.chain }, { on := 10, ground := Ground.guard }], guard := some (10, true) }) rfl (fun K hK => ?_) AllReadyH.nil
  go_simp
  refine (c14g _ hH).mono ?_
  rintro e W3 ⟨rfl, hC⟩
  go_wp2_with fail
  refine hK.out _ _ hC (fun hC2 => ?_)
  clear hK K hH hC2
  have hH := hC
  clear hC
  try simp only [Act.put, List.setIfInBounds_toArray, List.set_cons_zero, List.set_cons_succ]
  refine wpAnyH_take (i := 18) (oi := { dst := some 59, op := Op.binOp BinOp.eql 3 (Operand.tmp 53) (Operand.tmp 58) 3, type := 4, pos := "law.go:69", after := #[{ on := 12, ground := Ground.data }, { on := 17, ground := Ground.data }, { on := 10, ground := Ground.guard }], guard := some (10, true) }) (v := .bool true) rfl (by kernel_rfl) (by kernel_rfl) (by kernel_rfl) (fun _ _ _ h => h) (Or.inl ⟨by rfl, fun w hw => by go_simp⟩) hH ?_
  try simp only [Act.put, List.setIfInBounds_toArray, List.set_cons_zero, List.set_cons_succ]
  refine wpAnyH_take (i := 19) (oi := { dst := some 60, op := Op.pick (Operand.tmp 51) (Operand.tmp 59) (Operand.const (Value.bool false)), type := 4, pos := "law.go:69", after := #[{ on := 10, ground := Ground.data }, { on := 18, ground := Ground.data }], guard := none }) (v := .bool true) rfl (by kernel_rfl) (by kernel_rfl) (by kernel_rfl) (fun _ _ _ h => h) (Or.inl ⟨by rfl, fun w hw => by go_simp⟩) hH ?_
  try simp only [Act.put, List.setIfInBounds_toArray, List.set_cons_zero, List.set_cons_succ]
  refine wpAnyH_take (i := 20) (oi := { dst := some 61, op := Op.move (Operand.tmp 60), type := 4, pos := "law.go:69", after := #[{ on := 19, ground := Ground.data }, { on := 12, ground := Ground.chain }], guard := none }) (v := .bool true) rfl (by kernel_rfl) (by kernel_rfl) (by kernel_rfl) (fun _ _ _ h => h) (Or.inl ⟨by rfl, fun w hw => by go_simp⟩) hH ?_
  try simp only [Act.put, List.setIfInBounds_toArray, List.set_cons_zero, List.set_cons_succ]
  refine wpAnyH_take (i := 21) (oi := { dst := some 62, op := Op.move (Operand.tmp 8), type := 29, pos := "law.go:69", after := #[{ on := 20, ground := Ground.guard }], guard := some (20, true) }) (v := .pointer (some ⟨gx, 0, none⟩)) rfl (by kernel_rfl) (by kernel_rfl) (by kernel_rfl) (fun _ _ _ h => h) (Or.inl ⟨by rfl, fun w hw => by go_simp⟩) hH ?_
  try simp only [Act.put, List.setIfInBounds_toArray, List.set_cons_zero, List.set_cons_succ]
  refine wpAnyH_take (i := 23) (oi := { dst := some 64, op := Op.move (Operand.tmp 0), type := 22, pos := "law.go:69", after := #[{ on := 20, ground := Ground.guard }], guard := some (20, true) }) (v := .slice A1 k1 c1) rfl (by kernel_rfl) (by kernel_rfl) (by kernel_rfl) (fun _ _ _ h => h) (Or.inl ⟨by rfl, fun w hw => by go_simp⟩) hH ?_
  try simp only [Act.put, List.setIfInBounds_toArray, List.set_cons_zero, List.set_cons_succ]
  refine wpAnyH_take (i := 24) (oi := { dst := some 65, op := Op.call { callee := Callee.builtin Builtin.len, args := #[Operand.tmp 64], argTypes := #[22] }, type := 3, pos := "law.go:69", after := #[{ on := 23, ground := Ground.data }, { on := 20, ground := Ground.guard }], guard := some (20, true) }) (v := .int .i64 (k1 : Int)) rfl (by kernel_rfl) (by kernel_rfl) (by kernel_rfl) (fun _ _ _ h => h) (Or.inl ⟨by rfl, fun w hw => by go_simp⟩) hH ?_
  try simp only [Act.put, List.setIfInBounds_toArray, List.set_cons_zero, List.set_cons_succ]
  refine wpAnyH_take (i := 25) (oi := { dst := some 66, op := Op.move (Operand.tmp 2), type := 22, pos := "law.go:69", after := #[{ on := 20, ground := Ground.guard }], guard := some (20, true) }) (v := .slice A3 k3 c3) rfl (by kernel_rfl) (by kernel_rfl) (by kernel_rfl) (fun _ _ _ h => h) (Or.inl ⟨by rfl, fun w hw => by go_simp⟩) hH ?_
  try simp only [Act.put, List.setIfInBounds_toArray, List.set_cons_zero, List.set_cons_succ]
  refine wpAnyH_take (i := 26) (oi := { dst := some 67, op := Op.call { callee := Callee.builtin Builtin.len, args := #[Operand.tmp 66], argTypes := #[22] }, type := 3, pos := "law.go:69", after := #[{ on := 25, ground := Ground.data }, { on := 20, ground := Ground.guard }], guard := some (20, true) }) (v := .int .i64 (k3 : Int)) rfl (by kernel_rfl) (by kernel_rfl) (by kernel_rfl) (fun _ _ _ h => h) (Or.inl ⟨by rfl, fun w hw => by go_simp⟩) hH ?_
  try simp only [Act.put, List.setIfInBounds_toArray, List.set_cons_zero, List.set_cons_succ]
  refine wpAnyH_take (i := 27) (oi := { dst := some 68, op := Op.binOp BinOp.add 3 (Operand.tmp 65) (Operand.tmp 67) 3, type := 3, pos := "law.go:69", after := #[{ on := 24, ground := Ground.data }, { on := 26, ground := Ground.data }, { on := 20, ground := Ground.guard }], guard := some (20, true) }) (v := .int .i64 ((k1 : Int) + (k3 : Int))) rfl (by kernel_rfl) (by kernel_rfl) (by kernel_rfl) (fun _ _ _ h => h) (Or.inl ⟨by rfl, fun w hw => by go_simp⟩) hH ?_
  try simp only [Act.put, List.setIfInBounds_toArray, List.set_cons_zero, List.set_cons_succ]
  refine wpAnyH_ready (rs := [22]) (by kernel_rfl) (by simp) ?_
  refine AllReadyH.cons (o := { dst := some 63, op := Op.call { callee := Callee.value (Operand.func 14), args := #[Operand.tmp 62], argTypes := #[29] }, type := 3, pos := "law.go:69", after := #[{ on := 21, ground := Ground.data }, { on := 20, ground := Ground.chain }, { on := 20, ground := Ground.guard }], guard := some (20, true) }) rfl (fun K hK => ?_) AllReadyH.nil
  go_simp
  refine (c14x _ hH).mono ?_
  rintro e W4 ⟨rfl, hC⟩
  go_wp2_with fail
  refine hK.out _ _ hC (fun hC2 => ?_)
  clear hK K hH hC2
  have hH := hC
  clear hC
  try simp only [Act.put, List.setIfInBounds_toArray, List.set_cons_zero, List.set_cons_succ]
  refine wpAnyH_take (i := 28) (oi := { dst := some 69, op := Op.binOp BinOp.eql 3 (Operand.tmp 63) (Operand.tmp 68) 3, type := 4, pos := "law.go:69", after := #[{ on := 22, ground := Ground.data }, { on := 27, ground := Ground.data }, { on := 20, ground := Ground.guard }], guard := some (20, true) }) (v := .bool true) rfl (by kernel_rfl) (by kernel_rfl) (by kernel_rfl) (fun _ _ _ h => h) (Or.inl ⟨by rfl, fun w hw => by go_simp⟩) hH ?_
  try simp only [Act.put, List.setIfInBounds_toArray, List.set_cons_zero, List.set_cons_succ]
  refine wpAnyH_take (i := 29) (oi := { dst := some 70, op := Op.pick (Operand.tmp 61) (Operand.tmp 69) (Operand.const (Value.bool false)), type := 4, pos := "law.go:69", after := #[{ on := 20, ground := Ground.data }, { on := 28, ground := Ground.data }], guard := none }) (v := .bool true) rfl (by kernel_rfl) (by kernel_rfl) (by kernel_rfl) (fun _ _ _ h => h) (Or.inl ⟨by rfl, fun w hw => by go_simp⟩) hH ?_
  try simp only [Act.put, List.setIfInBounds_toArray, List.set_cons_zero, List.set_cons_succ]
  refine wpAnyH_take (i := 30) (oi := { dst := some 71, op := Op.move (Operand.tmp 70), type := 4, pos := "law.go:69", after := #[{ on := 29, ground := Ground.data }, { on := 22, ground := Ground.chain }], guard := none }) (v := .bool true) rfl (by kernel_rfl) (by kernel_rfl) (by kernel_rfl) (fun _ _ _ h => h) (Or.inl ⟨by rfl, fun w hw => by go_simp⟩) hH ?_
  try simp only [Act.put, List.setIfInBounds_toArray, List.set_cons_zero, List.set_cons_succ]
  refine wpAnyH_ready (rs := [31]) (by kernel_rfl) (by simp) ?_
  refine AllReadyH.cons (o := { dst := some 72, op := Op.call { callee := Callee.value (Operand.func 11), args := #[], argTypes := #[] }, type := 4, pos := "law.go:69", after := #[{ on := 30, ground := Ground.chain }, { on := 30, ground := Ground.guard }], guard := some (30, true) }) rfl (fun K hK => ?_) AllReadyH.nil
  go_simp
  refine (c11 _ hH).mono ?_
  rintro e W5 ⟨rfl, hC⟩
  go_wp2_with fail
  refine hK.out _ _ hC (fun hC2 => ?_)
  clear hK K hH hC2
  have hH := hC
  clear hC
  try simp only [Act.put, List.setIfInBounds_toArray, List.set_cons_zero, List.set_cons_succ]
  refine wpAnyH_take (i := 32) (oi := { dst := some 73, op := Op.pick (Operand.tmp 71) (Operand.tmp 72) (Operand.const (Value.bool false)), type := 4, pos := "law.go:69", after := #[{ on := 30, ground := Ground.data }, { on := 31, ground := Ground.data }], guard := none }) (v := .bool true) rfl (by kernel_rfl) (by kernel_rfl) (by kernel_rfl) (fun _ _ _ h => h) (Or.inl ⟨by rfl, fun w hw => by go_simp⟩) hH ?_
  try simp only [Act.put, List.setIfInBounds_toArray, List.set_cons_zero, List.set_cons_succ]
  refine wpAnyH_take (i := 33) (oi := { dst := some 6, op := Op.assign (Operand.tmp 73), type := 4, pos := "law.go:69", after := #[{ on := 32, ground := Ground.data }, { on := 31, ground := Ground.chain }, { on := 0, ground := Ground.phase }, { on := 1, ground := Ground.phase }, { on := 2, ground := Ground.phase }, { on := 3, ground := Ground.phase }, { on := 4, ground := Ground.phase }, { on := 5, ground := Ground.phase }, { on := 6, ground := Ground.phase }, { on := 7, ground := Ground.phase }, { on := 8, ground := Ground.phase }, { on := 9, ground := Ground.phase }, { on := 10, ground := Ground.phase }, { on := 11, ground := Ground.phase }, { on := 12, ground := Ground.phase }, { on := 13, ground := Ground.phase }, { on := 14, ground := Ground.phase }, { on := 15, ground := Ground.phase }, { on := 16, ground := Ground.phase }, { on := 17, ground := Ground.phase }, { on := 18, ground := Ground.phase }, { on := 19, ground := Ground.phase }, { on := 20, ground := Ground.phase }, { on := 21, ground := Ground.phase }, { on := 22, ground := Ground.phase }, { on := 23, ground := Ground.phase }, { on := 24, ground := Ground.phase }, { on := 25, ground := Ground.phase }, { on := 26, ground := Ground.phase }, { on := 27, ground := Ground.phase }, { on := 28, ground := Ground.phase }, { on := 29, ground := Ground.phase }, { on := 30, ground := Ground.phase }, { on := 31, ground := Ground.phase }, { on := 32, ground := Ground.phase }], guard := none }) (v := .bool true) rfl (by kernel_rfl) (by kernel_rfl) (by kernel_rfl) (fun _ _ _ h => h) (Or.inl ⟨by rfl, fun w hw => by go_simp⟩) hH ?_
  try simp only [Act.put, List.setIfInBounds_toArray, List.set_cons_zero, List.set_cons_succ]
  refine wpAnyH_done (by kernel_rfl) ?_ _
  refine NoPanic.normal ?_
  go_wp2
  go_ret
  exact ⟨rfl, hH.bel⟩
end Go.Proofs.YtljghknojbpccaaDoor
