/-
  THE WALK OF FilterPasses.
-/
import Derived.Test.YthappdipoofclaaDoorLawC
import Derived.Test.YthappdipoofclaaDoorRefPass
import Derived.Deep.Cut
namespace Go.Proofs.YthappdipoofclaaDoor
set_option linter.unusedSimpArgs false
set_option linter.unusedVariables false
open Go.RowKit
theorem psn_code {least most : Int} {fs : List Fld} {bs : List UInt8} {x : Int × Int} (h : psn least most fs bs = some x) : (x.1 == 0) = false := by
  unfold psn at h
  split at h
  · injection h with h
    subst h
    rfl
  · split at h
    · injection h with h
      subst h
      rfl
    · split at h
      · injection h with h
        subst h
        rfl
      · cases h
theorem own_rd2 {w : World} {base n : Nat} {v : Value} {xs : List UInt8} (h : w.ownsRow base 5 1 v n (xs.map U8)) : ∃ A c, v = .slice A n c ∧ n ≤ c ∧ Rd w A n xs := by
  have hl : xs.length = n := by have := h.1; simpa using this
  rcases h.2 with ⟨rfl, h2⟩ | ⟨g', cap, cur, rfl, _, _, hle, _⟩
  · subst h2
    exact ⟨none, 0, rfl, Nat.le_refl _, ⟨hl, fun h => by omega⟩⟩
  · exact ⟨_, cap, rfl, hle, ⟨hl, fun _ => ⟨_, rfl, h.cells rfl⟩⟩⟩

/-- what is known behind Pass -/
structure PaS (w W : World) (least most : Int) (A : Option Addr) (n c : Nat) (fs : List Fld) (B : Option Addr) (m cb : Nat) (D : Option Addr) (cd : Nat) (bs : List UInt8) : Prop where
  rule : Blk W w.heap.size 30 (ruleA least most A n c)
  fld : FRd W A n fs
  byt : Rd W B m bs
  cpy : Rd W D m bs
  bel : Below w.heap.size w W
theorem PaS.later {w W W' : World} {least most : Int} {A : Option Addr} {n c : Nat} {fs : List Fld} {B : Option Addr} {m cb : Nat} {D : Option Addr} {cd : Nat} {bs : List UInt8} (h : PaS w W least most A n c fs B m cb D cd bs) (hb : Below W.heap.size W W') : PaS w W' least most A n c fs B m cb D cd bs :=
  ⟨h.rule.below hb h.rule.lt, h.fld.below hb, h.byt.grown hb, h.cpy.grown hb, h.bel.trans (hb.mono h.bel.size)⟩

set_option maxRecDepth 100000 in
set_option maxHeartbeats 4000000 in
theorem filterPasses_short (least most : Int) (A : Option Addr) (n c : Nat) (fs : List Fld) (B : Option Addr) (m cb : Nat) (bs : List UInt8) (w : World) (hR : FRd w A n fs) (hnc : n ≤ c) (hn : n ≤ 9223372036854775807) (hB : Rd w B m bs) (hmc : m ≤ cb) (hm : m ≤ 9223372036854775807) (hg : ET w) (h80 : m ≤ 80) :
    Calls Tryd.prog 9 #[ruleV least most A n c, .slice B m cb] w fun e w' => e = .returned (.bool true) ∧ Below w.heap.size w w' := by
  obtain ⟨i0, hi0, hz0, hz1, hz2⟩ := info_parts info5'
  have hpos := hg.lt
  have hB0 := Blk.new w 30 (ruleA least most A n c)
  have hb0 := (Below.refl w.heap.size w).alloc (Nat.le_refl _) (.cells (ruleA least most A n c) 30)
  go_enter Tryd.func9, Tryd.ntmps9
  go_wp2_with fail
  generalize w.alloc (.cells (ruleA least most A n c) 30) = w0 at *
  refine (few_any least most A n c w0 hnc hn).mono ?_
  rintro e w1 ⟨rfl, hb1⟩
  have hB1 := hB0.below hb1 hB0.lt
  have hbel1 := hb0.trans (hb1.mono hb0.size)
  replace hR := hR.take 10
  have hmk : min n 10 ≤ 9223372036854775807 := by omega
  clear hnc hn hb0 hb1 hB0
  generalize min n 10 = k at *
  generalize fs.take 10 = gs at *
  have hB2 := hB1.setRow (ruleA least most A k c)
  have hbel2 := below_setRow hbel1 (Nat.le_refl _) (ruleA least most A k c)
  have hRq : Rd w B m bs := hB
  have hq80 : m ≤ 80 := by omega
  have hqc : m ≤ cb := by omega
  clear hB
  go_upto_region 4 with (refine store30 rfl (.tmp 2) (.tmp 13) rfl w.heap.size rfl least most A k c rfl least most A n c hB1 ?_)
  clear hB1 hbel1
  generalize w1.setRow w.heap.size (ruleA least most A k c) = w2 at *
  have hown0 := World.ownsRow_lit (base := w.heap.size) (e := 5) (size := 1) w2 #[] 0 hbel2.size (by simp [maxLen]) rfl
  have hbelA := hbel2.alloc hbel2.size (.cells #[] 5)
  have hszA := hbelA.size
  have hrd := (hRq.grown hbelA).reads
  have fin : ∀ (w3 : World) (v1 : Value), w3.ownsRow w.heap.size 5 1 v1 (0 + m) ([] ++ (bs).map U8) → (w2.alloc (.cells #[] 5)).grownBy w3 (Value.slice (some ⟨w2.heap.size, 0, none⟩) 0 0).ownBlock →
      ∃ D cd, v1 = .slice D m cd ∧ m ≤ cd ∧ PaS w w3 least most A k c gs B m cb D cd bs := by
    intro w3 v1 hown hgr
    rw [Nat.zero_add, List.nil_append] at hown
    obtain ⟨D, cd, rfl, hle, hRd⟩ := own_rd2 hown
    have hb3 : Below w.heap.size w w3 := hbelA.grown hgr hbelA.size (fun k hk => (hown0.lt k hk).1)
    refine ⟨D, cd, rfl, hle, ⟨(hB2.alloc (.cells #[] 5)).grown hgr ?_, hR.below hb3, hRq.grown hb3, hRd, hb3⟩⟩
    intro e
    have := hB2.lt
    simp [Value.ownBlock] at e
    omega
  have FIN := Lib.hid fin
  clear fin hB2
  go_wp2_with (first
    | (at_builtin; refine wpList_append_any _ rfl (.tmp 19) (.tmp 20) 31 rfl w.heap.size 5 i0 _ 1 1 Tryd.underlying31 hi0 hz0 hz1 hz2 rfl (by omega) _ 0 _ rfl hown0 _ B m cb ((bs).map U8) rfl hrd (U8_one _) (by simp only [maxLen]; omega) (by omega) hszA ?_; intro v1 w3 hown1 hgr1 hat1; obtain ⟨D, cd, rfl, hcd, hS⟩ := FIN.out w3 v1 hown1 hgr1)
    | (refine load30 (by rfl) (.tmp 2) rfl w.heap.size rfl least most A k c hS.rule ?_))
  clear hown1 hgr1 hat1 hown0 hbelA hszA hrd hbel2
  have hq63 : m ≤ 9223372036854775807 := by omega
  refine (pass_any least most A k c gs B m cb bs w3 hS.fld hmk hS.byt hqc hq63 (hg.below hS.bel hpos)).mono ?_
  rintro e w4 ⟨v, rfl, hch, hb4⟩
  have hS4 := hS.later hb4
  clear hS hb4
  go_wp2_with (refine load30 (by rfl) (.tmp 2) rfl w.heap.size rfl least most A k c hS4.rule ?_)
  refine (refcheck_any least most A k c gs w4 hS4.fld hmk).mono ?_
  rintro e w5 ⟨rfl, hb5⟩
  have hS5 := hS4.later hb5
  have hch5 := hch.below hb5
  clear hS4 hb5 hch
  cases hx : chk least most gs with
  | some x =>
    obtain ⟨x1, x2⟩ := x
    have hx0 : (x1 == 0) = false := chk_code hx
    have hx1 : (x1 != 0) = true := by
      have : x1 ≠ 0 := by simpa using hx0
      simpa using this
    rw [numsOf_some]
    unfold passL at hch5
    rw [hx] at hch5
    clear hx
    go_wp2_with fail
    refine (path_any [(x1, -1), (x1, x2)] v w5 hch5 (hg.below hS5.bel hpos) (by simp)).mono ?_
    rintro ev w6 ⟨PA, pc, rfl, hown, hb6⟩
    have hS6 := hS5.later hb6
    go_wp2_with fail
    refine (code_any x1 (-1) [(x1, x2)] v w6 (hch5.below hb6) (hg.below hS6.bel hpos)).mono ?_
    rintro ev w7 ⟨rfl, hb7⟩
    have hS7 := hS6.later hb7
    have hown2 := own_below hown hb7
    obtain ⟨g, cap2, hv, _, _⟩ := hown2.form (by simp)
    injection hv with e1 e2 e3
    subst e1
    have hc0 : w7.cell? ⟨g, 0, none⟩ = some (.int .i64 (-1)) := by
      have := hown2.cells (g := g) rfl 0 (.int .i64 (-1)) rfl
      rw [Addr.add_lit, Nat.zero_add] at this
      exact this
    have hc1 : w7.cell? ⟨g, 1, none⟩ = some (.int .i64 x2) := by
      have := hown2.cells (g := g) rfl 1 (.int .i64 x2) rfl
      rw [Addr.add_lit, Nat.zero_add] at this
      exact this
    clear hown hown2 e2 e3 hb6 hb7 hS5 hS6 hch5
    go_wp2_with fail
    refine (awake_any w7 (hg.below hS7.bel hpos)).mono ?_
    rintro e w8 ⟨rfl, hb8⟩
    have hS8 := hS7.later hb8
    go_wp2_with fail
    go_ret
    exact ⟨rfl, hS8.bel⟩
  | none =>
    rw [numsOf_none]
    unfold passL at hch5
    rw [hx] at hch5
    have HX := Lib.hid hx
    clear hx
    go_wp2_with (refine load30 (by rfl) (.tmp 2) rfl w.heap.size rfl least most A k c hS5.rule ?_)
    refine (refpass_any least most A k c gs D m cd bs w5 hS5.fld hS5.cpy hcd hq63 HX.out).mono ?_
    rintro e w6 ⟨rfl, hb6⟩
    have hS6 := hS5.later hb6
    have hch6 := hch5.below hb6
    have hcode := fun x => @psn_code least most gs bs x
    have HC := Lib.hid hcode
    clear hcode hb6 hS5 hch5
    unfold numsOf
    generalize psn least most gs bs = o at *
    obtain ⟨c0, hc0⟩ : ∃ x, (o.getD (0, 0)).1 = x := ⟨_, rfl⟩
    obtain ⟨a0, ha0⟩ : ∃ x, (o.getD (0, 0)).2 = x := ⟨_, rfl⟩
    rw [hc0, ha0]
    have HC0 := Lib.hid hc0
    have HA0 := Lib.hid ha0
    clear hc0 ha0
    go_wp2_with fail
    rw [← HC0.out, ← HA0.out]
    refine (told_any o v w6 hch6 (hg.below hS6.bel hpos) (fun x hx => HC.out x hx)).mono ?_
    rintro e w7 ⟨rfl, hb7⟩
    have hS7 := hS6.later hb7
    have hcv1 := conv_rd bs D m cd w7 hS7.cpy
    have hcv2 := conv_rd bs B m cb w7 hS7.byt
    clear hch6 hS6 hb7
    go_wp2_with fail
    refine (awake_any w7 (hg.below hS7.bel hpos)).mono ?_
    rintro e w8 ⟨rfl, hb8⟩
    have hS8 := hS7.later hb8
    go_wp2_with fail
    go_ret
    exact ⟨rfl, hS8.bel⟩
set_option maxRecDepth 100000 in
set_option maxHeartbeats 4000000 in
theorem filterPasses_long (least most : Int) (A : Option Addr) (n c : Nat) (fs : List Fld) (B : Option Addr) (m cb : Nat) (bs : List UInt8) (w : World) (hR : FRd w A n fs) (hnc : n ≤ c) (hn : n ≤ 9223372036854775807) (hB : Rd w B m bs) (hmc : m ≤ cb) (hm : m ≤ 9223372036854775807) (hg : ET w) (h80 : 80 < m) :
    Calls Tryd.prog 9 #[ruleV least most A n c, .slice B m cb] w fun e w' => e = .returned (.bool true) ∧ Below w.heap.size w w' := by
  obtain ⟨i0, hi0, hz0, hz1, hz2⟩ := info_parts info5'
  have hpos := hg.lt
  have hB0 := Blk.new w 30 (ruleA least most A n c)
  have hb0 := (Below.refl w.heap.size w).alloc (Nat.le_refl _) (.cells (ruleA least most A n c) 30)
  go_enter Tryd.func9, Tryd.ntmps9
  go_wp2_with fail
  generalize w.alloc (.cells (ruleA least most A n c) 30) = w0 at *
  refine (few_any least most A n c w0 hnc hn).mono ?_
  rintro e w1 ⟨rfl, hb1⟩
  have hB1 := hB0.below hb1 hB0.lt
  have hbel1 := hb0.trans (hb1.mono hb0.size)
  replace hR := hR.take 10
  have hmk : min n 10 ≤ 9223372036854775807 := by omega
  clear hnc hn hb0 hb1 hB0
  generalize min n 10 = k at *
  generalize fs.take 10 = gs at *
  have hB2 := hB1.setRow (ruleA least most A k c)
  have hbel2 := below_setRow hbel1 (Nat.le_refl _) (ruleA least most A k c)
  have hRq : Rd w B 80 (bs.take 80) := by have := hB.take 80; rwa [show min m 80 = 80 by omega] at this
  have hq80 : 80 ≤ 80 := by omega
  have hqc : 80 ≤ cb := by omega
  clear hB
  go_upto_region 4 with (refine store30 rfl (.tmp 2) (.tmp 13) rfl w.heap.size rfl least most A k c rfl least most A n c hB1 ?_)
  clear hB1 hbel1
  generalize w1.setRow w.heap.size (ruleA least most A k c) = w2 at *
  have hown0 := World.ownsRow_lit (base := w.heap.size) (e := 5) (size := 1) w2 #[] 0 hbel2.size (by simp [maxLen]) rfl
  have hbelA := hbel2.alloc hbel2.size (.cells #[] 5)
  have hszA := hbelA.size
  have hrd := (hRq.grown hbelA).reads
  have fin : ∀ (w3 : World) (v1 : Value), w3.ownsRow w.heap.size 5 1 v1 (0 + 80) ([] ++ ((bs.take 80)).map U8) → (w2.alloc (.cells #[] 5)).grownBy w3 (Value.slice (some ⟨w2.heap.size, 0, none⟩) 0 0).ownBlock →
      ∃ D cd, v1 = .slice D 80 cd ∧ 80 ≤ cd ∧ PaS w w3 least most A k c gs B 80 cb D cd (bs.take 80) := by
    intro w3 v1 hown hgr
    rw [Nat.zero_add, List.nil_append] at hown
    obtain ⟨D, cd, rfl, hle, hRd⟩ := own_rd2 hown
    have hb3 : Below w.heap.size w w3 := hbelA.grown hgr hbelA.size (fun k hk => (hown0.lt k hk).1)
    refine ⟨D, cd, rfl, hle, ⟨(hB2.alloc (.cells #[] 5)).grown hgr ?_, hR.below hb3, hRq.grown hb3, hRd, hb3⟩⟩
    intro e
    have := hB2.lt
    simp [Value.ownBlock] at e
    omega
  have FIN := Lib.hid fin
  clear fin hB2
  go_wp2_with (first
    | (at_builtin; refine wpList_append_any _ rfl (.tmp 19) (.tmp 20) 31 rfl w.heap.size 5 i0 _ 1 1 Tryd.underlying31 hi0 hz0 hz1 hz2 rfl (by omega) _ 0 _ rfl hown0 _ B 80 cb (((bs.take 80)).map U8) rfl hrd (U8_one _) (by simp only [maxLen]; omega) (by omega) hszA ?_; intro v1 w3 hown1 hgr1 hat1; obtain ⟨D, cd, rfl, hcd, hS⟩ := FIN.out w3 v1 hown1 hgr1)
    | (refine load30 (by rfl) (.tmp 2) rfl w.heap.size rfl least most A k c hS.rule ?_))
  clear hown1 hgr1 hat1 hown0 hbelA hszA hrd hbel2
  have hq63 : 80 ≤ 9223372036854775807 := by omega
  refine (pass_any least most A k c gs B 80 cb (bs.take 80) w3 hS.fld hmk hS.byt hqc hq63 (hg.below hS.bel hpos)).mono ?_
  rintro e w4 ⟨v, rfl, hch, hb4⟩
  have hS4 := hS.later hb4
  clear hS hb4
  go_wp2_with (refine load30 (by rfl) (.tmp 2) rfl w.heap.size rfl least most A k c hS4.rule ?_)
  refine (refcheck_any least most A k c gs w4 hS4.fld hmk).mono ?_
  rintro e w5 ⟨rfl, hb5⟩
  have hS5 := hS4.later hb5
  have hch5 := hch.below hb5
  clear hS4 hb5 hch
  cases hx : chk least most gs with
  | some x =>
    obtain ⟨x1, x2⟩ := x
    have hx0 : (x1 == 0) = false := chk_code hx
    have hx1 : (x1 != 0) = true := by
      have : x1 ≠ 0 := by simpa using hx0
      simpa using this
    rw [numsOf_some]
    unfold passL at hch5
    rw [hx] at hch5
    clear hx
    go_wp2_with fail
    refine (path_any [(x1, -1), (x1, x2)] v w5 hch5 (hg.below hS5.bel hpos) (by simp)).mono ?_
    rintro ev w6 ⟨PA, pc, rfl, hown, hb6⟩
    have hS6 := hS5.later hb6
    go_wp2_with fail
    refine (code_any x1 (-1) [(x1, x2)] v w6 (hch5.below hb6) (hg.below hS6.bel hpos)).mono ?_
    rintro ev w7 ⟨rfl, hb7⟩
    have hS7 := hS6.later hb7
    have hown2 := own_below hown hb7
    obtain ⟨g, cap2, hv, _, _⟩ := hown2.form (by simp)
    injection hv with e1 e2 e3
    subst e1
    have hc0 : w7.cell? ⟨g, 0, none⟩ = some (.int .i64 (-1)) := by
      have := hown2.cells (g := g) rfl 0 (.int .i64 (-1)) rfl
      rw [Addr.add_lit, Nat.zero_add] at this
      exact this
    have hc1 : w7.cell? ⟨g, 1, none⟩ = some (.int .i64 x2) := by
      have := hown2.cells (g := g) rfl 1 (.int .i64 x2) rfl
      rw [Addr.add_lit, Nat.zero_add] at this
      exact this
    clear hown hown2 e2 e3 hb6 hb7 hS5 hS6 hch5
    go_wp2_with fail
    refine (awake_any w7 (hg.below hS7.bel hpos)).mono ?_
    rintro e w8 ⟨rfl, hb8⟩
    have hS8 := hS7.later hb8
    go_wp2_with fail
    go_ret
    exact ⟨rfl, hS8.bel⟩
  | none =>
    rw [numsOf_none]
    unfold passL at hch5
    rw [hx] at hch5
    have HX := Lib.hid hx
    clear hx
    go_wp2_with (refine load30 (by rfl) (.tmp 2) rfl w.heap.size rfl least most A k c hS5.rule ?_)
    refine (refpass_any least most A k c gs D 80 cd (bs.take 80) w5 hS5.fld hS5.cpy hcd hq63 HX.out).mono ?_
    rintro e w6 ⟨rfl, hb6⟩
    have hS6 := hS5.later hb6
    have hch6 := hch5.below hb6
    have hcode := fun x => @psn_code least most gs (bs.take 80) x
    have HC := Lib.hid hcode
    clear hcode hb6 hS5 hch5
    unfold numsOf
    generalize psn least most gs (bs.take 80) = o at *
    obtain ⟨c0, hc0⟩ : ∃ x, (o.getD (0, 0)).1 = x := ⟨_, rfl⟩
    obtain ⟨a0, ha0⟩ : ∃ x, (o.getD (0, 0)).2 = x := ⟨_, rfl⟩
    rw [hc0, ha0]
    have HC0 := Lib.hid hc0
    have HA0 := Lib.hid ha0
    clear hc0 ha0
    go_wp2_with fail
    rw [← HC0.out, ← HA0.out]
    refine (told_any o v w6 hch6 (hg.below hS6.bel hpos) (fun x hx => HC.out x hx)).mono ?_
    rintro e w7 ⟨rfl, hb7⟩
    have hS7 := hS6.later hb7
    have hcv1 := conv_rd (bs.take 80) D 80 cd w7 hS7.cpy
    have hcv2 := conv_rd (bs.take 80) B 80 cb w7 hS7.byt
    clear hch6 hS6 hb7
    go_wp2_with fail
    refine (awake_any w7 (hg.below hS7.bel hpos)).mono ?_
    rintro e w8 ⟨rfl, hb8⟩
    have hS8 := hS7.later hb8
    go_wp2_with fail
    go_ret
    exact ⟨rfl, hS8.bel⟩
theorem filterPasses_walk (least most : Int) (A : Option Addr) (n c : Nat) (fs : List Fld) (B : Option Addr) (m cb : Nat) (bs : List UInt8) (w : World) (hR : FRd w A n fs) (hnc : n ≤ c) (hn : n ≤ 9223372036854775807) (hB : Rd w B m bs) (hmc : m ≤ cb) (hm : m ≤ 9223372036854775807) (hg : ET w) :
    Calls Tryd.prog 9 #[ruleV least most A n c, .slice B m cb] w fun e w' => e = .returned (.bool true) ∧ Below w.heap.size w w' := by
  by_cases h : m ≤ 80
  · exact filterPasses_short least most A n c fs B m cb bs w hR hnc hn hB hmc hm hg h
  · exact filterPasses_long least most A n c fs B m cb bs w hR hnc hn hB hmc hm hg (by omega)
end Go.Proofs.YthappdipoofclaaDoor
