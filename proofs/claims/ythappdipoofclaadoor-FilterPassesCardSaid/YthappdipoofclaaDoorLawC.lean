/-
  THE WALK OF FilterChecks.
-/
import Derived.Test.YthappdipoofclaaDoorAwake
import Derived.Test.YthappdipoofclaaDoorRuleR
namespace Go.Proofs.YthappdipoofclaaDoor
set_option linter.unusedSimpArgs false
set_option linter.unusedVariables false
open Go.RowKit
theorem FRd.take {w : World} {A : Option Addr} {n : Nat} {fs : List Fld} (h : FRd w A n fs) (k : Nat) : FRd w A (min n k) (fs.take k) := by
  refine ⟨by have := h.len; simp; omega, fun j f hf => h.cells j f ?_⟩
  rw [List.getElem?_take] at hf
  split at hf
  · exact hf
  · cases hf
section
variable {ops : Array Oper} {rest : List Oper} {o : Oper} {a : Act} {w : World} {Q : Exit → Act → World → Prop}
theorem store30 (hgd : o.guard = none) (x y : Operand) (ho : o.op = .store 30 x y) (g : Nat) (hx : a.eval x = .pointer (some ⟨g, 0, none⟩)) (least most : Int) (A : Option Addr) (n c : Nat) (hy : a.eval y = ruleV least most A n c) (l0 m0 : Int) (A0 : Option Addr) (n0 c0 : Nat) (hb : Blk w g 30 (ruleA l0 m0 A0 n0 c0))
    (h : wpList Tryd.prog ops Q rest (a.put o.dst undef) (w.setRow g (ruleA least most A n c))) : wpList Tryd.prog ops Q (o :: rest) a w :=
  wpList_store_row hgd 30 x y ho g (ruleA least most A n c) hx hy 30 _ hb info30 rfl (by simp [Value.oneCell']) h
end

theorem chk_code {least most : Int} {fs : List Fld} {x : Int × Int} (h : chk least most fs = some x) : (x.1 == 0) = false := by
  unfold chk at h
  split at h
  · split at h
    · injection h with h
      subst h
      rfl
    · cases h
  · injection h with h
    subst h
    rfl

set_option maxRecDepth 100000 in
set_option maxHeartbeats 1000000 in
theorem filterChecks_walk (least most : Int) (A : Option Addr) (n c : Nat) (fs : List Fld) (w : World) (hR : FRd w A n fs) (hnc : n ≤ c) (hn : n ≤ 9223372036854775807) (hg : ET w) :
    Calls Tryd.prog 8 #[ruleV least most A n c] w fun e w' => e = .returned (.bool true) ∧ Below w.heap.size w w' := by
  have hpos := hg.lt
  have hB0 := Blk.new w 30 (ruleA least most A n c)
  have hb0 := (Below.refl w.heap.size w).alloc (Nat.le_refl _) (.cells (ruleA least most A n c) 30)
  go_enter Tryd.func8, Tryd.ntmps8
  go_wp2_with fail
  generalize w.alloc (.cells (ruleA least most A n c) 30) = w0 at *
  refine (few_any least most A n c w0 hnc hn).mono ?_
  rintro e w1 ⟨rfl, hb1⟩
  have hB1 := hB0.below hb1 hB0.lt
  have hbel1 := hb0.trans (hb1.mono hb0.size)
  have hR1 := hR.take 10
  have hm : min n 10 ≤ 9223372036854775807 := by omega
  clear hnc hn hb0 hb1 hB0
  generalize min n 10 = k at *
  generalize fs.take 10 = gs at *
  have hB2 := hB1.setRow (ruleA least most A k c)
  have hbel2 := below_setRow hbel1 (Nat.le_refl _) (ruleA least most A k c)
  go_wp2_with (first
    | (refine store30 rfl (.tmp 1) (.tmp 6) rfl w.heap.size rfl least most A k c rfl least most A n c hB1 ?_)
    | (refine load30 (by rfl) (.tmp 1) rfl w.heap.size rfl least most A k c hB2 ?_))
  clear hB1 hbel1
  generalize w1.setRow w.heap.size (ruleA least most A k c) = w2 at *
  refine (refcheck_any least most A k c gs w2 (hR1.below hbel2) hm).mono ?_
  rintro e w3 ⟨rfl, hb3⟩
  have hB3 := hB2.below hb3 hB2.lt
  have hbel3 := hbel2.trans (hb3.mono hbel2.size)
  clear hB2 hbel2 hb3
  have hcode := fun x => @chk_code least most gs x
  have HC := Lib.hid hcode
  clear hcode
  unfold numsOf
  obtain ⟨o, ho⟩ : ∃ o, chk least most gs = o := ⟨_, rfl⟩
  rw [ho]
  have HO := Lib.hid ho
  clear ho
  obtain ⟨c0, hc0⟩ : ∃ x, (o.getD (0, 0)).1 = x := ⟨_, rfl⟩
  obtain ⟨a0, ha0⟩ : ∃ x, (o.getD (0, 0)).2 = x := ⟨_, rfl⟩
  rw [hc0, ha0]
  have HC0 := Lib.hid hc0
  have HA0 := Lib.hid ha0
  clear hc0 ha0
  go_wp2_with (refine load30 (by rfl) (.tmp 1) rfl w.heap.size rfl least most A k c hB3 ?_)
  refine (check_any least most A k c gs w3 (hR1.below hbel3) hm).mono ?_
  rintro e w4 ⟨v, rfl, hch, hb4⟩
  have hbel4 := hbel3.trans (hb4.mono hbel3.size)
  go_wp2_with fail
  rw [HO.out] at hch
  rw [← HC0.out, ← HA0.out]
  refine (told_any o v w4 hch (hg.below hbel4 hpos) (fun x hx => HC.out x (by rw [HO.out]; exact hx))).mono ?_
  rintro e w5 ⟨rfl, hb5⟩
  have hbel5 := hbel4.trans (hb5.mono hbel4.size)
  clear hch
  go_wp2_with fail
  refine (awake_any w5 (hg.below hbel5 hpos)).mono ?_
  rintro e w6 ⟨rfl, hb6⟩
  go_wp2_with fail
  go_ret
  exact ⟨rfl, hbel5.trans (hb6.mono hbel5.size)⟩
end Go.Proofs.YthappdipoofclaaDoor
