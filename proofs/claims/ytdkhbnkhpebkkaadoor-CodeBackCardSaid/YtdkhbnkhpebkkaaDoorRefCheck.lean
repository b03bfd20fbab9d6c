/-
  THE WALK OF THE DOCUMENT's Check.
-/
import Derived.Test.YtdkhbnkhpebkkaaDoorCheck
import Derived.Test.YtdkhbnkhpebkkaaDoorFormR
namespace Go.Proofs.YtdkhbnkhpebkkaaDoor
set_option linter.unusedSimpArgs false
set_option linter.unusedVariables false
open Go.RowKit

/-- the numbers of a fault; 0, 0: none -/
def numsOf (o : Option (Int × Int)) : Value := .tuple #[.int .i64 (o.getD (0, 0)).1, .int .i64 (o.getD (0, 0)).2]
theorem numsOf_some (c a : Int) : numsOf (some (c, a)) = .tuple #[.int .i64 c, .int .i64 a] := rfl
theorem numsOf_none : numsOf none = .tuple #[.int .i64 0, .int .i64 0] := rfl
section
variable {ops : Array Oper} {rest : List Oper} {o : Oper} {a : Act} {w : World} {Q : Exit → Act → World → Prop}
theorem load46g (hw : Region.wanted o (yielded ops a.tmps) = true) (x : Operand) (ho : o.op = .load 46 x) (ad : Addr) (hx : a.eval x = .pointer (some ad)) (i : Ins) (hc : ∀ j v, (insA i)[j]? = some v → w.cell? (ad.add j) = some v)
    (h : wpList Tryd.prog ops Q rest (a.put o.dst (insV i)) w) : wpList Tryd.prog ops Q (o :: rest) a w :=
  wpList_step fun K hK => by
    rw [if_pos hw]
    exact wp_load_cells 46 x ho ad hx (insA i) _ Tryd.underlying46 rfl info46 hc (hK _ _ h)
end

theorem refcheck_len (A : Option Addr) (n c : Nat) (w : World) (hn : n ≤ 9223372036854775807) (h : n < 1 ∨ 128 < n) : Calls Tryd.prog 11 #[.slice A n c] w fun e w' => e = .returned (.tuple #[.int .i64 1, .int .i64 0]) ∧ Below w.heap.size w w' := by
  rcases h with h | h
  · obtain rfl : n = 0 := by omega
    go_enter Tryd.func11, Tryd.ntmps11
    go_wp2
    go_ret2
    exact ⟨rfl, Below.refl _ _⟩
  · have h1 : 1 ≤ n := by omega
    go_enter Tryd.func11, Tryd.ntmps11
    go_wp2
    go_ret2
    exact ⟨rfl, Below.refl _ _⟩

set_option maxRecDepth 100000 in
set_option maxHeartbeats 2000000 in
theorem refcheck_in (A : Option Addr) (n c : Nat) (l : List Ins) (w : World) (hR : IRd w A n l) (h1 : 1 ≤ n) (h128 : n ≤ 128) : Calls Tryd.prog 11 #[.slice A n c] w fun e w' => e = .returned (numsOf (chk l)) ∧ Below w.heap.size w w' := by
  have hlen := hR.len
  have hh : ¬ (l.length < 1 ∨ 128 < l.length) := by omega
  have hbad : ∀ (k : Nat) (i : Ins) (c : Int), l[k]? = some i → badI n i = some c → (∀ (j : Nat) (g : Ins), j < k → l[j]? = some g → badI n g = none) → numsOf (chk l) = .tuple #[.int .i64 c, .int .i64 (k : Int)] := fun k i c a b d => by
    rw [chk_bad hh a (by rw [hlen]; exact b) (by rw [hlen]; exact d), numsOf_some]
  have hlast : (∀ (j : Nat) (g : Ins), j < n → l[j]? = some g → badI n g = none) → ∀ i, l[n - 1]? = some i → ¬ lastI i → numsOf (chk l) = .tuple #[.int .i64 2, .int .i64 ((n - 1 : Nat) : Int)] := fun a i b d => by
    have := chk_last hh (by rw [hlen]; exact a) (i := i) (by rw [hlen]; exact b) d
    rw [hlen] at this
    rw [this, numsOf_some]
  have hgood : (∀ (j : Nat) (g : Ins), j < n → l[j]? = some g → badI n g = none) → ∀ i, l[n - 1]? = some i → lastI i → numsOf (chk l) = .tuple #[.int .i64 0, .int .i64 0] := fun a i b d => by
    rw [chk_ok hh (by rw [hlen]; exact a) (i := i) (by rw [hlen]; exact b) d, numsOf_none]
  have HB := Lib.hid hbad
  have HL := Lib.hid hlast
  have HG := Lib.hid hgood
  clear hbad hlast hgood hh hlen
  go_enter Tryd.func11, Tryd.ntmps11
  go_wp2_with fail
  go_loopw [4] (fun i wr => ∃ k : Nat, k ≤ n ∧ i = .int .i64 (k : Int) ∧ Hid (∀ (j : Nat) (g : Ins), j < k → l[j]? = some g → badI n g = none) ∧ Below w.heap.size w wr) (fun i _ => n - (intOf i).toNat)
  case atStart => exact ⟨0, Nat.zero_le _, rfl, Lib.hid (fun j g hj => absurd hj (by omega)), Below.refl _ _⟩
  case round =>
    obtain ⟨k, hk, rfl, hp, hbel⟩ := hrel
    by_cases hlt : k < n
    · obtain ⟨ad, i, rfl, hf, hc⟩ := hR.at_ hlt
      have hcw : ∀ W, Below w.heap.size w W → ∀ j v, (insA i)[j]? = some v → W.cell? ((ad.add (k * 4)).add j) = some v := fun W hW j v hj => (hW.cell (block_lt_of_cell (hc j v hj))).trans (hc j v hj)
      have HCW := Lib.hid hcw
      have Hf := Lib.hid hf
      clear hf hc hcw
      have b0 := N8_in i.o
      have b1 := N8_in i.a
      have b2 := N8_in i.b
      have b3 := N8_in i.c
      have hstep : badI n i = none → Hid (∀ (j : Nat) (g : Ins), j < k + 1 → l[j]? = some g → badI n g = none) := fun ho => Lib.hid (fun j g hj hg => by
        rcases Nat.lt_or_ge j k with h | h
        · exact hp.out j g h hg
        · obtain rfl : j = k := by omega
          rw [Hf.out] at hg
          injection hg with hg
          rw [← hg, ho])
      have hfail : ∀ c, badI n i = some c → Hid (numsOf (chk l) = .tuple #[.int .i64 c, .int .i64 (k : Int)]) := fun c hc => Lib.hid (HB.out k i c Hf.out hc hp.out)
      have HST := Lib.hid hstep
      have HFA := Lib.hid hfail
      clear hstep hfail hp
      go_wp2_with (refine load46 rfl _ rfl (ad.add (k * 4)) rfl i (HCW.out _ hbel) ?_)
      refine (formed_any (N8 i.o) (N8 i.a) (N8 i.b) (N8 i.c) _ b0.1 b1.1 b2.1 b3.1).mono ?_
      rintro e w1 ⟨rfl, hb1⟩
      have hbel1 := hbel.trans (hb1.mono hbel.size)
      clear hb1
      cases ho : formB (N8 i.o) (N8 i.a) (N8 i.b) (N8 i.c) with
      | false =>
        have HFIN := HFA.out 3 (badI_form ho)
        clear ho HST HFA
        go_wp2_with fail
        go_ret2
        rw [HFIN.out]
        exact ⟨rfl, hbel1⟩
      | true =>
        have HO := Lib.hid ho
        have hc0 : w1.cell? (ad.add (k * 4)) = some (.int .u8 (N8 i.o)) := by
          have := HCW.out w1 hbel1 0 _ rfl
          rw [add_of_add, Nat.add_zero] at this
          exact this
        clear ho
        by_cases hld : leadsI i
        · have far : ∀ w2, Below w.heap.size w w2 → True := fun _ _ => trivial
          clear far
          by_cases hfar : (n : Int) ≤ nI i
          · have HFIN := HFA.out 4 (badI_far HO.out hld hfar)
            have hfar' : (n : Int) ≤ numI (N8 i.o) (N8 i.b) (N8 i.c) := hfar
            have hld' : N8 i.o = 15 ∨ N8 i.o = 16 := hld
            clear hfar hld HST HFA
            rcases hld' with h15 | h16
            · have t1 : (N8 i.o == 15) = true := by rw [beq_iff_eq]; exact h15
              have HN := Lib.hid h15
              clear h15
              go_wp2_with (refine load46g (by rfl) _ rfl (ad.add (k * 4)) rfl i (HCW.out _ hbel1) ?_)
              refine (refnumber_any (N8 i.o) (N8 i.a) (N8 i.b) (N8 i.c) _ b2.1 b2.2 b3.1 b3.2).mono ?_
              rintro e w' ⟨rfl, rfl⟩
              have hbel2 := hbel1.alloc hbel1.size (.cells (insA i) 46)
              go_wp2_with fail
              go_ret2
              rw [HFIN.out]
              exact ⟨rfl, hbel2⟩
            · have t1 : (N8 i.o == 15) = false := by rw [beq_eq_false_iff_ne]; omega
              have t2 : (N8 i.o == 16) = true := by rw [beq_iff_eq]; exact h16
              have HN := Lib.hid h16
              clear h16
              go_wp2_with (refine load46g (by rfl) _ rfl (ad.add (k * 4)) rfl i (HCW.out _ hbel1) ?_)
              refine (refnumber_any (N8 i.o) (N8 i.a) (N8 i.b) (N8 i.c) _ b2.1 b2.2 b3.1 b3.2).mono ?_
              rintro e w' ⟨rfl, rfl⟩
              have hbel2 := hbel1.alloc hbel1.size (.cells (insA i) 46)
              go_wp2_with fail
              go_ret2
              rw [HFIN.out]
              exact ⟨rfl, hbel2⟩
          · have hp2 := HST.out (badI_none HO.out (fun x => hfar x.2))
            have hfar' : ¬ (n : Int) ≤ numI (N8 i.o) (N8 i.b) (N8 i.c) := hfar
            have hd : decide ((n : Int) ≤ numI (N8 i.o) (N8 i.b) (N8 i.c)) = false := by rw [decide_eq_false_iff_not]; exact hfar'
            have hld' : N8 i.o = 15 ∨ N8 i.o = 16 := hld
            clear hfar hfar' hld HST HFA
            rcases hld' with h15 | h16
            · have t1 : (N8 i.o == 15) = true := by rw [beq_iff_eq]; exact h15
              have HN := Lib.hid h15
              clear h15
              go_wp2_with (refine load46g (by rfl) _ rfl (ad.add (k * 4)) rfl i (HCW.out _ hbel1) ?_)
              refine (refnumber_any (N8 i.o) (N8 i.a) (N8 i.b) (N8 i.c) _ b2.1 b2.2 b3.1 b3.2).mono ?_
              rintro e w' ⟨rfl, rfl⟩
              have hbel2 := hbel1.alloc hbel1.size (.cells (insA i) 46)
              go_wp2_with fail
              go_roundw
              case rel => exact ⟨k + 1, by omega, by go_num, hp2, hbel2⟩
              case measure => simp [intOf]; omega
            · have t1 : (N8 i.o == 15) = false := by rw [beq_eq_false_iff_ne]; omega
              have t2 : (N8 i.o == 16) = true := by rw [beq_iff_eq]; exact h16
              have HN := Lib.hid h16
              clear h16
              go_wp2_with (refine load46g (by rfl) _ rfl (ad.add (k * 4)) rfl i (HCW.out _ hbel1) ?_)
              refine (refnumber_any (N8 i.o) (N8 i.a) (N8 i.b) (N8 i.c) _ b2.1 b2.2 b3.1 b3.2).mono ?_
              rintro e w' ⟨rfl, rfl⟩
              have hbel2 := hbel1.alloc hbel1.size (.cells (insA i) 46)
              go_wp2_with fail
              go_roundw
              case rel => exact ⟨k + 1, by omega, by go_num, hp2, hbel2⟩
              case measure => simp [intOf]; omega
        · have hp2 := HST.out (badI_none HO.out (fun x => hld x.1))
          have t1 : (N8 i.o == 15) = false := by rw [beq_eq_false_iff_ne]; exact fun x => hld (.inl x)
          have t2 : (N8 i.o == 16) = false := by rw [beq_eq_false_iff_ne]; exact fun x => hld (.inr x)
          clear hld HST HFA
          go_wp2_with fail
          go_roundw
          case rel => exact ⟨k + 1, by omega, by go_num, hp2, hbel1⟩
          case measure => simp [intOf]; omega
    · obtain rfl : k = n := by omega
      obtain ⟨q, rfl⟩ : ∃ q, k = q + 1 := ⟨k - 1, by omega⟩
      obtain ⟨ad, i, rfl, hf, hc⟩ := hR.at_ (show q < q + 1 by omega)
      have hc0 : w.cell? (ad.add (q * 4)) = some (.int .u8 (N8 i.o)) := by
        have := hc 0 _ rfl
        rw [add_of_add, Nat.add_zero] at this
        exact this
      have hcw : wr.cell? (ad.add (q * 4)) = some (.int .u8 (N8 i.o)) := (hbel.cell (block_lt_of_cell hc0)).trans hc0
      have hL := HL.out hp.out i (by simpa using hf)
      have hG := HG.out hp.out i (by simpa using hf)
      have HL' := Lib.hid hL
      have HG' := Lib.hid hG
      clear hL hG hp hf hc hc0 HL HG HB
      by_cases z0 : N8 i.o = 0
      · have HF := Lib.hid (HG'.out (.inl z0))
        have e0 : (N8 i.o != 0) = false := by rw [bne_eq_false_iff_eq]; exact z0
        clear z0 HL' HG'
        generalize N8 i.o = x at *
        go_wp2_with fail
        go_ret2
        rw [HF.out]
        exact ⟨rfl, hbel⟩
      · by_cases z15 : N8 i.o = 15
        · have HF := Lib.hid (HG'.out (.inr z15))
          have e0 : (N8 i.o != 0) = true := by rw [bne_iff_ne]; exact z0
          have e1 : (N8 i.o != 15) = false := by rw [bne_eq_false_iff_eq]; exact z15
          clear z0 z15 HL' HG'
          generalize N8 i.o = x at *
          go_wp2_with fail
          go_ret2
          rw [HF.out]
          exact ⟨rfl, hbel⟩
        · have HF := Lib.hid (HL'.out (fun h => by rcases h with h | h; exact z0 h; exact z15 h))
          have e0 : (N8 i.o != 0) = true := by rw [bne_iff_ne]; exact z0
          have e1 : (N8 i.o != 15) = true := by rw [bne_iff_ne]; exact z15
          clear z0 z15 HL' HG'
          generalize N8 i.o = x at *
          go_wp2_with fail
          go_ret2
          rw [HF.out]
          exact ⟨rfl, hbel⟩
theorem refcheck_any (A : Option Addr) (n c : Nat) (l : List Ins) (w : World) (hR : IRd w A n l) (hn : n ≤ 9223372036854775807) : Calls Tryd.prog 11 #[.slice A n c] w fun e w' => e = .returned (numsOf (chk l)) ∧ Below w.heap.size w w' := by
  by_cases h : n < 1 ∨ 128 < n
  · rw [chk_len (by rw [hR.len]; exact h), numsOf_some]
    exact refcheck_len A n c w hn h
  · exact refcheck_in A n c l w hR (by omega) (by omega)
end Go.Proofs.YtdkhbnkhpebkkaaDoor
