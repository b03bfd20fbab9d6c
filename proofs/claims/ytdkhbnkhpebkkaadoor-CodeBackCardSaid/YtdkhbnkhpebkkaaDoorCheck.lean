/-
  THE WALKS OF Check, few.
-/
import Derived.Test.YtdkhbnkhpebkkaaDoorForm
namespace Go.Proofs.YtdkhbnkhpebkkaaDoor
set_option linter.unusedSimpArgs false
set_option linter.unusedVariables false
open Go.RowKit

/-- an instruction -/
structure Ins where
  o : UInt8
  a : UInt8
  b : UInt8
  c : UInt8
def Ins.zero : Ins := ⟨0, 0, 0, 0⟩
abbrev insA (i : Ins) : Array Value := ins4 (N8 i.o) (N8 i.a) (N8 i.b) (N8 i.c)
abbrev insV (i : Ins) : Value := .agg (insA i)
noncomputable def okI (i : Ins) : Bool := formB (N8 i.o) (N8 i.a) (N8 i.b) (N8 i.c)
def leadsI (i : Ins) : Prop := N8 i.o = 15 ∨ N8 i.o = 16
def nI (i : Ins) : Int := numI (N8 i.o) (N8 i.b) (N8 i.c)
def lastI (i : Ins) : Prop := N8 i.o = 0 ∨ N8 i.o = 15
open Classical in
/-- the fault of an instruction of a list of n -/
noncomputable def badI (n : Nat) (i : Ins) : Option Int := if okI i = false then some 3 else if leadsI i ∧ (n : Int) ≤ nI i then some 4 else none
theorem badI_form {n : Nat} {i : Ins} (h : okI i = false) : badI n i = some 3 := by unfold badI; rw [if_pos h]
theorem badI_far {n : Nat} {i : Ins} (h : okI i = true) (h1 : leadsI i) (h2 : (n : Int) ≤ nI i) : badI n i = some 4 := by
  unfold badI
  rw [if_neg (by rw [h]; simp), if_pos ⟨h1, h2⟩]
theorem badI_none {n : Nat} {i : Ins} (h : okI i = true) (h1 : ¬ (leadsI i ∧ (n : Int) ≤ nI i)) : badI n i = none := by
  unfold badI
  rw [if_neg (by rw [h]; simp), if_neg h1]
theorem badI_ok {n : Nat} {i : Ins} (h : badI n i = none) : okI i = true ∧ (leadsI i → nI i < n) := by
  unfold badI at h
  split at h
  · cases h
  · rename_i h1
    split at h
    · cases h
    · rename_i h2
      refine ⟨by simpa using h1, fun hl => ?_⟩
      rcases Int.lt_or_le (nI i) n with h3 | h3
      · exact h3
      · exact absurd ⟨hl, h3⟩ h2
open Classical in
/-- the fault of a list -/
noncomputable def chk (l : List Ins) : Option (Int × Int) :=
  if l.length < 1 ∨ 128 < l.length then some (1, 0)
  else match l.findIdx? fun i => (badI l.length i).isSome with
    | some k => some ((badI l.length (l.getD k Ins.zero)).getD 0, ((k : Nat) : Int))
    | none => if lastI (l.getD (l.length - 1) Ins.zero) then none else some (2, ((l.length - 1 : Nat) : Int))
theorem chk_len {l : List Ins} (h : l.length < 1 ∨ 128 < l.length) : chk l = some (1, 0) := by unfold chk; rw [if_pos h]
theorem chk_bad {l : List Ins} (h : ¬ (l.length < 1 ∨ 128 < l.length)) {k : Nat} {i : Ins} {c : Int} (hk : l[k]? = some i) (hc : badI l.length i = some c) (hp : ∀ (j : Nat) (g : Ins), j < k → l[j]? = some g → badI l.length g = none) : chk l = some (c, (k : Int)) := by
  have hkl : k < l.length := by
    rcases Nat.lt_or_ge k l.length with h1 | h1
    · exact h1
    · rw [List.getElem?_eq_none h1] at hk; cases hk
  have hi : (l.findIdx? fun i => (badI l.length i).isSome) = some k := by
    rw [List.findIdx?_eq_some_iff_getElem]
    refine ⟨hkl, ?_, fun j hj => ?_⟩
    · rw [List.getElem?_eq_getElem hkl] at hk
      injection hk with hk
      rw [hk, hc]
      rfl
    · rw [hp j _ hj (List.getElem?_eq_getElem (by omega))]
      simp
  unfold chk
  rw [if_neg h, hi]
  have hg : l.getD k Ins.zero = i := by rw [List.getD_eq_getElem?_getD, hk]; rfl
  simp only [hg, hc, Option.getD_some]
theorem chk_nf {l : List Ins} (h : ¬ (l.length < 1 ∨ 128 < l.length)) (hp : ∀ (j : Nat) (g : Ins), j < l.length → l[j]? = some g → badI l.length g = none) : (l.findIdx? fun i => (badI l.length i).isSome) = none := by
  rw [List.findIdx?_eq_none_iff]
  intro f hf
  obtain ⟨j, hj, e⟩ := List.getElem_of_mem hf
  rw [hp j f hj (by rw [List.getElem?_eq_getElem hj, e])]
  rfl
theorem chk_last {l : List Ins} (h : ¬ (l.length < 1 ∨ 128 < l.length)) (hp : ∀ (j : Nat) (g : Ins), j < l.length → l[j]? = some g → badI l.length g = none) {i : Ins} (hi : l[l.length - 1]? = some i) (hl : ¬ lastI i) : chk l = some (2, ((l.length - 1 : Nat) : Int)) := by
  unfold chk
  rw [if_neg h, chk_nf h hp]
  have hg : l.getD (l.length - 1) Ins.zero = i := by rw [List.getD_eq_getElem?_getD, hi]; rfl
  simp only []
  rw [if_neg (by rw [hg]; exact hl)]
theorem chk_ok {l : List Ins} (h : ¬ (l.length < 1 ∨ 128 < l.length)) (hp : ∀ (j : Nat) (g : Ins), j < l.length → l[j]? = some g → badI l.length g = none) {i : Ins} (hi : l[l.length - 1]? = some i) (hl : lastI i) : chk l = none := by
  unfold chk
  rw [if_neg h, chk_nf h hp]
  have hg : l.getD (l.length - 1) Ins.zero = i := by rw [List.getD_eq_getElem?_getD, hi]; rfl
  simp only []
  rw [if_pos (by rw [hg]; exact hl)]
theorem chk_code {l : List Ins} {x : Int × Int} (h : chk l = some x) : (x.1 == 0) = false := by
  unfold chk at h
  split at h
  · injection h with h
    subst h
    rfl
  · split at h
    · rename_i k hk
      injection h with h
      subst h
      rw [List.findIdx?_eq_some_iff_getElem] at hk
      obtain ⟨hkl, hs, _⟩ := hk
      have hg : l.getD k Ins.zero = l[k] := by rw [List.getD_eq_getElem?_getD, List.getElem?_eq_getElem hkl]; rfl
      rw [hg]
      generalize l[k] = i at *
      unfold badI at *
      split
      · rfl
      · split
        · rfl
        · rename_i h1 h2
          rw [if_neg h1, if_neg h2] at hs
          cases hs
    · split at h
      · cases h
      · injection h with h
        subst h
        rfl
/-- what a program is -/
theorem chk_none {l : List Ins} (h : chk l = none) : 1 ≤ l.length ∧ l.length ≤ 128 ∧ (∀ (j : Nat) (g : Ins), l[j]? = some g → badI l.length g = none) ∧ lastI (l.getD (l.length - 1) Ins.zero) := by
  unfold chk at h
  split at h
  · cases h
  · rename_i h0
    split at h
    · cases h
    · rename_i hn
      split at h
      · rename_i hl
        refine ⟨by omega, by omega, fun j g hg => ?_, hl⟩
        rw [List.findIdx?_eq_none_iff] at hn
        have := hn g (List.mem_of_getElem? hg)
        cases hb : badI l.length g with
        | none => rfl
        | some c => rw [hb] at this; cases this
      · cases h

/-- a slice of instructions that reads -/
structure IRd (w : World) (A : Option Addr) (n : Nat) (l : List Ins) : Prop where
  len : l.length = n
  cells : ∀ k i, l[k]? = some i → ∃ ad, A = some ad ∧ ∀ j v, (insA i)[j]? = some v → w.cell? ((ad.add (k * 4)).add j) = some v
theorem IRd.below {w w' : World} {A : Option Addr} {n : Nat} {l : List Ins} (h : IRd w A n l) (hb : Below w.heap.size w w') : IRd w' A n l := by
  refine ⟨h.len, fun k f hf => ?_⟩
  obtain ⟨ad, e, hc⟩ := h.cells k f hf
  exact ⟨ad, e, fun j v hj => (hb.cell (block_lt_of_cell (hc j v hj))).trans (hc j v hj)⟩
theorem IRd.at_ {w : World} {A : Option Addr} {n : Nat} {l : List Ins} (h : IRd w A n l) {k : Nat} (hk : k < n) :
    ∃ ad i, A = some ad ∧ l[k]? = some i ∧ ∀ j v, (insA i)[j]? = some v → w.cell? ((ad.add (k * 4)).add j) = some v := by
  have hl : k < l.length := by have := h.len; omega
  obtain ⟨ad, e, hc⟩ := h.cells k _ (List.getElem?_eq_getElem hl)
  exact ⟨ad, _, e, List.getElem?_eq_getElem hl, hc⟩
theorem IRd.take {w : World} {A : Option Addr} {n : Nat} {l : List Ins} (h : IRd w A n l) (k : Nat) : IRd w A (min n k) (l.take k) := by
  refine ⟨by have := h.len; simp; omega, fun j f hf => h.cells j f ?_⟩
  rw [List.getElem?_take] at hf
  split at hf
  · exact hf
  · cases hf

theorem info46 : (Tryd.prog.info? 46).map (·.size) = some 4 := by kernel_rfl
section
variable {ops : Array Oper} {rest : List Oper} {o : Oper} {a : Act} {w : World} {Q : Exit → Act → World → Prop}
theorem load46 (hgd : o.guard = none) (x : Operand) (ho : o.op = .load 46 x) (ad : Addr) (hx : a.eval x = .pointer (some ad)) (i : Ins) (hc : ∀ j v, (insA i)[j]? = some v → w.cell? (ad.add j) = some v)
    (h : wpList Tryd.prog ops Q rest (a.put o.dst (insV i)) w) : wpList Tryd.prog ops Q (o :: rest) a w :=
  wpList_load_cells hgd 46 x ho ad hx (insA i) _ Tryd.underlying46 rfl info46 hc h
end

set_option maxHeartbeats 400000 in
theorem few_any (A : Option Addr) (n c : Nat) (w : World) (hnc : n ≤ c) (hn : n ≤ 9223372036854775807) : Calls Tryd.prog 9 #[.slice A n c] w fun e w' => e = .returned (.slice A (min n 140) c) ∧ w = w' := by
  by_cases h : 140 < n
  · have hm : min n 140 = 140 := by omega
    rw [hm]
    have hc : 140 ≤ c := by omega
    go_enter Tryd.func9, Tryd.ntmps9
    go_wp2
    go_ret
    exact ⟨rfl, rfl⟩
  · have hm : min n 140 = n := by omega
    rw [hm]
    go_enter Tryd.func9, Tryd.ntmps9
    go_wp2
    go_ret
    exact ⟨rfl, rfl⟩

theorem check_len (A : Option Addr) (n c : Nat) (w : World) (hn : n ≤ 9223372036854775807) (h : n < 1 ∨ 128 < n) : Calls Tryd.prog 10 #[.slice A n c] w (ErrRet w [(1, 0)]) := by
  rcases h with h | h
  · obtain rfl : n = 0 := by omega
    go_enter Tryd.func10, Tryd.ntmps10
    go_wp2_with fail
    refine (new_err 1 0 _ (by decide)).mono ?_
    rintro e w1 ⟨v, rfl, h1, h2⟩
    go_wp2
    go_ret
    exact ⟨v, rfl, h1, h2⟩
  · have hz : ((n : Int) == 0) = false := by rw [beq_eq_false_iff_ne]; omega
    go_enter Tryd.func10, Tryd.ntmps10
    go_wp2_with fail
    refine (new_err 1 0 _ (by decide)).mono ?_
    rintro e w1 ⟨v, rfl, h1, h2⟩
    go_wp2
    go_ret
    exact ⟨v, rfl, h1, h2⟩

set_option maxRecDepth 100000 in
set_option maxHeartbeats 2000000 in
theorem check_in (A : Option Addr) (n c : Nat) (l : List Ins) (w : World) (hR : IRd w A n l) (h1 : 1 ≤ n) (h128 : n ≤ 128) : Calls Tryd.prog 10 #[.slice A n c] w (ErrRet w (chk l).toList) := by
  have hlen := hR.len
  have hh : ¬ (l.length < 1 ∨ 128 < l.length) := by omega
  have hbad : ∀ (k : Nat) (i : Ins) (c : Int), l[k]? = some i → badI n i = some c → (∀ (j : Nat) (g : Ins), j < k → l[j]? = some g → badI n g = none) → chk l = some (c, (k : Int)) := fun k i c a b d => chk_bad hh a (by rw [hlen]; exact b) (by rw [hlen]; exact d)
  have hlast : (∀ (j : Nat) (g : Ins), j < n → l[j]? = some g → badI n g = none) → ∀ i, l[n - 1]? = some i → ¬ lastI i → chk l = some (2, ((n - 1 : Nat) : Int)) := fun a i b d => by
    have := chk_last hh (by rw [hlen]; exact a) (i := i) (by rw [hlen]; exact b) d
    rw [hlen] at this
    exact this
  have hgood : (∀ (j : Nat) (g : Ins), j < n → l[j]? = some g → badI n g = none) → ∀ i, l[n - 1]? = some i → lastI i → chk l = none := fun a i b d => chk_ok hh (by rw [hlen]; exact a) (i := i) (by rw [hlen]; exact b) d
  have HB := Lib.hid hbad
  have HL := Lib.hid hlast
  have HG := Lib.hid hgood
  have hz : ((n : Int) == 0) = false := by rw [beq_eq_false_iff_ne]; omega
  clear hbad hlast hgood hh hlen
  go_enter Tryd.func10, Tryd.ntmps10
  go_wp2_with fail
  clear hz
  go_loopw [17] (fun i wr => ∃ k : Nat, k ≤ n ∧ i = .int .i64 (k : Int) ∧ Hid (∀ (j : Nat) (g : Ins), j < k → l[j]? = some g → badI n g = none) ∧ Below w.heap.size w wr) (fun i _ => n - (intOf i).toNat)
  case atStart => exact ⟨0, Nat.zero_le _, rfl, Lib.hid (fun j g hj => absurd hj (by omega)), Below.refl _ _⟩
  case round =>
    obtain ⟨k, hk, rfl, hp, hbel⟩ := hrel
    by_cases hlt : k < n
    · obtain ⟨ad, i, rfl, hf, hc⟩ := hR.at_ hlt
      have hcw : ∀ j v, (insA i)[j]? = some v → wr.cell? ((ad.add (k * 4)).add j) = some v := fun j v hj => (hbel.cell (block_lt_of_cell (hc j v hj))).trans (hc j v hj)
      have Hf := Lib.hid hf
      clear hf hc
      have b0 := N8_in i.o
      have b1 := N8_in i.a
      have b2 := N8_in i.b
      have b3 := N8_in i.c
      have hbel1 := hbel.alloc hbel.size (.cells (insA i) 46)
      have hbel2 := hbel1.alloc hbel1.size (.cells (insA i) 46)
      have hstep : badI n i = none → Hid (∀ (j : Nat) (g : Ins), j < k + 1 → l[j]? = some g → badI n g = none) := fun ho => Lib.hid (fun j g hj hg => by
        rcases Nat.lt_or_ge j k with h | h
        · exact hp.out j g h hg
        · obtain rfl : j = k := by omega
          rw [Hf.out] at hg
          injection hg with hg
          rw [← hg, ho])
      have hfail : ∀ c, badI n i = some c → Hid (chk l = some (c, (k : Int))) := fun c hc => Lib.hid (HB.out k i c Hf.out hc hp.out)
      have HST := Lib.hid hstep
      have HFA := Lib.hid hfail
      clear hstep hfail hp
      go_wp2_with (refine load46 rfl _ rfl (ad.add (k * 4)) rfl i hcw ?_)
      clear hcw
      refine (wellFormed_any (N8 i.o) (N8 i.a) (N8 i.b) (N8 i.c) _ b0.1 b1.1 b2.1 b3.1).mono ?_
      rintro e w' ⟨rfl, rfl⟩
      change Hid _ at HST
      cases ho : formB (N8 i.o) (N8 i.a) (N8 i.b) (N8 i.c) with
      | false =>
        have HFIN := HFA.out 3 (badI_form ho)
        clear ho HST HFA
        go_wp2_with fail
        refine (new_err 3 (k : Int) _ (by decide)).mono ?_
        rintro e w2 ⟨v, rfl, hch, hb2⟩
        go_wp2
        go_ret
        rw [HFIN.out]
        exact ⟨v, rfl, hch, hbel2.trans (hb2.mono hbel2.size)⟩
      | true =>
        have HO := Lib.hid ho
        clear ho
        go_wp2_with fail
        refine (leads_any (N8 i.o) (N8 i.a) (N8 i.b) (N8 i.c) _ b0.1).mono ?_
        rintro e w' ⟨rfl, rfl⟩
        have hbel3 := hbel2.alloc hbel2.size (.cells (insA i) 46)
        by_cases hld : leadsI i
        · rw [show decide (N8 i.o = 15 ∨ N8 i.o = 16) = true from decide_eq_true hld]
          go_wp2_with fail
          refine (number_any (N8 i.o) (N8 i.a) (N8 i.b) (N8 i.c) _ b2.1 b2.2 b3.1 b3.2).mono ?_
          rintro e w' ⟨rfl, rfl⟩
          have hbel4 := hbel3.alloc hbel3.size (.cells (insA i) 46)
          by_cases hfar : (n : Int) ≤ nI i
          · have HFIN := HFA.out 4 (badI_far HO.out hld hfar)
            have hfar' : (n : Int) ≤ numI (N8 i.o) (N8 i.b) (N8 i.c) := hfar
            clear hfar hld HST HFA
            generalize numI (N8 i.o) (N8 i.b) (N8 i.c) = q at *
            go_wp2_with fail
            refine (new_err 4 (k : Int) _ (by decide)).mono ?_
            rintro e w2 ⟨v, rfl, hch, hb2⟩
            go_wp2
            go_ret
            rw [HFIN.out]
            exact ⟨v, rfl, hch, hbel4.trans (hb2.mono hbel4.size)⟩
          · have hp2 := HST.out (badI_none HO.out (fun x => hfar x.2))
            have hfar' : ¬ (n : Int) ≤ numI (N8 i.o) (N8 i.b) (N8 i.c) := hfar
            have hd : decide ((n : Int) ≤ numI (N8 i.o) (N8 i.b) (N8 i.c)) = false := by rw [decide_eq_false_iff_not]; exact hfar'
            clear hfar hfar' hld HST HFA
            generalize numI (N8 i.o) (N8 i.b) (N8 i.c) = q at *
            go_wp2
            go_roundw
            case rel => exact ⟨k + 1, by omega, by go_num, hp2, hbel4⟩
            case measure => simp [intOf]; omega
        · have hp2 := HST.out (badI_none HO.out (fun x => hld x.1))
          rw [show decide (N8 i.o = 15 ∨ N8 i.o = 16) = false from decide_eq_false hld]
          clear hld HST HFA
          go_wp2
          go_roundw
          case rel => exact ⟨k + 1, by omega, by go_num, hp2, hbel3⟩
          case measure => simp [intOf]; omega
    · obtain rfl : k = n := by omega
      obtain ⟨q, rfl⟩ : ∃ q, k = q + 1 := ⟨k - 1, by omega⟩
      obtain ⟨ad, i, rfl, hf, hc⟩ := hR.at_ (show q < q + 1 by omega)
      have hc0 : w.cell? (ad.add (q * 4)) = some (.int .u8 (N8 i.o)) := by
        have := hc 0 _ rfl
        rw [add_of_add, Nat.add_zero] at this
        exact this
      have hcw : wr.cell? (ad.add (q * 4)) = some (.int .u8 (N8 i.o)) := (hbel.cell (block_lt_of_cell hc0)).trans hc0
      have hL := HL.out hp.out i (by simpa using hf)
      have hG := HG.out hp.out i (by simpa using hf)
      have HL' := Lib.hid hL
      have HG' := Lib.hid hG
      have b0 := N8_in i.o
      clear hL hG hp hf hc hc0 HL HG HB
      by_cases z0 : N8 i.o = 0
      · have HF := Lib.hid (HG'.out (.inl z0))
        have e0 : (N8 i.o != 0) = false := by rw [bne_eq_false_iff_eq]; exact z0
        clear z0 HL' HG'
        generalize N8 i.o = x at *
        go_wp2_with fail
        go_ret
        rw [HF.out]
        exact ⟨_, rfl, rfl, hbel⟩
      · by_cases z15 : N8 i.o = 15
        · have HF := Lib.hid (HG'.out (.inr z15))
          have e0 : (N8 i.o != 0) = true := by rw [bne_iff_ne]; exact z0
          have e1 : (N8 i.o != 15) = false := by rw [bne_eq_false_iff_eq]; exact z15
          clear z0 z15 HL' HG'
          generalize N8 i.o = x at *
          go_wp2_with fail
          go_ret
          rw [HF.out]
          exact ⟨_, rfl, rfl, hbel⟩
        · have HF := Lib.hid (HL'.out (fun h => by rcases h with h | h; exact z0 h; exact z15 h))
          have e0 : (N8 i.o != 0) = true := by rw [bne_iff_ne]; exact z0
          have e1 : (N8 i.o != 15) = true := by rw [bne_iff_ne]; exact z15
          clear z0 z15 HL' HG'
          generalize N8 i.o = x at *
          go_wp2_with fail
          refine (new_err 2 (q : Int) wr (by decide)).mono ?_
          rintro e w2 ⟨v, rfl, hch, hb2⟩
          go_wp2
          go_ret
          rw [HF.out]
          exact ⟨v, rfl, hch, hbel.trans (hb2.mono hbel.size)⟩
theorem check_any (A : Option Addr) (n c : Nat) (l : List Ins) (w : World) (hR : IRd w A n l) (hn : n ≤ 9223372036854775807) : Calls Tryd.prog 10 #[.slice A n c] w (ErrRet w (chk l).toList) := by
  by_cases h : n < 1 ∨ 128 < n
  · rw [chk_len (by rw [hR.len]; exact h)]
    exact check_len A n c w hn h
  · exact check_in A n c l w hR (by omega) (by omega)
end Go.Proofs.YtdkhbnkhpebkkaaDoor
