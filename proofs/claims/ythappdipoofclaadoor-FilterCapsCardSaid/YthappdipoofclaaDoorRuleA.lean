/-
  THE WALKS OF THE RULES: valid, Check, the document's Check, told, few.
-/
import Derived.Test.YthappdipoofclaaDoorPath
import Derived.Test.YthappdipoofclaaDoorNum
namespace Go.Proofs.YthappdipoofclaaDoor
set_option linter.unusedSimpArgs false
set_option linter.unusedVariables false
open Go.RowKit

/-- a field -/
structure Fld where
  at_ : Int
  size : Int
  low : Int
  high : Int
abbrev fldA (f : Fld) : Array Value := #[.int .i64 f.at_, .int .i64 f.size, .int .u64 f.low, .int .u64 f.high]
abbrev fldV (f : Fld) : Value := .agg (fldA f)
/-- a field that may be -/
def okB (f : Fld) : Bool := decide (1 ≤ f.size ∧ f.size ≤ 8 ∧ 0 ≤ f.at_ ∧ f.at_ ≤ 64 - f.size ∧ f.low ≤ f.high)
theorem okB_iff {f : Fld} : okB f = true ↔ (1 ≤ f.size ∧ f.size ≤ 8 ∧ 0 ≤ f.at_ ∧ f.at_ ≤ 64 - f.size ∧ f.low ≤ f.high) := by simp [okB]
theorem okB_no {f : Fld} (h : ¬ (1 ≤ f.size ∧ f.size ≤ 8 ∧ 0 ≤ f.at_ ∧ f.at_ ≤ 64 - f.size ∧ f.low ≤ f.high)) : okB f = false := by simpa [okB] using h

set_option maxHeartbeats 1000000 in
theorem valid_any (f : Fld) (w : World) : Calls Tryd.prog 31 #[fldV f] w fun e w' => e = .returned (.bool (okB f)) ∧ w.alloc (.cells (fldA f) 38) = w' := by
  obtain ⟨p, s, l, h⟩ := f
  by_cases h1 : s < 1
  · rw [okB_no (by simp; omega)]
    go_enter Tryd.func31, Tryd.ntmps31
    go_wp2
    go_ret
    exact ⟨rfl, rfl⟩
  by_cases h2 : 8 < s
  · rw [okB_no (by simp; omega)]
    go_enter Tryd.func31, Tryd.ntmps31
    go_wp2
    go_ret
    exact ⟨rfl, rfl⟩
  by_cases h3 : 0 ≤ p
  · by_cases h4 : p ≤ 64 - s
    · by_cases h5 : l ≤ h
      · rw [okB_iff.2 ⟨by simp; omega, by simp; omega, h3, h4, h5⟩]
        go_enter Tryd.func31, Tryd.ntmps31
        go_wp2
        go_ret
        exact ⟨rfl, rfl⟩
      · rw [okB_no (by simp; omega)]
        go_enter Tryd.func31, Tryd.ntmps31
        go_wp2
        go_ret
        exact ⟨rfl, rfl⟩
    · rw [okB_no (by simp; omega)]
      go_enter Tryd.func31, Tryd.ntmps31
      go_wp2
      go_ret
      exact ⟨rfl, rfl⟩
  · rw [okB_no (by simp; omega)]
    go_enter Tryd.func31, Tryd.ntmps31
    go_wp2
    go_ret
    exact ⟨rfl, rfl⟩

/-- a slice of fields that reads -/
structure FRd (w : World) (A : Option Addr) (n : Nat) (fs : List Fld) : Prop where
  len : fs.length = n
  cells : ∀ k f, fs[k]? = some f → ∃ ad, A = some ad ∧ ∀ j v, (fldA f)[j]? = some v → w.cell? ((ad.add (k * 4)).add j) = some v
theorem FRd.below {w w' : World} {A : Option Addr} {n : Nat} {fs : List Fld} (h : FRd w A n fs) (hb : Below w.heap.size w w') : FRd w' A n fs := by
  refine ⟨h.len, fun k f hf => ?_⟩
  obtain ⟨ad, e, hc⟩ := h.cells k f hf
  exact ⟨ad, e, fun j v hj => (hb.cell (block_lt_of_cell (hc j v hj))).trans (hc j v hj)⟩
theorem FRd.at_ {w : World} {A : Option Addr} {n : Nat} {fs : List Fld} (h : FRd w A n fs) {k : Nat} (hk : k < n) :
    ∃ ad f, A = some ad ∧ fs[k]? = some f ∧ ∀ j v, (fldA f)[j]? = some v → w.cell? ((ad.add (k * 4)).add j) = some v := by
  have hl : k < fs.length := by have := h.len; omega
  obtain ⟨ad, e, hc⟩ := h.cells k _ (List.getElem?_eq_getElem hl)
  exact ⟨ad, _, e, List.getElem?_eq_getElem hl, hc⟩

abbrev ruleA (least most : Int) (A : Option Addr) (n c : Nat) : Array Value := #[.int .i64 least, .int .i64 most, .slice A n c]
abbrev ruleV (least most : Int) (A : Option Addr) (n c : Nat) : Value := .agg (ruleA least most A n c)
/-- a rule whose lengths may be -/
def hdB (least most : Int) (n : Nat) : Bool := decide (0 ≤ least ∧ least ≤ most ∧ most ≤ 64 ∧ n ≤ 8)
theorem hdB_iff {least most : Int} {n : Nat} : hdB least most n = true ↔ (0 ≤ least ∧ least ≤ most ∧ most ≤ 64 ∧ n ≤ 8) := by simp [hdB]
theorem hdB_no {least most : Int} {n : Nat} (h : ¬ (0 ≤ least ∧ least ≤ most ∧ most ≤ 64 ∧ n ≤ 8)) : hdB least most n = false := by simpa [hdB] using h
/-- the fault of a rule -/
def chk (least most : Int) (fs : List Fld) : Option (Int × Int) :=
  if hdB least most fs.length = true then match fs.findIdx? fun f => !okB f with
    | some i => some (4, ((i : Nat) : Int))
    | none => none
  else some (1, 0)
theorem chk_hd {least most : Int} {fs : List Fld} (h : hdB least most fs.length = false) : chk least most fs = some (1, 0) := by simp [chk, h]
theorem chk_bad {least most : Int} {fs : List Fld} (h : hdB least most fs.length = true) {k : Nat} {f : Fld} (hf : fs[k]? = some f) (ho : okB f = false) (hp : ∀ j g, j < k → fs[j]? = some g → okB g = true) : chk least most fs = some (4, (k : Int)) := by
  have hk : k < fs.length := by
    rcases Nat.lt_or_ge k fs.length with h1 | h1
    · exact h1
    · rw [List.getElem?_eq_none h1] at hf; cases hf
  have : (fs.findIdx? fun f => !okB f) = some k := by
    rw [List.findIdx?_eq_some_iff_getElem]
    refine ⟨hk, ?_, fun j hj => ?_⟩
    · rw [List.getElem?_eq_getElem hk] at hf
      injection hf with hf
      rw [hf, ho]
      rfl
    · rw [hp j _ hj (List.getElem?_eq_getElem (by omega))]
      simp
  simp [chk, h, this]
theorem chk_ok {least most : Int} {fs : List Fld} (h : hdB least most fs.length = true) (hp : ∀ j g, j < fs.length → fs[j]? = some g → okB g = true) : chk least most fs = none := by
  have : (fs.findIdx? fun f => !okB f) = none := by
    rw [List.findIdx?_eq_none_iff]
    intro f hf
    obtain ⟨j, hj, e⟩ := List.getElem_of_mem hf
    rw [hp j f hj (by rw [List.getElem?_eq_getElem hj, e])]
    rfl
  simp [chk, h, this]
theorem chk_none {least most : Int} {fs : List Fld} (h : chk least most fs = none) : hdB least most fs.length = true ∧ ∀ f ∈ fs, okB f = true := by
  unfold chk at h
  split at h
  · rename_i hh
    refine ⟨hh, fun f hf => ?_⟩
    cases hi : fs.findIdx? fun f => !okB f with
    | some i => rw [hi] at h; cases h
    | none =>
      rw [List.findIdx?_eq_none_iff] at hi
      have := hi f hf
      simpa using this
  · cases h

theorem info38 : (Tryd.prog.info? 38).map (·.size) = some 4 := by kernel_rfl
section
variable {ops : Array Oper} {rest : List Oper} {o : Oper} {a : Act} {w : World} {Q : Exit → Act → World → Prop}
theorem load38 (hgd : o.guard = none) (x : Operand) (ho : o.op = .load 38 x) (ad : Addr) (hx : a.eval x = .pointer (some ad)) (f : Fld) (hc : ∀ j v, (fldA f)[j]? = some v → w.cell? (ad.add j) = some v)
    (h : wpList Tryd.prog ops Q rest (a.put o.dst (fldV f)) w) : wpList Tryd.prog ops Q (o :: rest) a w :=
  wpList_load_cells hgd 38 x ho ad hx (fldA f) _ Tryd.underlying38 rfl info38 hc h
end

set_option maxHeartbeats 1000000 in
theorem check_hd (least most : Int) (A : Option Addr) (n c : Nat) (fs : List Fld) (w : World) (hl : fs.length = n) (hh : hdB least most n = false) (hn : n ≤ 9223372036854775807) :
    Calls Tryd.prog 24 #[ruleV least most A n c] w (ErrRet w (chk least most fs).toList) := by
  rw [chk_hd (by rw [hl]; exact hh)]
  have hh' : ¬ (0 ≤ least ∧ least ≤ most ∧ most ≤ 64 ∧ n ≤ 8) := fun h => by
    rw [hdB_iff.2 h] at hh
    cases hh
  have hb := (Below.refl w.heap.size w).alloc (Nat.le_refl _) (.cells (ruleA least most A n c) 30)
  have fin : ∀ (e : Ending) (w' : World), ErrRet (w.alloc (.cells (ruleA least most A n c) 30)) [(1, 0)] e w' → ErrRet w [(1, 0)] e w' := fun e w' ⟨v, h1, h2, h3⟩ => ⟨v, h1, h2, hb.trans (h3.mono hb.size)⟩
  clear hh
  by_cases h1 : least < 0
  · go_enter Tryd.func24, Tryd.ntmps24
    go_wp2_with fail
    refine (new_err 1 0 _ (by decide)).mono ?_
    rintro e w1 ⟨v, rfl, h1, h2⟩
    go_wp2
    go_ret
    exact fin _ _ ⟨v, rfl, h1, h2⟩
  by_cases h2 : most < least
  · go_enter Tryd.func24, Tryd.ntmps24
    go_wp2_with fail
    refine (new_err 1 0 _ (by decide)).mono ?_
    rintro e w1 ⟨v, rfl, h1, h2⟩
    go_wp2
    go_ret
    exact fin _ _ ⟨v, rfl, h1, h2⟩
  by_cases h3 : 64 < most
  · go_enter Tryd.func24, Tryd.ntmps24
    go_wp2_with fail
    refine (new_err 1 0 _ (by decide)).mono ?_
    rintro e w1 ⟨v, rfl, h1, h2⟩
    go_wp2
    go_ret
    exact fin _ _ ⟨v, rfl, h1, h2⟩
  have h4 : 8 < n := by omega
  go_enter Tryd.func24, Tryd.ntmps24
  go_wp2_with fail
  refine (new_err 1 0 _ (by decide)).mono ?_
  rintro e w1 ⟨v, rfl, h1, h2⟩
  go_wp2
  go_ret
  exact fin _ _ ⟨v, rfl, h1, h2⟩

set_option maxRecDepth 100000 in
set_option maxHeartbeats 1000000 in
theorem check_ok (least most : Int) (A : Option Addr) (n c : Nat) (fs : List Fld) (w : World) (hR : FRd w A n fs) (hh : hdB least most n = true) :
    Calls Tryd.prog 24 #[ruleV least most A n c] w (ErrRet w (chk least most fs).toList) := by
  obtain ⟨h1, h2, h3, h4⟩ := hdB_iff.1 hh
  have hlen := hR.len
  have hfin0 : (∀ j g, j < n → fs[j]? = some g → okB g = true) → chk least most fs = none := fun h => chk_ok (by rw [hlen]; exact hh) (fun j g hj hg => h j g (by omega) hg)
  have hfin1 : ∀ (k : Nat) (f : Fld), fs[k]? = some f → okB f = false → (∀ (j : Nat) (g : Fld), j < k → fs[j]? = some g → okB g = true) → chk least most fs = some (4, (k : Int)) := fun k f hf ho hp => chk_bad (by rw [hlen]; exact hh) hf ho hp
  have HF0 := Lib.hid hfin0
  have HF1 := Lib.hid hfin1
  have hb0 := (Below.refl w.heap.size w).alloc (Nat.le_refl _) (.cells (ruleA least most A n c) 30)
  clear hfin0 hfin1 hh hlen
  go_enter Tryd.func24, Tryd.ntmps24
  go_wp2_with fail
  go_loopw [30] (fun i wr => ∃ k : Nat, k ≤ n ∧ i = .int .i64 (k : Int) ∧ Hid (∀ j g, j < k → fs[j]? = some g → okB g = true) ∧ Below w.heap.size w wr) (fun i _ => n - (intOf i).toNat)
  case atStart => exact ⟨0, Nat.zero_le _, rfl, Lib.hid (fun j g hj => absurd hj (by omega)), hb0⟩
  case round =>
    obtain ⟨k, hk, rfl, hp, hbel⟩ := hrel
    clear hb0
    by_cases hlt : k < n
    · obtain ⟨ad, f, rfl, hf, hc⟩ := hR.at_ hlt
      have hcw : ∀ j v, (fldA f)[j]? = some v → wr.cell? ((ad.add (k * 4)).add j) = some v := fun j v hj => (hbel.cell (block_lt_of_cell (hc j v hj))).trans (hc j v hj)
      have Hf := Lib.hid hf
      clear hf hc
      have hbel1 := hbel.alloc hbel.size (.cells (fldA f) 38)
      go_wp2_with (refine load38 rfl _ rfl (ad.add (k * 4)) rfl f hcw ?_)
      clear hcw
      refine (valid_any f _).mono ?_
      rintro e w' ⟨rfl, rfl⟩
      have hbel2 := hbel1.alloc hbel1.size (.cells (fldA f) 38)
      cases ho : okB f with
      | true =>
        have hp2 : Hid (∀ j g, j < k + 1 → fs[j]? = some g → okB g = true) := Lib.hid (fun j g hj hg => by
          rcases Nat.lt_or_ge j k with h | h
          · exact hp.out j g h hg
          · obtain rfl : j = k := by omega
            rw [Hf.out] at hg
            injection hg with hg
            rw [← hg, ho])
        clear ho hp
        go_wp2
        go_roundw
        case rel => exact ⟨k + 1, by omega, by go_num, hp2, hbel2⟩
        case measure => simp [intOf]; omega
      | false =>
        have hfin := HF1.out k f Hf.out ho hp.out
        have HFIN := Lib.hid hfin
        clear hfin hp ho
        go_wp2_with fail
        refine (new_err 4 (k : Int) _ (by decide)).mono ?_
        rintro e w2 ⟨v, rfl, hch, hb2⟩
        go_wp2
        go_ret
        rw [HFIN.out]
        exact ⟨v, rfl, hch, hbel2.trans (hb2.mono hbel2.size)⟩
    · obtain rfl : k = n := by omega
      have HFIN := Lib.hid (HF0.out hp.out)
      clear hp
      go_wp2_with fail
      go_ret
      rw [HFIN.out]
      exact ⟨_, rfl, rfl, hbel⟩
theorem check_any (least most : Int) (A : Option Addr) (n c : Nat) (fs : List Fld) (w : World) (hR : FRd w A n fs) (hn : n ≤ 9223372036854775807) :
    Calls Tryd.prog 24 #[ruleV least most A n c] w (ErrRet w (chk least most fs).toList) := by
  cases hh : hdB least most n with
  | true => exact check_ok least most A n c fs w hR hh
  | false => exact check_hd least most A n c fs w hR.len hh hn
end Go.Proofs.YthappdipoofclaaDoor
