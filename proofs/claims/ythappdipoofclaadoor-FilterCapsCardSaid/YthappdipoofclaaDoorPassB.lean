/-
  THE WALK OF Pass.
-/
import Derived.Test.YthappdipoofclaaDoorPassA
namespace Go.Proofs.YthappdipoofclaaDoor
set_option linter.unusedSimpArgs false
set_option linter.unusedVariables false
open Go.RowKit

/-- the fault of a message, of a rule that may be -/
def psn (least most : Int) (fs : List Fld) (bs : List UInt8) : Option (Int × Int) :=
  if (bs.length : Int) < least then some (2, (bs.length : Int))
  else if most < (bs.length : Int) then some (7, most)
  else match fs.findIdx? fun f => !satB f bs with
    | some i => some (3, ((i : Nat) : Int))
    | none => none
theorem psn_short {least most : Int} {fs : List Fld} {bs : List UInt8} (h : (bs.length : Int) < least) : psn least most fs bs = some (2, (bs.length : Int)) := by simp [psn, h]
theorem psn_long {least most : Int} {fs : List Fld} {bs : List UInt8} (h : ¬ (bs.length : Int) < least) (h2 : most < (bs.length : Int)) : psn least most fs bs = some (7, most) := by simp [psn, h, h2]
theorem psn_bad {least most : Int} {fs : List Fld} {bs : List UInt8} (h : ¬ (bs.length : Int) < least) (h2 : ¬ most < (bs.length : Int)) {k : Nat} {f : Fld} (hf : fs[k]? = some f) (ho : satB f bs = false) (hp : ∀ (j : Nat) (g : Fld), j < k → fs[j]? = some g → satB g bs = true) : psn least most fs bs = some (3, (k : Int)) := by
  have hk : k < fs.length := by
    rcases Nat.lt_or_ge k fs.length with h1 | h1
    · exact h1
    · rw [List.getElem?_eq_none h1] at hf; cases hf
  have : (fs.findIdx? fun f => !satB f bs) = some k := by
    rw [List.findIdx?_eq_some_iff_getElem]
    refine ⟨hk, ?_, fun j hj => ?_⟩
    · rw [List.getElem?_eq_getElem hk] at hf
      injection hf with hf
      rw [hf, ho]
      rfl
    · rw [hp j _ hj (List.getElem?_eq_getElem (by omega))]
      simp
  simp [psn, h, h2, this]
theorem psn_ok {least most : Int} {fs : List Fld} {bs : List UInt8} (h : ¬ (bs.length : Int) < least) (h2 : ¬ most < (bs.length : Int)) (hp : ∀ (j : Nat) (g : Fld), j < fs.length → fs[j]? = some g → satB g bs = true) : psn least most fs bs = none := by
  have : (fs.findIdx? fun f => !satB f bs) = none := by
    rw [List.findIdx?_eq_none_iff]
    intro f hf
    obtain ⟨j, hj, e⟩ := List.getElem_of_mem hf
    rw [hp j f hj (by rw [List.getElem?_eq_getElem hj, e])]
    rfl
  simp [psn, h, h2, this]
theorem psn_none {least most : Int} {fs : List Fld} {bs : List UInt8} (h : psn least most fs bs = none) : least ≤ (bs.length : Int) ∧ (bs.length : Int) ≤ most ∧ ∀ f ∈ fs, satB f bs = true := by
  unfold psn at h
  split at h
  · cases h
  · split at h
    · cases h
    · rename_i h1 h2
      refine ⟨by omega, by omega, fun f hf => ?_⟩
      cases hi : fs.findIdx? fun f => !satB f bs with
      | some i => rw [hi] at h; cases h
      | none =>
        rw [List.findIdx?_eq_none_iff] at hi
        have := hi f hf
        simpa using this
/-- the faults of a message -/
def passL (least most : Int) (fs : List Fld) (bs : List UInt8) : List (Int × Int) :=
  match chk least most fs with
  | some x => [(x.1, -1), x]
  | none => (psn least most fs bs).toList

set_option maxHeartbeats 1000000 in
theorem pass_err (least most : Int) (A : Option Addr) (n c : Nat) (fs : List Fld) (B : Option Addr) (m cb : Nat) (bs : List UInt8) (w : World) (hR : FRd w A n fs) (hn : n ≤ 9223372036854775807) (hg : ET w) (x : Int × Int) (hx : chk least most fs = some x) :
    Calls Tryd.prog 13 #[ruleV least most A n c, .slice B m cb] w (ErrRet w [(x.1, -1), x]) := by
  have hb0 := (Below.refl w.heap.size w).alloc (Nat.le_refl _) (.cells (ruleA least most A n c) 30)
  have hpos := hg.lt
  go_enter Tryd.func13, Tryd.ntmps13
  go_wp2_with fail
  refine (check_any least most A n c fs _ (hR.below hb0) hn).mono ?_
  rintro e w1 ⟨v, rfl, hch, hb1⟩
  rw [hx] at hch
  have hb2 := hb0.trans (hb1.mono hb0.size)
  have hc2 := hch
  obtain ⟨b, cause, rfl, _, _⟩ := hc2
  clear hx
  go_wp2_with fail
  refine (in_any x.1 x.2 [] _ w1 hch (hg.below hb2 hpos) (-1)).mono ?_
  rintro e w2 ⟨v, rfl, hch2, hb3⟩
  go_wp2_with fail
  go_ret
  exact ⟨v, rfl, hch2, hb2.trans (hb3.mono hb2.size)⟩

set_option maxRecDepth 100000 in
set_option maxHeartbeats 2000000 in
theorem pass_ok (least most : Int) (A : Option Addr) (n c : Nat) (fs : List Fld) (B : Option Addr) (m cb : Nat) (bs : List UInt8) (w : World) (hR : FRd w A n fs) (hn : n ≤ 9223372036854775807) (hB : Rd w B m bs) (hmc : m ≤ cb) (hm : m ≤ 9223372036854775807) (hx : chk least most fs = none) :
    Calls Tryd.prog 13 #[ruleV least most A n c, .slice B m cb] w (ErrRet w (psn least most fs bs).toList) := by
  have hlen := hR.len
  have hml := hB.len
  obtain ⟨hd, hall⟩ := chk_none hx
  rw [hlen] at hd
  obtain ⟨h1, h2, h3, h4⟩ := hdB_iff.1 hd
  have hb0 := (Below.refl w.heap.size w).alloc (Nat.le_refl _) (.cells (ruleA least most A n c) 30)
  have hr0 := Blk.new w 30 (ruleA least most A n c)
  have HALL := Lib.hid hall
  have hp1 : (m : Int) < least → psn least most fs bs = some (2, (m : Int)) := fun h => by rw [← hml] at h ⊢; exact psn_short h
  have hp2 : ¬ (m : Int) < least → most < (m : Int) → psn least most fs bs = some (7, most) := fun h h' => by rw [← hml] at h h'; exact psn_long h h'
  have hp3 : ¬ (m : Int) < least → ¬ most < (m : Int) → ∀ (k : Nat) (f : Fld), fs[k]? = some f → satB f bs = false → (∀ (j : Nat) (g : Fld), j < k → fs[j]? = some g → satB g bs = true) → psn least most fs bs = some (3, (k : Int)) := fun h h' k f => by rw [← hml] at h h'; exact psn_bad h h'
  have hp4 : ¬ (m : Int) < least → ¬ most < (m : Int) → (∀ (j : Nat) (g : Fld), j < n → fs[j]? = some g → satB g bs = true) → psn least most fs bs = none := fun h h' hh => by rw [← hml] at h h'; exact psn_ok h h' (by rw [hlen]; exact hh)
  have HP1 := Lib.hid hp1
  have HP2 := Lib.hid hp2
  have HP3 := Lib.hid hp3
  have HP4 := Lib.hid hp4
  clear hp1 hp2 hp3 hp4 hd hall hml hlen
  go_enter Tryd.func13, Tryd.ntmps13
  go_wp2_with fail
  refine (check_any least most A n c fs _ (hR.below hb0) hn).mono ?_
  rintro e w1 ⟨v, rfl, hch, hb1⟩
  rw [hx] at hch
  obtain rfl : v = .nilIface := hch
  clear hx
  have hbel := hb0.trans (hb1.mono hb0.size)
  have hr := hr0.below hb1 hr0.lt
  have hr1 : w1.cell? ⟨w.heap.size, 0, none⟩ = some (.int .i64 least) := hr.cell 0
  have hr2 : w1.cell? ⟨w.heap.size, 1, none⟩ = some (.int .i64 most) := hr.cell 1
  have hr3 : w1.cell? ⟨w.heap.size, 2, none⟩ = some (.slice A n c) := hr.cell 2
  clear hb0 hr0 hb1
  by_cases hs : (m : Int) < least
  · have HF := Lib.hid (HP1.out hs)
    clear HP1 HP2 HP3 HP4 HALL
    go_wp2_with fail
    refine (new_err 2 (m : Int) w1 (by decide)).mono ?_
    rintro e w2 ⟨v, rfl, hch, hb2⟩
    go_wp2_with fail
    go_ret
    rw [HF.out]
    exact ⟨v, rfl, hch, hbel.trans (hb2.mono hbel.size)⟩
  by_cases hl : most < (m : Int)
  · have HF := Lib.hid (HP2.out (by omega) (by omega))
    clear HP1 HP2 HP3 HP4 HALL
    go_wp2_with fail
    refine (new_err 7 most w1 (by decide)).mono ?_
    rintro e w2 ⟨v, rfl, hch, hb2⟩
    go_wp2_with fail
    go_ret
    rw [HF.out]
    exact ⟨v, rfl, hch, hbel.trans (hb2.mono hbel.size)⟩
  have HP3' := Lib.hid (HP3.out (by omega) (by omega))
  have HP4' := Lib.hid (HP4.out (by omega) (by omega))
  clear HP1 HP2 HP3 HP4
  go_wp2_with fail
  go_loopw [33] (fun i wr => ∃ k : Nat, k ≤ n ∧ i = .int .i64 (k : Int) ∧ Hid (∀ (j : Nat) (g : Fld), j < k → fs[j]? = some g → satB g bs = true) ∧ Below w.heap.size w wr) (fun i _ => n - (intOf i).toNat)
  case atStart => exact ⟨0, Nat.zero_le _, rfl, Lib.hid (fun j g hj => absurd hj (by omega)), hbel⟩
  case round =>
    clear hbel hr1 hr2 hr3 hr hs hl
    obtain ⟨k, hk, rfl, hp, hbel⟩ := hrel
    by_cases hlt : k < n
    · obtain ⟨ad, f, rfl, hf, hc⟩ := hR.at_ hlt
      have hcw : ∀ j v, (fldA f)[j]? = some v → wr.cell? ((ad.add (k * 4)).add j) = some v := fun j v hj => (hbel.cell (block_lt_of_cell (hc j v hj))).trans (hc j v hj)
      have Hf := Lib.hid hf
      have hof := HALL.out f (List.mem_of_getElem? hf)
      have HOF := Lib.hid hof
      clear hf hc hof
      have hbel1 := hbel.alloc hbel.size (.cells (fldA f) 38)
      go_wp2_with (refine load38 rfl _ rfl (ad.add (k * 4)) rfl f hcw ?_)
      clear hcw
      refine (satisfied_any f B m cb bs _ HOF.out (hB.grown hbel1) hmc hm).mono ?_
      rintro e w2 ⟨rfl, hb2⟩
      have hbel2 := hbel1.trans (hb2.mono hbel1.size)
      clear hb2 hbel1
      cases ho : satB f bs with
      | true =>
        have hp2 : Hid (∀ (j : Nat) (g : Fld), j < k + 1 → fs[j]? = some g → satB g bs = true) := Lib.hid (fun j g hj hg => by
          rcases Nat.lt_or_ge j k with h | h
          · exact hp.out j g h hg
          · obtain rfl : j = k := by omega
            rw [Hf.out] at hg
            injection hg with hg
            rw [← hg, ho])
        clear ho hp
        go_wp2
        go_roundw
        case rel => exact ⟨k + 1, by omega, by go_num, hp2, hbel2⟩
        case measure => simp [intOf]; omega
      | false =>
        have HFIN := Lib.hid (HP3'.out k f Hf.out ho hp.out)
        clear hp ho
        go_wp2_with fail
        refine (new_err 3 (k : Int) _ (by decide)).mono ?_
        rintro e w3 ⟨v, rfl, hch, hb3⟩
        go_wp2
        go_ret
        rw [HFIN.out]
        exact ⟨v, rfl, hch, hbel2.trans (hb3.mono hbel2.size)⟩
    · obtain rfl : k = n := by omega
      have HFIN := Lib.hid (HP4'.out hp.out)
      clear hp
      go_wp2_with fail
      go_ret
      rw [HFIN.out]
      exact ⟨_, rfl, rfl, hbel⟩
theorem pass_any (least most : Int) (A : Option Addr) (n c : Nat) (fs : List Fld) (B : Option Addr) (m cb : Nat) (bs : List UInt8) (w : World) (hR : FRd w A n fs) (hn : n ≤ 9223372036854775807) (hB : Rd w B m bs) (hmc : m ≤ cb) (hm : m ≤ 9223372036854775807) (hg : ET w) :
    Calls Tryd.prog 13 #[ruleV least most A n c, .slice B m cb] w (ErrRet w (passL least most fs bs)) := by
  unfold passL
  cases hx : chk least most fs with
  | some x => exact pass_err least most A n c fs B m cb bs w hR hn hg x hx
  | none => exact pass_ok least most A n c fs B m cb bs w hR hn hB hmc hm hx
end Go.Proofs.YthappdipoofclaaDoor
