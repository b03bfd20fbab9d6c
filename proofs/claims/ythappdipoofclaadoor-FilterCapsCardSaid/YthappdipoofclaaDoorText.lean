/-
  THE WALK OF fault.Text: code, at sign, place of each fault, with a sign between two.
-/
import Derived.Test.YthappdipoofclaaDoorFault
import Derived.Test.YthappdipoofclaaDoorItoa
namespace Go.Proofs.YthappdipoofclaaDoor
set_option linter.unusedSimpArgs false
set_option linter.unusedVariables false
open Go.RowKit

/-- the text so far, and one fault more -/
def textStep (num : Int → List UInt8) (s : List UInt8) (x : Int × Int) : List UInt8 := (if s = [] then s else s ++ [60]) ++ num x.1 ++ [64] ++ num x.2
def textL (num : Int → List UInt8) (l : List (Int × Int)) : List UInt8 := l.foldl (textStep num) []
theorem textL_snoc (num : Int → List UInt8) (l : List (Int × Int)) (x : Int × Int) : textL num (l ++ [x]) = textStep num (textL num l) x := by
  simp [textL]
theorem strCells_list (s : List UInt8) : Lib.strCells ⟨s.toArray⟩ = Lib.byteCells s := by
  simp [Lib.strCells, Lib.byteCells]
theorem byteCells_app (s t : List UInt8) : Lib.byteCells s ++ Lib.byteCells t = Lib.byteCells (s ++ t) := by simp [Lib.byteCells]

abbrev IsB (B b : Nat) (s : List UInt8) (w : World) : Prop := Lib.IsBuilder 76 5 B b (Lib.byteCells s) w

theorem fptr_nil : fptr .nilIface = .pointer none := rfl
theorem fptr_iface (t : TypeId) (p : Value) : fptr (.iface t p) = p := rfl
theorem wLen (B b : Nat) (s : List UInt8) (w : World) (h : IsB B b s w) : Calls Tryd.prog 35 #[.pointer (some ⟨b, 0, none⟩)] w fun e w' => e = .returned (.int .i64 (s.length : Int)) ∧ w = w' := by
  refine (bld_Len B b _ w h).mono ?_
  rintro e w' ⟨rfl, rfl⟩
  exact ⟨by rw [Lib.byteCells_length], rfl⟩
theorem wByte (B b : Nat) (s : List UInt8) (c : UInt8) (ci : Int) (hc : ci = c.toNat) (w : World) (h : IsB B b s w) (hlen : s.length ≤ 100000) (hB : B ≤ w.heap.size) :
    Calls Tryd.prog 36 #[.pointer (some ⟨b, 0, none⟩), .int .u8 ci] w fun e w' => e = .returned .nilIface ∧ IsB B b (s ++ [c]) w' ∧ Below B w w' := by
  subst hc
  refine (bld_WriteByte B b _ _ w h (by rw [Lib.byteCells_length]; omega) hB).mono ?_
  rintro e w' ⟨rfl, h1, h2⟩
  refine ⟨rfl, .inr ?_, h2⟩
  rw [← byteCells_app]
  exact h1
theorem wStr (B b : Nat) (s t : List UInt8) (w : World) (h : IsB B b s w) (hlen : s.length + t.length ≤ 100000) (hB : B ≤ w.heap.size) :
    Calls Tryd.prog 37 #[.pointer (some ⟨b, 0, none⟩), .string ⟨t.toArray⟩] w fun e w' => (∃ n : Int, e = .returned (.tuple #[.int .i64 n, .nilIface])) ∧ IsB B b (s ++ t) w' ∧ Below B w w' := by
  refine (bld_WriteString B b _ _ w h (by rw [Lib.byteCells_length]; simp [ByteArray.size]; omega) hB).mono ?_
  rintro e w' ⟨rfl, h1, h2⟩
  refine ⟨⟨_, rfl⟩, .inr ?_, h2⟩
  rw [strCells_list, byteCells_app] at h1
  exact h1

/-- what holds at each round's head of Text -/
structure TInv (num : Int → List UInt8) (w wr : World) (l done rest : List (Int × Int)) (e : Value) : Prop where
  all : done ++ rest = l
  chain : Chain w rest e
  bld : IsB w.heap.size w.heap.size (textL num done) wr
  bel : Below w.heap.size w wr

set_option maxRecDepth 100000 in
set_option maxHeartbeats 4000000 in
theorem text_any (num : Int → List UInt8) (l : List (Int × Int)) (e : Value) (w : World) (hc : Chain w l e) (hg : ET w) (hn : ∀ x ∈ l, NumIs x.1 (num x.1) ∧ NumIs x.2 (num x.2) ∧ (num x.1).length ≤ 30 ∧ (num x.2).length ≤ 30)
    (hlen : ∀ done rest, done ++ rest = l → (textL num done).length ≤ 1000) :
    Calls Tryd.prog 30 #[e] w fun ev w' => ev = .returned (.string ⟨(textL num l).toArray⟩) ∧ Below w.heap.size w w' := by
  have hpos := hg.lt
  have hb0 := (Below.refl w.heap.size w).alloc (Nat.le_refl _) (.cells #[.pointer none, .slice none 0 0] 76)
  have hB0 : IsB w.heap.size w.heap.size (textL num []) (w.alloc (.cells #[.pointer none, .slice none 0 0] 76)) :=
    .inl ⟨Nat.le_refl _, .slice none 0 0, Blk.new w _ _, ⟨rfl, .inl ⟨rfl, rfl⟩⟩, by simp [Value.ownBlock]⟩
  have HN := Lib.hid hn
  have HL := Lib.hid hlen
  clear hn hlen
  go_enter Tryd.func30, Tryd.ntmps30
  go_wp2_with fail
  generalize w.alloc (.cells #[.pointer none, .slice none 0 0] 76) = w0 at *
  refine (outermost_any l e w0 (hc.below hb0) (hg.below hb0 hpos)).mono ?_
  rintro ev w1 ⟨rfl, hb1⟩
  have hbel1 := hb0.trans (hb1.mono hb0.size)
  have hB1 : IsB w.heap.size w.heap.size (textL num []) w1 := by
    rcases hB0 with ⟨h1, v, h2, h3, h4⟩ | ⟨h1, v, h2, h3, h4⟩
    · exact .inl ⟨h1, v, Blk.below h2 hb1 (Blk.lt h2), h3.kept (only_of_below hb1 none) (by cases hv : v.ownBlock <;> simp), h4⟩
    · exact .inr ⟨h1, v, Blk.below h2 hb1 (Blk.lt h2), h3.kept (only_of_below hb1 none) (by cases hv : v.ownBlock <;> simp), h4⟩
  clear hb1 hb0 hB0
  go_wp2_with fail
  go_loopg [4] l.length (fun k p wr => ∃ done rest e, k = rest.length ∧ p = fptr e ∧ TInv num w wr l done rest e)
  case atStart => exact ⟨[], l, e, rfl, rfl, rfl, hc, hB1, hbel1⟩
  case round =>
    obtain ⟨done, rest, e, rfl, rfl, hI⟩ := hrel
    have hwr := hI.bel.size
    cases rest with
    | nil =>
      obtain rfl : e = .nilIface := hI.chain
      have hall := hI.all
      rw [List.append_nil] at hall
      have hB := hI.bld
      rw [hall] at hB
      have hbel := hI.bel
      clear hall hI
      rw [fptr_nil]
      go_wp2_with fail
      refine (bld_String_any w.heap.size w.heap.size _ wr hB hwr).mono ?_
      rintro ev w2 ⟨rfl, hb2⟩
      go_wp2_with fail
      go_ret
      exact ⟨rfl, hbel.trans hb2⟩
    | cons x r =>
      obtain ⟨b, cause, rfl, hblk, hch⟩ := hI.chain
      have hN := HN.out x (by rw [← hI.all]; simp)
      have hL1 := HL.out done (x :: r) hI.all
      have hL2 := HL.out (done ++ [x]) r (by rw [← hI.all]; simp)
      have hI2 : ∀ w', IsB w.heap.size w.heap.size (textL num (done ++ [x])) w' → Below w.heap.size w w' → TInv num w w' l (done ++ [x]) r cause := fun w' h1 h2 => ⟨by rw [← hI.all]; simp, hch, h1, h2⟩
      have hB := hI.bld
      have hbel := hI.bel
      rw [textL_snoc] at hI2 hL2
      clear hI hB1 hbel1
      generalize textL num done = s at *
      obtain ⟨c, a⟩ := x
      obtain ⟨hn1, hn2, hn3, hn4⟩ := hN
      have Hn1 := Lib.hid hn1
      have Hn2 := Lib.hid hn2
      have HI2 := Lib.hid hI2
      clear hn1 hn2 hI2
      generalize hS : textStep num s (c, a) = S at *
      have HS := Lib.hid hS
      clear hS
      rw [fptr_iface]
      have hk0 : ∀ W, Below w.heap.size w W → W.cell? ⟨b, 0, none⟩ = some (.int .i64 c) := fun W hW => (hblk.below hW hblk.lt).cell 0
      have hk1 : ∀ W, Below w.heap.size w W → W.cell? ⟨b, 1, none⟩ = some (.int .i64 a) := fun W hW => (hblk.below hW hblk.lt).cell 1
      have hk2 : ∀ W, Below w.heap.size w W → W.cell? ⟨b, 2, none⟩ = some cause := fun W hW => (hblk.below hW hblk.lt).cell 2
      have HK0 := Lib.hid hk0
      have HK1 := Lib.hid hk1
      have HK2 := Lib.hid hk2
      clear hk0 hk1 hk2
      go_wp2_with fail
      refine (wLen w.heap.size w.heap.size _ wr hB).mono ?_
      rintro ev w' ⟨rfl, rfl⟩
      by_cases hs : s = []
      · subst hs
        have HZ : textStep num [] (c, a) = num c ++ [64] ++ num a := by simp [textStep]
        have hB' : IsB w.heap.size w.heap.size [] wr := hB
        have HZ' := Lib.hid HZ
        clear HZ hB
        have hc0 := HK0.out wr hbel
        go_wp2_with fail
        refine (Hn1.out wr).mono ?_
        rintro ev w' ⟨rfl, rfl⟩
        clear hc0
        go_wp2_with fail
        refine (wStr _ _ _ _ wr hB' (by simp; omega) hwr).mono ?_
        rintro ev w2 ⟨⟨n2, rfl⟩, hB2, hb2⟩
        have hbel2 := hbel.trans hb2
        go_wp2_with fail
        refine (wByte _ _ _ 64 64 rfl w2 hB2 (by simp; omega) hbel2.size).mono ?_
        rintro ev w3 ⟨rfl, hB3, hb3⟩
        have hbel3 := hbel2.trans hb3
        have hc1 := HK1.out w3 hbel3
        go_wp2_with fail
        refine (Hn2.out w3).mono ?_
        rintro ev w' ⟨rfl, rfl⟩
        clear hc1
        go_wp2_with fail
        refine (wStr _ _ _ _ w3 hB3 (by simp; omega) hbel3.size).mono ?_
        rintro ev w4 ⟨⟨n4, rfl⟩, hB4, hb4⟩
        have hbel4 := hbel3.trans hb4
        have hc2 := HK2.out w4 hbel4
        go_wp2_with fail
        refine (outermost_any r cause w4 (hch.below hbel4) (hg.below hbel4 hpos)).mono ?_
        rintro ev w5 ⟨rfl, hb5⟩
        clear hc2
        have hB5 : IsB w.heap.size w.heap.size S w5 := by
          rw [← HS.out, HZ'.out]
          rcases hB4 with ⟨h1, v, h2, h3, h4⟩ | ⟨h1, v, h2, h3, h4⟩
          · exact .inl ⟨h1, v, Blk.below h2 hb5 (Blk.lt h2), h3.kept (only_of_below hb5 none) (by cases hv : v.ownBlock <;> simp), h4⟩
          · exact .inr ⟨h1, v, Blk.below h2 hb5 (Blk.lt h2), h3.kept (only_of_below hb5 none) (by cases hv : v.ownBlock <;> simp), h4⟩
        have hI5 := HI2.out w5 hB5 (hbel4.trans (hb5.mono hbel4.size))
        go_wp2_with fail
        go_roundg r.length
        case measure => simp
        case rel => exact ⟨_, r, cause, rfl, rfl, hI5⟩
      · have hpos2 : 0 < s.length := List.length_pos_iff.2 hs
        have HZ : textStep num s (c, a) = s ++ [60] ++ num c ++ [64] ++ num a := by simp [textStep, hs]
        have HZ' := Lib.hid HZ
        clear HZ hs
        go_wp2_with fail
        refine (wByte _ _ _ 60 60 rfl wr hB (by omega) hwr).mono ?_
        rintro ev w1' ⟨rfl, hB1, hb1⟩
        have hbel1 := hbel.trans hb1
        have hc0 := HK0.out w1' hbel1
        go_wp2_with fail
        refine (Hn1.out w1').mono ?_
        rintro ev w' ⟨rfl, rfl⟩
        clear hc0
        go_wp2_with fail
        refine (wStr _ _ _ _ w1' hB1 (by simp; omega) hbel1.size).mono ?_
        rintro ev w2 ⟨⟨n2, rfl⟩, hB2, hb2⟩
        have hbel2 := hbel1.trans hb2
        go_wp2_with fail
        refine (wByte _ _ _ 64 64 rfl w2 hB2 (by simp; omega) hbel2.size).mono ?_
        rintro ev w3 ⟨rfl, hB3, hb3⟩
        have hbel3 := hbel2.trans hb3
        have hc1 := HK1.out w3 hbel3
        go_wp2_with fail
        refine (Hn2.out w3).mono ?_
        rintro ev w' ⟨rfl, rfl⟩
        clear hc1
        go_wp2_with fail
        refine (wStr _ _ _ _ w3 hB3 (by simp; omega) hbel3.size).mono ?_
        rintro ev w4 ⟨⟨n4, rfl⟩, hB4, hb4⟩
        have hbel4 := hbel3.trans hb4
        have hc2 := HK2.out w4 hbel4
        go_wp2_with fail
        refine (outermost_any r cause w4 (hch.below hbel4) (hg.below hbel4 hpos)).mono ?_
        rintro ev w5 ⟨rfl, hb5⟩
        clear hc2
        have hB5 : IsB w.heap.size w.heap.size S w5 := by
          rw [← HS.out, HZ'.out]
          rcases hB4 with ⟨h1, v, h2, h3, h4⟩ | ⟨h1, v, h2, h3, h4⟩
          · exact .inl ⟨h1, v, Blk.below h2 hb5 (Blk.lt h2), h3.kept (only_of_below hb5 none) (by cases hv : v.ownBlock <;> simp), h4⟩
          · exact .inr ⟨h1, v, Blk.below h2 hb5 (Blk.lt h2), h3.kept (only_of_below hb5 none) (by cases hv : v.ownBlock <;> simp), h4⟩
        have hI5 := HI2.out w5 hB5 (hbel4.trans (hb5.mono hbel4.size))
        go_wp2_with fail
        go_roundg r.length
        case measure => simp
        case rel => exact ⟨_, r, cause, rfl, rfl, hI5⟩
end Go.Proofs.YthappdipoofclaaDoor
