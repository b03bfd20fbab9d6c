/-
  THE WALK OF awake: the chapter's examples.
-/
import Derived.Test.YtdkhbnkhpebkkaaDoorDec
import Derived.Test.YtdkhbnkhpebkkaaDoorNext
import Derived.Test.YtdkhbnkhpebkkaaDoorText
import Derived.Test.YtdkhbnkhpebkkaaDoorItoa
namespace Go.Proofs.YtdkhbnkhpebkkaaDoor
set_option linter.unusedSimpArgs false
set_option linter.unusedVariables false
open Go.RowKit

def exJ : Ins := ⟨15, 0, 1, 0⟩
def exZ : Ins := ⟨16, 0, 0, 0⟩
def exS : Ins := ⟨1, 0, 5, 0⟩
theorem okJ : okI exJ = true := (formB_eq (o := 15) (a := 0) (b := 1) (c := 0) (v := true) (by unfold FormP; simp)).symm
theorem okS : okI exS = true := (formB_eq (o := 1) (a := 0) (b := 5) (c := 0) (v := true) (by unfold FormP; simp)).symm
theorem okH : okI Ins.zero = true := (formB_eq (o := 0) (a := 0) (b := 0) (c := 0) (v := true) (by unfold FormP; simp)).symm
theorem nJ : nI exJ = 1 := numI_no (o := 15) (b := 1) (c := 0) (by decide)
theorem chkJ : chk [exJ] = some (4, 0) :=
  chk_bad (k := 0) (i := exJ) (c := 4) (by decide) rfl (badI_far okJ (.inl (by decide)) (by rw [nJ]; decide)) (fun j g hj _ => absurd hj (by omega))
theorem chkS : chk [exS, Ins.zero] = none := by
  refine chk_ok (i := Ins.zero) (by decide) (fun j g hj hg => ?_) rfl (.inl (by decide))
  rcases j with _ | _ | j
  · obtain rfl : exS = g := by simpa using hg
    exact badI_none okS (fun h => by rcases h.1 with h1 | h1 <;> exact absurd h1 (by decide))
  · obtain rfl : Ins.zero = g := by simpa using hg
    exact badI_none okH (fun h => by rcases h.1 with h1 | h1 <;> exact absurd h1 (by decide))
  · simp at hj
    omega
theorem decJ : decL [15, 0, 1, 0] = [(4, 0), (4, 0)] := decL_bad (bs := [15, 0, 1, 0]) (c := 4) (k := 0) (by decide) (by exact chkJ)
theorem nextZ : nextI 2 exZ 0 = [0, 1] := by decide
theorem ird1 (W : World) (i : Ins) (t : TypeId) : IRd (W.alloc (.cells (insA i) t)) (some ⟨W.heap.size, 0, none⟩) 1 [i] := by
  refine ⟨rfl, fun k x hk => ⟨_, rfl, fun j v hj => ?_⟩⟩
  rw [add_of_add, Addr.add_lit, Nat.zero_add, (Blk.new W t _).cell]
  rcases k with _ | k
  · obtain rfl : i = x := by simpa using hk
    rw [Nat.zero_mul, Nat.zero_add]
    exact hj
  · simp at hk
theorem ird2 (W : World) (i i' : Ins) (t : TypeId) (cs : Array Value) (h : cs = insA i ++ insA i') : IRd (W.alloc (.cells cs t)) (some ⟨W.heap.size, 0, none⟩) 2 [i, i'] := by
  subst h
  refine ⟨rfl, fun k x hk => ⟨_, rfl, fun j v hj => ?_⟩⟩
  rw [add_of_add, Addr.add_lit, Nat.zero_add, (Blk.new W t _).cell]
  have hj4 : j < 4 := by
    rcases Nat.lt_or_ge j 4 with h | h
    · exact h
    · rw [Array.getElem?_eq_none (by simpa using h)] at hj; cases hj
  rcases k with _ | _ | k
  · obtain rfl : i = x := by simpa using hk
    rw [Nat.zero_mul, Nat.zero_add, Array.getElem?_append_left (by simpa using hj4)]
    exact hj
  · obtain rfl : i' = x := by simpa using hk
    rw [Array.getElem?_append_right (by simp)]
    rw [show (0 + 1) * 4 + j - (insA i).size = j by simp]
    exact hj
  · simp at hk
theorem rd4 (W : World) (a b c d : UInt8) (t : TypeId) : Rd (W.alloc (.cells #[U8 a, U8 b, U8 c, U8 d] t)) (some ⟨W.heap.size, 0, none⟩) 4 [a, b, c, d] := by
  refine ⟨rfl, fun _ => ⟨_, rfl, fun j u hu => ?_⟩⟩
  rw [Addr.add_lit, Nat.zero_add, (Blk.new W t _).cell j]
  simpa using hu
def num4_ : Int → List UInt8 := fun n => if n = 0 then [48] else if n = 4 then [52] else []
theorem textJ (l : List (Int × Int)) (hl : l = [(4, 0)] ∨ l = [(4, 0), (4, 0)]) (e : Value) (w : World) (hc : Chain w l e) (hg : ET w) :
    Calls Tryd.prog 20 #[e] w fun ev w' => ev = .returned (.string ⟨(textL num4_ l).toArray⟩) ∧ Below w.heap.size w w' := by
  refine text_any num4_ l e w hc hg (fun x hx => ?_) (fun done rest h => ?_)
  · have : x = (4, 0) := by
      rcases hl with rfl | rfl <;> simpa using hx
    subst this
    exact ⟨num4, num0, by decide, by decide⟩
  · have : done = [] ∨ done = [(4, 0)] ∨ done = [(4, 0), (4, 0)] := by
      rcases hl with rfl | rfl
      · rcases done with _ | ⟨x, d⟩
        · exact .inl rfl
        · injection h with h1 h2
          subst h1
          rcases d with _ | ⟨y, d⟩
          · exact .inr (.inl rfl)
          · cases h2
      · rcases done with _ | ⟨x, d⟩
        · exact .inl rfl
        · injection h with h1 h2
          subst h1
          rcases d with _ | ⟨y, d⟩
          · exact .inr (.inl rfl)
          · injection h2 with h3 h4
            subst h3
            rcases d with _ | ⟨z, d⟩
            · exact .inr (.inr rfl)
            · cases h4
    rcases this with rfl | rfl | rfl <;> decide

set_option maxRecDepth 100000 in
set_option maxHeartbeats 4000000 in
theorem awake_any (w : World) (hg : ET w) : Calls Tryd.prog 8 #[] w fun e w' => e = .returned (.bool true) ∧ Below w.heap.size w w' := by
  have hpos := hg.lt
  have hI1 := ird1 w exJ 46
  have hb1 := (Below.refl w.heap.size w).alloc (Nat.le_refl _) (.cells (insA exJ) 46)
  go_enter Tryd.func8, Tryd.ntmps8
  go_wp2_with fail
  refine (check_any (some ⟨w.heap.size, 0, none⟩) 1 1 [exJ] (w.alloc (.cells (insA exJ) 46)) hI1 (by omega)).mono ?_
  rintro e w2 ⟨v, rfl, hch, hb2⟩
  rw [chkJ] at hch
  have hbel2 := hb1.trans (hb2.mono hb1.size)
  clear hI1 hb1 hb2
  have hR := rd4 w2 15 0 1 0 5
  have hb3 := hbel2.alloc hbel2.size (.cells #[U8 15, U8 0, U8 1, U8 0] 5)
  have hch3 := hch.below ((Below.refl w2.heap.size w2).alloc (Nat.le_refl _) (.cells #[U8 15, U8 0, U8 1, U8 0] 5))
  go_wp2_with fail
  refine (decode_any (some ⟨w2.heap.size, 0, none⟩) 4 4 [15, 0, 1, 0] (w2.alloc (.cells #[U8 15, U8 0, U8 1, U8 0] 5)) hR (by omega) (by omega) (hg.below hb3 hpos)).mono ?_
  rintro e w4 ⟨A4, n4, v4, rfl, hc4, _, _, hb4⟩
  rw [decJ] at hc4
  have hbel4 := hb3.trans (hb4.mono hb3.size)
  have hch4 := hch3.below hb4
  clear hb3 hb4 hch hch3 hR hbel2
  have hI5 := ird2 w4 exZ Ins.zero 46 (insA exZ ++ insA Ins.zero) rfl
  have hbx := (Below.refl w4.heap.size w4).alloc (Nat.le_refl _) (.cells (insA exZ ++ insA Ins.zero) 46)
  have hb5 := hbel4.trans (hbx.mono hbel4.size)
  have hc5 := hc4.below hbx
  have hch5 := hch4.below hbx
  clear hbx hc4 hch4 hbel4
  go_wp2_with fail
  change Calls _ _ _ (w4.alloc (.cells (insA exZ ++ insA Ins.zero) 46)) _
  refine (next_any (some ⟨w4.heap.size, 0, none⟩) 2 2 0 [exZ, Ins.zero] exZ (w4.alloc (.cells (insA exZ ++ insA Ins.zero) 46)) hI5 (by omega) (by omega) rfl).mono ?_
  rintro e w6 ⟨A6, c6, rfl, hown, hb6⟩
  rw [nextZ] at hown
  have hb6' := hb5.trans (hb6.mono hb5.size)
  have hc6 := hc5.below hb6
  have hch6 := hch5.below hb6
  clear hb5 hc5 hch5 hb6 hI5
  have hI7 := ird2 w6 exS Ins.zero 46 (insA exS ++ insA Ins.zero) rfl
  have hbx := (Below.refl w6.heap.size w6).alloc (Nat.le_refl _) (.cells (insA exS ++ insA Ins.zero) 46)
  have hb7 := hb6'.trans (hbx.mono hb6'.size)
  have hc7 := hc6.below hbx
  have hch7 := hch6.below hbx
  have hown7 := own_below hown hbx
  clear hbx hc6 hch6 hb6' hown
  go_wp2_with fail
  change Calls _ _ _ (w6.alloc (.cells (insA exS ++ insA Ins.zero) 46)) _
  refine (check_any (some ⟨w6.heap.size, 0, none⟩) 2 2 [exS, Ins.zero] (w6.alloc (.cells (insA exS ++ insA Ins.zero) 46)) hI7 (by omega)).mono ?_
  rintro e w8 ⟨v8, rfl, hch8, hb8⟩
  rw [chkS] at hch8
  obtain rfl : v8 = .nilIface := hch8
  have hb8' := hb7.trans (hb8.mono hb7.size)
  have hc8 := hc7.below hb8
  have hch9 := hch7.below hb8
  have hown8 := own_below hown7 hb8
  clear hb7 hc7 hch7 hown7 hb8 hI7
  go_wp2_with fail
  refine (textJ [(4, 0)] (.inl rfl) v w8 hch9 (hg.below hb8' hpos)).mono ?_
  rintro e w9 ⟨rfl, hb9⟩
  rw [show (⟨(textL num4_ [(4, 0)]).toArray⟩ : ByteArray) = ⟨#[52, 64, 48]⟩ from rfl]
  have hb9' := hb8'.trans (hb9.mono hb8'.size)
  have hc9 := hc8.below hb9
  have hown9 := own_below hown8 hb9
  clear hb8' hc8 hch9 hown8 hb9
  go_wp2_with fail
  refine (textJ [(4, 0), (4, 0)] (.inr rfl) v4 w9 hc9 (hg.below hb9' hpos)).mono ?_
  rintro e w10 ⟨rfl, hb10⟩
  rw [show (⟨(textL num4_ [(4, 0), (4, 0)]).toArray⟩ : ByteArray) = ⟨#[52, 64, 48, 60, 52, 64, 48]⟩ from rfl]
  have hb10' := hb9'.trans (hb10.mono hb9'.size)
  have hown10 := own_below hown9 hb10
  clear hb9' hc9 hown9 hb10
  obtain ⟨g2, cap2, hv, _, _⟩ := hown10.form (by simp)
  injection hv with e1 e2 e3
  subst e1
  have hk1 : w10.cell? ⟨g2, 1, none⟩ = some (.int .i64 1) := by
    have := hown10.cells (g := g2) rfl 1 (.int .i64 1) rfl
    rw [Addr.add_lit, Nat.zero_add] at this
    exact this
  clear hown10 e2 e3
  go_wp2_with fail
  refine (number_any 1 0 255 255 w10 (by decide) (by decide) (by decide) (by decide)).mono ?_
  rintro e w' ⟨rfl, rfl⟩
  rw [numI_set rfl (by decide)]
  go_wp2_with fail
  go_ret
  exact ⟨rfl, hb10'.alloc hb10'.size _⟩
end Go.Proofs.YtdkhbnkhpebkkaaDoor
