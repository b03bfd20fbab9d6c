/-
  THE WALK OF Next AND OF ITS CLOSURE.
-/
import Derived.Test.YtdkhbnkhpebkkaaDoorCheck
import Derived.Test.YtdkhbnkhpebkkaaDoorPath
namespace Go.Proofs.YtdkhbnkhpebkkaaDoor
set_option linter.unusedSimpArgs false
set_option linter.unusedVariables false
open Go.RowKit

def intsV (l : List Int) : List Value := l.map fun x => .int .i64 x
structure NS (w W : World) (g1 g2 : Nat) (A : Option Addr) (n c : Nat) (xs : List Int) : Prop where
  lst : Blk W g1 23 #[.slice A n c]
  nxt : ∃ A' c', Blk W g2 33 #[.slice A' xs.length c'] ∧ W.ownsRow w.heap.size 3 1 (.slice A' xs.length c') xs.length (intsV xs)
  bel : Below w.heap.size w W
  le1 : w.heap.size ≤ g1
  le2 : w.heap.size ≤ g2
def addL (n : Nat) (xs : List Int) (x : Int) : List Int := if x < n then xs ++ [x] else xs

set_option maxRecDepth 100000 in
set_option maxHeartbeats 1000000 in
theorem add_any (x : Int) (w W : World) (g1 g2 : Nat) (A : Option Addr) (n c : Nat) (xs : List Int) (h : NS w W g1 g2 A n c xs) (hlen : xs.length ≤ 1000) :
    Calls Tryd.prog 29 #[.int .i64 x, .pointer (some ⟨g1, 0, none⟩), .pointer (some ⟨g2, 0, none⟩)] W fun e W' => e = .returned (.tuple #[]) ∧ NS w W' g1 g2 A n c (addL n xs x) := by
  obtain ⟨A', c', hb2, hown⟩ := h.nxt
  have hb1 := h.lst
  have hwr := h.bel.size
  have c1 := hb1.cell 0
  have c2 := hb2.cell 0
  have f2 := hb2.frozen 0
  obtain ⟨i0, hi0, hz0, hz1, hz2⟩ := info_parts infoInt
  by_cases hx : x < n
  · rw [show addL n xs x = xs ++ [x] from by unfold addL; rw [if_pos hx]]
    have HH := Lib.hid h
    have HL := Lib.hid hlen
    clear h hlen
    go_enter Tryd.func29, Tryd.ntmps29
    go_wp2_with (at_builtin; refine wpList_append_any _ rfl (.tmp 8) (.tmp 10) 33 rfl w.heap.size 3 i0 _ 1 8 Tryd.underlying33 hi0 hz0 hz1 hz2 rfl (by omega) (.slice A' xs.length c') xs.length _ rfl (hown.alloc _) _ _ 1 1 [.int .i64 x] rfl (reads_one_int W x 3) (by intro u hu; simp at hu; subst hu; rfl) (by have := HL.out; simp only [maxLen]; omega) (by have := HL.out; omega) (by simp; omega) ?_; intro v2 w2 hown2 hg2 hat2; obtain ⟨A2, d2, rfl⟩ := own_slice hown2; have hb2' := (hb2.alloc (.cells #[.int .i64 x] 3)).grown hg2 (fun e => own_blk_ne (hown.alloc (.cells #[.int .i64 x] 3)) (hb2.alloc (.cells #[.int .i64 x] 3)) (by decide) e.symm); have hb1' := (hb1.alloc (.cells #[.int .i64 x] 3)).grown hg2 (fun e => own_blk_ne (hown.alloc (.cells #[.int .i64 x] 3)) (hb1.alloc (.cells #[.int .i64 x] 3)) (by decide) e.symm); have c2' := hb2'.cell 0; have f2' := hb2'.frozen 0; have HX := Lib.hid hat2; clear hat2 c1 c2 f2)
    go_end0
    have hne : g1 ≠ g2 := hb1'.ne_ hb2' (by decide)
    have hle1 := HH.out.le1
    have hle2 := HH.out.le2
    have hbel2 : Below w.heap.size w w2 := (HH.out.bel.alloc hwr _).grown hg2 (by simp; omega) (fun k hk => (hown.lt k hk).1)
    have hs := hb2'.set_ 0 (.slice A2 (xs.length + 1) d2)
    refine ⟨rfl, hb1'.far hne _, ⟨A2, d2, ?_, ?_⟩, hbel2.setCell hle2 _, hle1, hle2⟩
    · rw [List.length_append]
      exact hs
    · rw [List.length_append, show intsV (xs ++ [x]) = intsV xs ++ [.int .i64 x] from by simp [intsV]]
      exact hown2.kept (only_setCell (World.grownBy.refl w2 (some g2)) (.inl rfl) _) (.inr (own_blk_ne hown2 hb2' (by decide)))
  · rw [show addL n xs x = xs from by unfold addL; rw [if_neg hx]]
    go_enter Tryd.func29, Tryd.ntmps29
    go_wp2
    go_end0
    exact ⟨rfl, h⟩
/-- what comes behind instruction i at k of n -/
def nextL (n : Nat) (o q : Int) (k : Nat) : List Int :=
  if o = 0 then [] else if o = 15 then addL n [] q
  else if o = 16 then (if (k : Int) + 1 = q then addL n [] (min ((k : Int) + 1) q) else addL n (addL n [] (min ((k : Int) + 1) q)) (max ((k : Int) + 1) q))
  else addL n [] ((k : Int) + 1)
def nextI (n : Nat) (i : Ins) (k : Nat) : List Int := nextL n (N8 i.o) (nI i) k
def NextRet (w : World) (xs : List Int) (e : Ending) (w' : World) : Prop :=
  ∃ A c, e = .returned (.slice A xs.length c) ∧ w'.ownsRow w.heap.size 3 1 (.slice A xs.length c) xs.length (intsV xs) ∧ Below w.heap.size w w'
theorem addL_len (n : Nat) (xs : List Int) (x : Int) : (addL n xs x).length ≤ xs.length + 1 := by unfold addL; split <;> simp
theorem numI_in {o b c : Int} (hb : 0 ≤ b ∧ b < 256) (hc : 0 ≤ c ∧ c < 256) : -65536 ≤ numI o b c ∧ numI o b c ≤ 65536 := by
  unfold numI
  split <;> omega

set_option maxRecDepth 100000 in
set_option maxHeartbeats 2000000 in
theorem next_any (A : Option Addr) (n c k : Nat) (l : List Ins) (i : Ins) (w : World) (hR : IRd w A n l) (hn : n ≤ 1000000) (hk : k < n) (hf : l[k]? = some i) :
    Calls Tryd.prog 18 #[.slice A n c, .int .i64 (k : Int)] w (NextRet w (nextI n i k)) := by
  show Calls Tryd.prog 18 _ w (NextRet w (nextL n (N8 i.o) (numI (N8 i.o) (N8 i.b) (N8 i.c)) k))
  generalize hN : nextL n (N8 i.o) (numI (N8 i.o) (N8 i.b) (N8 i.c)) k = xs
  have HN := Lib.hid hN
  clear hN
  obtain ⟨ad, rfl, hc⟩ := hR.cells k i hf
  have hc1 : ∀ j v, (insA i)[j]? = some v → (w.alloc (.cells #[.slice (some ad) n c] 23)).cell? ((ad.add (k * 4)).add j) = some v := fun j v hj => by
    have h1 := hc j v hj
    exact (((Below.refl w.heap.size w).alloc (Nat.le_refl _) (.cells #[.slice (some ad) n c] 23)).cell (block_lt_of_cell h1)).trans h1
  have b0 := N8_in i.o
  have b1 := N8_in i.a
  have b2 := N8_in i.b
  have b3 := N8_in i.c
  have B1 := Blk.new w 23 #[.slice (some ad) n c]
  have k1 := B1.cell 0
  have hb0 := (Below.refl w.heap.size w).alloc (Nat.le_refl _) (.cells #[.slice (some ad) n c] 23)
  have ho : (w.alloc (.cells #[.slice (some ad) n c] 23)).cell? (ad.add (k * 4)) = some (.int .u8 (N8 i.o)) := by
    have := hc1 0 _ rfl
    rw [add_of_add, Nat.add_zero] at this
    exact this
  clear hc hf hR
  go_enter Tryd.func18, Tryd.ntmps18
  go_wp2_with (refine load46 rfl _ rfl (ad.add (k * 4)) rfl i hc1 ?_)
  clear hc1 k1
  refine (number_any (N8 i.o) (N8 i.a) (N8 i.b) (N8 i.c) _ b2.1 b2.2 b3.1 b3.2).mono ?_
  rintro e w' ⟨rfl, rfl⟩
  have hq := numI_in (o := N8 i.o) b2 b3
  have hb2 := hb0.alloc hb0.size (.cells (insA i) 46)
  have B2 := B1.alloc (.cells (insA i) 46)
  have ho2 : ((w.alloc (.cells #[.slice (some ad) n c] 23)).alloc (.cells (insA i) 46)).cell? (ad.add (k * 4)) = some (.int .u8 (N8 i.o)) := by
    rw [World.cell?_alloc_lt _ _ _ (block_lt_of_cell ho)]
    exact ho
  clear ho hb0 B1
  generalize (w.alloc (.cells #[.slice (some ad) n c] 23)).alloc (.cells (insA i) 46) = w2 at *
  have hb3 := hb2.alloc hb2.size (.cells #[.slice none 0 0] 33)
  have B3 := B2.alloc (.cells #[.slice none 0 0] 33)
  have ho3 : (w2.alloc (.cells #[.slice none 0 0] 33)).cell? (ad.add (k * 4)) = some (.int .u8 (N8 i.o)) := by
    rw [World.cell?_alloc_lt _ _ _ (block_lt_of_cell ho2)]
    exact ho2
  have hS : NS w (w2.alloc (.cells #[.slice none 0 0] 33)) w.heap.size w2.heap.size (some ad) n c [] := ⟨B3, ⟨none, 0, Blk.new w2 33 _, ⟨rfl, .inl ⟨rfl, rfl⟩⟩⟩, hb3, Nat.le_refl _, hb2.size⟩
  have k3 : (w2.alloc (.cells #[.slice none 0 0] 33)).cell? ⟨w.heap.size, 0, none⟩ = some (.slice (some ad) n c) := B3.cell 0
  have l3 : (w2.alloc (.cells #[.slice none 0 0] 33)).cell? ⟨w2.heap.size, 0, none⟩ = some (.slice none 0 0) := (Blk.new w2 33 _).cell 0
  generalize numI (N8 i.o) (N8 i.b) (N8 i.c) = q at *
  clear hb2 B2 ho2 B3
  clear b1 b2 b3
  obtain ⟨g1, hg1⟩ : ∃ g1, w.heap.size = g1 := ⟨_, rfl⟩
  rw [hg1] at k3
  have hS' : NS w (w2.alloc (.cells #[.slice none 0 0] 33)) g1 w2.heap.size (some ad) n c [] := by rw [← hg1]; exact hS
  replace hS := hS'
  clear hS'
  rw [hg1]
  clear hg1
  have HS := Lib.hid hS
  have he : IntKind.i64.wrap ((k : Int) + 1) = (k : Int) + 1 := IntWalk.i64_in _ (by omega)
  by_cases z0 : N8 i.o = 0
  · have hx := HN.out
    unfold nextL at hx
    rw [if_pos z0] at hx
    have HX := Lib.hid hx
    have e0 : (N8 i.o == 0) = true := by rw [beq_iff_eq]; exact z0
    clear hx HN
    generalize N8 i.o = o at *
    subst z0
    have hbl := hS.bel
    clear hS
    go_wp2_with fail
    go_ret
    rw [← HX.out]
    exact ⟨none, 0, rfl, ⟨rfl, .inl ⟨rfl, rfl⟩⟩, hbl⟩
  · have e0 : (N8 i.o == 0) = false := by rw [beq_eq_false_iff_ne]; exact z0
    by_cases z15 : N8 i.o = 15
    · have hx := HN.out
      unfold nextL at hx
      rw [if_neg z0, if_pos z15] at hx
      have HX := Lib.hid hx
      have e1 : (N8 i.o == 15) = true := by rw [beq_iff_eq]; exact z15
      clear hx HN z0 z15 hS
      generalize N8 i.o = o at *
      go_wp2_with fail
      refine (add_any q w (w2.alloc (.cells #[.slice none 0 0] 33)) g1 w2.heap.size (some ad) n c [] HS.out (by simp)).mono ?_
      rintro e w4 ⟨rfl, hS4⟩
      obtain ⟨A', c', hbx, hown⟩ := hS4.nxt
      have hbl := hS4.bel
      have hcx := hbx.cell 0
      clear ho3 k3 l3 hb3
      rw [HX.out] at hbx hown hcx
      clear hS4
      go_wp2_with fail
      go_ret
      exact ⟨A', c', rfl, hown, hbl⟩
    · have e1 : (N8 i.o == 15) = false := by rw [beq_eq_false_iff_ne]; exact z15
      by_cases z16 : N8 i.o = 16
      · have e2 : (N8 i.o == 16) = true := by rw [beq_iff_eq]; exact z16
        by_cases hkq : (k : Int) + 1 = q
        · have hx := HN.out
          unfold nextL at hx
          rw [if_neg z0, if_neg z15, if_pos z16, if_pos hkq] at hx
          have HX := Lib.hid hx
          have e3 : ((k : Int) + 1 != q) = false := by rw [bne_eq_false_iff_eq]; exact hkq
          clear hx HN z0 z15 z16 hS hkq
          generalize N8 i.o = o at *
          go_wp2_with fail
          refine (add_any (min ((k : Int) + 1) q) w (w2.alloc (.cells #[.slice none 0 0] 33)) g1 w2.heap.size (some ad) n c [] HS.out (by simp)).mono ?_
          rintro e w4 ⟨rfl, hS4⟩
          obtain ⟨A', c', hbx, hown⟩ := hS4.nxt
          have hbl := hS4.bel
          have hcx := hbx.cell 0
          clear ho3 k3 l3 hb3
          rw [HX.out] at hbx hown hcx
          clear hS4
          go_wp2_with fail
          go_ret
          exact ⟨A', c', rfl, hown, hbl⟩
        · have hx := HN.out
          unfold nextL at hx
          rw [if_neg z0, if_neg z15, if_pos z16, if_neg hkq] at hx
          have HX := Lib.hid hx
          have e3 : ((k : Int) + 1 != q) = true := by rw [bne_iff_ne]; exact hkq
          clear hx HN z0 z15 z16 hS hkq
          generalize N8 i.o = o at *
          go_wp2_with fail
          refine (add_any (min ((k : Int) + 1) q) w (w2.alloc (.cells #[.slice none 0 0] 33)) g1 w2.heap.size (some ad) n c [] HS.out (by simp)).mono ?_
          rintro e w4 ⟨rfl, hS4⟩
          clear ho3 k3 l3 hb3
          go_wp2_with fail
          refine (add_any (max ((k : Int) + 1) q) w w4 g1 w2.heap.size (some ad) n c _ hS4 (by have := addL_len n [] (min ((k : Int) + 1) q); simp at this; omega)).mono ?_
          rintro e w5 ⟨rfl, hS5⟩
          obtain ⟨A', c', hbx, hown⟩ := hS5.nxt
          have hbl := hS5.bel
          have hcx := hbx.cell 0
          rw [HX.out] at hbx hown hcx
          clear hS4 hS5
          go_wp2_with fail
          go_ret
          exact ⟨A', c', rfl, hown, hbl⟩
      · have e2 : (N8 i.o == 16) = false := by rw [beq_eq_false_iff_ne]; exact z16
        have hx := HN.out
        unfold nextL at hx
        rw [if_neg z0, if_neg z15, if_neg z16] at hx
        have HX := Lib.hid hx
        clear hx HN z0 z15 z16 hS
        generalize N8 i.o = o at *
        go_wp2_with fail
        refine (add_any ((k : Int) + 1) w (w2.alloc (.cells #[.slice none 0 0] 33)) g1 w2.heap.size (some ad) n c [] HS.out (by simp)).mono ?_
        rintro e w4 ⟨rfl, hS4⟩
        obtain ⟨A', c', hbx, hown⟩ := hS4.nxt
        have hbl := hS4.bel
        have hcx := hbx.cell 0
        clear ho3 k3 l3 hb3
        rw [HX.out] at hbx hown hcx
        clear hS4
        go_wp2_with fail
        go_ret
        exact ⟨A', c', rfl, hown, hbl⟩
end Go.Proofs.YtdkhbnkhpebkkaaDoor
