/-
  THE WALK OF List: the instructions that bytes would be.
-/
import Derived.Test.YtdkhbnkhpebkkaaDoorFlat
import Derived.Deep.RegionHeld3
import Derived.BigRegion
namespace Go.Proofs.YtdkhbnkhpebkkaaDoor
set_option linter.unusedSimpArgs false
set_option linter.unusedVariables false
open Go.RowKit
theorem reads_one_ins (W : World) (i : Ins) (t : TypeId) : Reads (W.alloc (.cells (insA i) t)) (W.heap.size + 1) 4 (some ⟨W.heap.size, 0, none⟩) 1 (flat [i]) :=
  ⟨rfl, fun _ => ⟨_, rfl, by simp, fun j u hu => by
    rw [Addr.add_lit, Nat.zero_add, (Blk.new W t (insA i)).cell j]
    simpa [flat] using hu⟩⟩
theorem ownsRow_heap {w w' : World} {base n size : Nat} {e : TypeId} {v : Value} {xs : List Value} (h : w.ownsRow base e size v n xs) (he : w'.heap = w.heap) : w'.ownsRow base e size v n xs := by
  unfold World.ownsRow at *
  rw [he]
  exact h
theorem Reads_heap {w w' : World} {B n size : Nat} {A : Option Addr} {xs : List Value} (h : Reads w B size A n xs) (he : w'.heap = w.heap) : Reads w' B size A n xs :=
  h.keep fun p _ => World.cell?_of_block (by rw [he])
/-- four bytes that lie there -/
def LD (ad : Addr) (x : Nat) (y0 y1 y2 y3 : UInt8) (W : World) : Prop :=
  W.cell? (ad.add x) = some (U8 y0) ∧ W.cell? ⟨ad.block, ad.off + (x + 1), none⟩ = some (U8 y1) ∧ W.cell? ⟨ad.block, ad.off + (x + 2), none⟩ = some (U8 y2) ∧ W.cell? ⟨ad.block, ad.off + (x + 3), none⟩ = some (U8 y3)
theorem listI_take (bs : List UInt8) (k : Nat) (hk : k < bs.length / 4) : (listI bs).take (k + 1) = (listI bs).take k ++ [insAt bs k] := by
  rw [List.take_add_one]
  congr 1
  unfold listI
  rw [List.getElem?_map, List.getElem?_range hk]
  rfl

set_option maxRecDepth 100000 in
set_option maxHeartbeats 1000000 in
theorem list_any (A : Option Addr) (n c : Nat) (bs : List UInt8) (w : World) (hR : Rd w A n bs) (hnc : n ≤ c) (hn : n ≤ 100000) :
    Calls Tryd.prog 16 #[.slice A n c] w fun e w' => ∃ A' c', e = .returned (.slice A' (n / 4) c') ∧ IRd w' A' (n / 4) (listI bs) ∧ Below w.heap.size w w' := by
  have hl := hR.len
  obtain ⟨i0, hi0, hz0, hz1, hz2⟩ := info_parts info46'
  go_enter Tryd.func16, Tryd.ntmps16
  go_wp2_with fail
  go_loopw [3, 4] (fun v i wr => ∃ (k x : Nat) (A' : Option Addr) (c' : Nat), x = 4 * k ∧ x ≤ n ∧ i = .int .i64 (x : Int) ∧ v = .slice A' k c' ∧ wr.ownsRow w.heap.size 46 4 (.slice A' k c') k (flat ((listI bs).take k)) ∧ Below w.heap.size w wr) (fun _ i _ => n - (intOf i).toNat)
  case atStart => exact ⟨0, 0, none, 0, rfl, Nat.zero_le _, rfl, rfl, ⟨rfl, .inl ⟨rfl, rfl⟩⟩, Below.refl _ _⟩
  case round =>
    obtain ⟨k, x, A', c', hxk, hxn, rfl, rfl, hown, hbel⟩ := hrel
    have hwr := hbel.size
    by_cases hlt : x + 3 < n
    · obtain ⟨ad, rfl, hcell⟩ := hR.cells (by omega)
      have hx : ∀ j, j < n → wr.cell? (ad.add j) = some (U8 (bs.getD j 0)) := fun j hj => by
        have h1 := hcell j (U8 (bs.getD j 0)) (by
          rw [List.getElem?_map, List.getElem?_eq_getElem (by omega), Option.map_some, List.getD_eq_getElem?_getD, List.getElem?_eq_getElem (by omega)]
          rfl)
        exact (hbel.cell (block_lt_of_cell h1)).trans h1
      have x0 := hx x (by omega)
      have x1 := hx (x + 1) (by omega)
      have x2 := hx (x + 2) (by omega)
      have x3 := hx (x + 3) (by omega)
      have off1 : ∀ j, 0 < j → ad.add (x + j) = ⟨ad.block, ad.off + (x + j), none⟩ := fun j hj => by
        unfold Addr.add
        rw [if_neg (by omega)]
      rw [off1 1 (by omega)] at x1
      rw [off1 2 (by omega)] at x2
      rw [off1 3 (by omega)] at x3
      have hins : insAt bs k = ⟨bs.getD x 0, bs.getD (x + 1) 0, bs.getD (x + 2) 0, bs.getD (x + 3) 0⟩ := by subst hxk; rfl
      have htk := listI_take bs k (by omega)
      rw [hins] at htk
      have HT := Lib.hid htk
      have HXK := Lib.hid hxk
      clear htk hins hx hcell hxk off1
      generalize bs.getD x 0 = y0 at *
      generalize bs.getD (x + 1) 0 = y1 at *
      generalize bs.getD (x + 2) 0 = y2 at *
      generalize bs.getD (x + 3) 0 = y3 at *
      have e1 : IntKind.i64.wrap ((x : Int) + 1) = (x : Int) + 1 := IntWalk.i64_in _ (by omega)
      have e2 : IntKind.i64.wrap ((x : Int) + 2) = (x : Int) + 2 := IntWalk.i64_in _ (by omega)
      have e3 : IntKind.i64.wrap ((x : Int) + 3) = (x : Int) + 3 := IntWalk.i64_in _ (by omega)
      have hlt3 : (x : Int) + 3 < (n : Int) := by omega
      go_wp2_with fail
      have n0 : x < n := by omega
      have q1 : (0 : Int) ≤ (x : Int) + 1 := by omega
      have q2 : (0 : Int) ≤ (x : Int) + 2 := by omega
      have q3 : (0 : Int) ≤ (x : Int) + 3 := by omega
      have p1 : (x : Int) + 1 < (n : Int) := by omega
      have p2 : (x : Int) + 2 < (n : Int) := by omega
      have t1 : ((x : Int) + 1).toNat = x + 1 := by omega
      have t2 : ((x : Int) + 2).toNat = x + 2 := by omega
      have t3 : ((x : Int) + 3).toNat = x + 3 := by omega
      have n1 : x + 1 < n := by omega
      have n2 : x + 2 < n := by omega
      have n3 : x + 3 < n := by omega
      have hkn : k ≤ 100000 := by have := HXK.out; omega
      have hbl : ad.block < w.heap.size := by
        obtain ⟨ad', e, hc⟩ := hR.cells (by omega)
        injection e with e
        subst e
        have := block_lt_of_cell (hc 0 (U8 (bs.getD 0 0)) (by
          rw [List.getElem?_map, List.getElem?_eq_getElem (by omega), Option.map_some, List.getD_eq_getElem?_getD, List.getElem?_eq_getElem (by omega)]
          rfl))
        rwa [block_of_add] at this
      have hLD : LD ad x y0 y1 y2 y3 wr.drew := ⟨x0, x1, x2, x3⟩
      have HLD := Lib.hid (fun (W : World) (hb : Below w.heap.size w W) => show LD ad x y0 y1 y2 y3 W from
        have hk : ∀ p : Addr, p.block = ad.block → W.cell? p = wr.cell? p := fun p hp => World.cell?_of_block ((hb.block _ (by rw [hp]; exact hbl)).trans (hbel.block _ (by rw [hp]; exact hbl)).symm)
        ⟨(hk _ (block_of_add _ _)).trans x0, (hk ⟨ad.block, ad.off + (x + 1), none⟩ rfl).trans x1, (hk ⟨ad.block, ad.off + (x + 2), none⟩ rfl).trans x2, (hk ⟨ad.block, ad.off + (x + 3), none⟩ rfl).trans x3⟩)
      have hB2 : Below w.heap.size w (wr.drew.alloc (.cells (insA ⟨y0, y1, y2, y3⟩) 46)) := hbel.drew.alloc hbel.size _
      have hLD2 := HLD.out _ hB2
      refine wp_region_noPanic ?_
      refine wp_region_held_drew (S := fun W => Below w.heap.size w W ∧ LD ad x y0 y1 y2 y3 W) (by kernel_rfl) ⟨hbel.drew, hLD⟩ (fun hH => ?_)
      refine wpAnyH_take (i := 0) (oi := { dst := some 12, op := Op.move (Operand.tmp 3), type := 23, pos := "ref.go:63", after := #[], guard := none }) (v := .slice A' k c') rfl (by kernel_rfl) (by kernel_rfl) (by kernel_rfl) (fun _ _ _ h => h) (Or.inl ⟨by rfl, fun w hw => by go_simp⟩) hH ?_
      try simp only [Act.put, List.setIfInBounds_toArray, List.set_cons_zero, List.set_cons_succ]
      refine wpAnyH_take (i := 1) (oi := { dst := some 13, op := Op.move (Operand.tmp 0), type := 36, pos := "ref.go:63", after := #[], guard := none }) (v := .slice (some ad) n c) rfl (by kernel_rfl) (by kernel_rfl) (by kernel_rfl) (fun _ _ _ h => h) (Or.inl ⟨by rfl, fun w hw => by go_simp⟩) hH ?_
      try simp only [Act.put, List.setIfInBounds_toArray, List.set_cons_zero, List.set_cons_succ]
      refine wpAnyH_take (i := 2) (oi := { dst := some 14, op := Op.move (Operand.tmp 4), type := 3, pos := "ref.go:63", after := #[], guard := none }) (v := .int .i64 ((x : Int))) rfl (by kernel_rfl) (by kernel_rfl) (by kernel_rfl) (fun _ _ _ h => h) (Or.inl ⟨by rfl, fun w hw => by go_simp⟩) hH ?_
      try simp only [Act.put, List.setIfInBounds_toArray, List.set_cons_zero, List.set_cons_succ]
      refine wpAnyH_take (i := 3) (oi := { dst := some 15, op := Op.indexAddr 36 (Operand.tmp 13) (Operand.tmp 14), type := 0, pos := "ref.go:63", after := #[{ on := 1, ground := Ground.data }, { on := 2, ground := Ground.data }], guard := none }) (v := .pointer (some (ad.add x))) rfl (by kernel_rfl) (by kernel_rfl) (by kernel_rfl) (fun _ _ _ h => h) (Or.inl ⟨by rfl, fun w hw => by go_simp⟩) hH ?_
      try simp only [Act.put, List.setIfInBounds_toArray, List.set_cons_zero, List.set_cons_succ]
      refine wpAnyH_take (i := 4) (oi := { dst := some 16, op := Op.load 5 (Operand.tmp 15), type := 5, pos := "ref.go:63", after := #[{ on := 3, ground := Ground.data }], guard := none }) (v := U8 y0) rfl (by kernel_rfl) (by kernel_rfl) (by kernel_rfl) (fun _ _ _ h => h) (Or.inl ⟨by rfl, fun W hW => by have hc := hW.2.1; go_simp⟩) hH ?_
      try simp only [Act.put, List.setIfInBounds_toArray, List.set_cons_zero, List.set_cons_succ]
      refine wpAnyH_take (i := 5) (oi := { dst := some 17, op := Op.move (Operand.tmp 0), type := 36, pos := "ref.go:63", after := #[], guard := none }) (v := .slice (some ad) n c) rfl (by kernel_rfl) (by kernel_rfl) (by kernel_rfl) (fun _ _ _ h => h) (Or.inl ⟨by rfl, fun w hw => by go_simp⟩) hH ?_
      try simp only [Act.put, List.setIfInBounds_toArray, List.set_cons_zero, List.set_cons_succ]
      refine wpAnyH_take (i := 6) (oi := { dst := some 18, op := Op.move (Operand.tmp 4), type := 3, pos := "ref.go:63", after := #[], guard := none }) (v := .int .i64 ((x : Int))) rfl (by kernel_rfl) (by kernel_rfl) (by kernel_rfl) (fun _ _ _ h => h) (Or.inl ⟨by rfl, fun w hw => by go_simp⟩) hH ?_
      try simp only [Act.put, List.setIfInBounds_toArray, List.set_cons_zero, List.set_cons_succ]
      refine wpAnyH_take (i := 7) (oi := { dst := some 19, op := Op.binOp BinOp.add 3 (Operand.tmp 18) (Operand.const (Value.int IntKind.i64 1)) 3, type := 3, pos := "ref.go:63", after := #[{ on := 6, ground := Ground.data }], guard := none }) (v := .int .i64 ((x : Int) + 1)) rfl (by kernel_rfl) (by kernel_rfl) (by kernel_rfl) (fun _ _ _ h => h) (Or.inl ⟨by rfl, fun w hw => by go_simp⟩) hH ?_
      try simp only [Act.put, List.setIfInBounds_toArray, List.set_cons_zero, List.set_cons_succ]
      refine wpAnyH_take (i := 8) (oi := { dst := some 20, op := Op.indexAddr 36 (Operand.tmp 17) (Operand.tmp 19), type := 0, pos := "ref.go:63", after := #[{ on := 5, ground := Ground.data }, { on := 7, ground := Ground.data }], guard := none }) (v := .pointer (some ⟨ad.block, ad.off + (x + 1), none⟩)) rfl (by kernel_rfl) (by kernel_rfl) (by kernel_rfl) (fun _ _ _ h => h) (Or.inl ⟨by rfl, fun w hw => by go_simp⟩) hH ?_
      try simp only [Act.put, List.setIfInBounds_toArray, List.set_cons_zero, List.set_cons_succ]
      refine wpAnyH_take (i := 9) (oi := { dst := some 21, op := Op.load 5 (Operand.tmp 20), type := 5, pos := "ref.go:63", after := #[{ on := 8, ground := Ground.data }], guard := none }) (v := U8 y1) rfl (by kernel_rfl) (by kernel_rfl) (by kernel_rfl) (fun _ _ _ h => h) (Or.inl ⟨by rfl, fun W hW => by have hc := hW.2.2.1; go_simp⟩) hH ?_
      try simp only [Act.put, List.setIfInBounds_toArray, List.set_cons_zero, List.set_cons_succ]
      refine wpAnyH_take (i := 10) (oi := { dst := some 22, op := Op.move (Operand.tmp 0), type := 36, pos := "ref.go:63", after := #[], guard := none }) (v := .slice (some ad) n c) rfl (by kernel_rfl) (by kernel_rfl) (by kernel_rfl) (fun _ _ _ h => h) (Or.inl ⟨by rfl, fun w hw => by go_simp⟩) hH ?_
      try simp only [Act.put, List.setIfInBounds_toArray, List.set_cons_zero, List.set_cons_succ]
      refine wpAnyH_take (i := 11) (oi := { dst := some 23, op := Op.move (Operand.tmp 4), type := 3, pos := "ref.go:63", after := #[], guard := none }) (v := .int .i64 ((x : Int))) rfl (by kernel_rfl) (by kernel_rfl) (by kernel_rfl) (fun _ _ _ h => h) (Or.inl ⟨by rfl, fun w hw => by go_simp⟩) hH ?_
      try simp only [Act.put, List.setIfInBounds_toArray, List.set_cons_zero, List.set_cons_succ]
      refine wpAnyH_take (i := 12) (oi := { dst := some 24, op := Op.binOp BinOp.add 3 (Operand.tmp 23) (Operand.const (Value.int IntKind.i64 2)) 3, type := 3, pos := "ref.go:63", after := #[{ on := 11, ground := Ground.data }], guard := none }) (v := .int .i64 ((x : Int) + 2)) rfl (by kernel_rfl) (by kernel_rfl) (by kernel_rfl) (fun _ _ _ h => h) (Or.inl ⟨by rfl, fun w hw => by go_simp⟩) hH ?_
      try simp only [Act.put, List.setIfInBounds_toArray, List.set_cons_zero, List.set_cons_succ]
      refine wpAnyH_take (i := 13) (oi := { dst := some 25, op := Op.indexAddr 36 (Operand.tmp 22) (Operand.tmp 24), type := 0, pos := "ref.go:63", after := #[{ on := 10, ground := Ground.data }, { on := 12, ground := Ground.data }], guard := none }) (v := .pointer (some ⟨ad.block, ad.off + (x + 2), none⟩)) rfl (by kernel_rfl) (by kernel_rfl) (by kernel_rfl) (fun _ _ _ h => h) (Or.inl ⟨by rfl, fun w hw => by go_simp⟩) hH ?_
      try simp only [Act.put, List.setIfInBounds_toArray, List.set_cons_zero, List.set_cons_succ]
      refine wpAnyH_take (i := 14) (oi := { dst := some 26, op := Op.load 5 (Operand.tmp 25), type := 5, pos := "ref.go:63", after := #[{ on := 13, ground := Ground.data }], guard := none }) (v := U8 y2) rfl (by kernel_rfl) (by kernel_rfl) (by kernel_rfl) (fun _ _ _ h => h) (Or.inl ⟨by rfl, fun W hW => by have hc := hW.2.2.2.1; go_simp⟩) hH ?_
      try simp only [Act.put, List.setIfInBounds_toArray, List.set_cons_zero, List.set_cons_succ]
      refine wpAnyH_take (i := 15) (oi := { dst := some 27, op := Op.move (Operand.tmp 0), type := 36, pos := "ref.go:63", after := #[], guard := none }) (v := .slice (some ad) n c) rfl (by kernel_rfl) (by kernel_rfl) (by kernel_rfl) (fun _ _ _ h => h) (Or.inl ⟨by rfl, fun w hw => by go_simp⟩) hH ?_
      try simp only [Act.put, List.setIfInBounds_toArray, List.set_cons_zero, List.set_cons_succ]
      refine wpAnyH_take (i := 16) (oi := { dst := some 28, op := Op.move (Operand.tmp 4), type := 3, pos := "ref.go:63", after := #[], guard := none }) (v := .int .i64 ((x : Int))) rfl (by kernel_rfl) (by kernel_rfl) (by kernel_rfl) (fun _ _ _ h => h) (Or.inl ⟨by rfl, fun w hw => by go_simp⟩) hH ?_
      try simp only [Act.put, List.setIfInBounds_toArray, List.set_cons_zero, List.set_cons_succ]
      refine wpAnyH_take (i := 17) (oi := { dst := some 29, op := Op.binOp BinOp.add 3 (Operand.tmp 28) (Operand.const (Value.int IntKind.i64 3)) 3, type := 3, pos := "ref.go:63", after := #[{ on := 16, ground := Ground.data }], guard := none }) (v := .int .i64 ((x : Int) + 3)) rfl (by kernel_rfl) (by kernel_rfl) (by kernel_rfl) (fun _ _ _ h => h) (Or.inl ⟨by rfl, fun w hw => by go_simp⟩) hH ?_
      try simp only [Act.put, List.setIfInBounds_toArray, List.set_cons_zero, List.set_cons_succ]
      refine wpAnyH_take (i := 18) (oi := { dst := some 30, op := Op.indexAddr 36 (Operand.tmp 27) (Operand.tmp 29), type := 0, pos := "ref.go:63", after := #[{ on := 15, ground := Ground.data }, { on := 17, ground := Ground.data }], guard := none }) (v := .pointer (some ⟨ad.block, ad.off + (x + 3), none⟩)) rfl (by kernel_rfl) (by kernel_rfl) (by kernel_rfl) (fun _ _ _ h => h) (Or.inl ⟨by rfl, fun w hw => by go_simp⟩) hH ?_
      try simp only [Act.put, List.setIfInBounds_toArray, List.set_cons_zero, List.set_cons_succ]
      refine wpAnyH_take (i := 19) (oi := { dst := some 31, op := Op.load 5 (Operand.tmp 30), type := 5, pos := "ref.go:63", after := #[{ on := 18, ground := Ground.data }], guard := none }) (v := U8 y3) rfl (by kernel_rfl) (by kernel_rfl) (by kernel_rfl) (fun _ _ _ h => h) (Or.inl ⟨by rfl, fun W hW => by have hc := hW.2.2.2.2; go_simp⟩) hH ?_
      try simp only [Act.put, List.setIfInBounds_toArray, List.set_cons_zero, List.set_cons_succ]
      refine wpAnyH_take (i := 20) (oi := { dst := some 32, op := Op.build 46 #[(0, Operand.tmp 16), (1, Operand.tmp 21), (2, Operand.tmp 26), (3, Operand.tmp 31)], type := 46, pos := "ref.go:63", after := #[{ on := 4, ground := Ground.data }, { on := 9, ground := Ground.data }, { on := 14, ground := Ground.data }, { on := 19, ground := Ground.data }], guard := none }) (v := .agg (insA ⟨y0, y1, y2, y3⟩)) rfl (by kernel_rfl) (by kernel_rfl) (by kernel_rfl) (fun _ _ _ h => h) (Or.inl ⟨by rfl, fun w hw => by go_simp⟩) hH ?_
      try simp only [Act.put, List.setIfInBounds_toArray, List.set_cons_zero, List.set_cons_succ]
      refine wpAnyH_ready (rs := [21]) (by kernel_rfl) (by simp) ?_
      refine AllReadyH.cons (o := { dst := some 33, op := Op.buildSlice 23 1 #[(0, Operand.tmp 32)], type := 23, pos := "ref.go:63", after := #[{ on := 20, ground := Ground.data }], guard := none }) rfl (fun K hK => ?_) AllReadyH.nil
      go_simp
      refine hK.out _ _ ⟨hB2, hLD2⟩ (fun hC2 => ?_)
      clear hK K hC2 hH
      have hH : Below w.heap.size w (wr.drew.alloc (.cells (insA ⟨y0, y1, y2, y3⟩) 46)) ∧ LD ad x y0 y1 y2 y3 (wr.drew.alloc (.cells (insA ⟨y0, y1, y2, y3⟩) 46)) := ⟨hB2, hLD2⟩
      try simp only [Act.put, List.setIfInBounds_toArray, List.set_cons_zero, List.set_cons_succ]
      refine wpAnyH_ready (rs := [22]) (by kernel_rfl) (by simp) ?_
      refine AllReadyH.cons (o := { dst := some 34, op := Op.call { callee := Callee.builtin Builtin.append, args := #[Operand.tmp 12, Operand.tmp 33], argTypes := #[23, 23] }, type := 23, pos := "ref.go:63", after := #[{ on := 0, ground := Ground.data }, { on := 21, ground := Ground.data }], guard := none }) rfl (fun K hK => ?_) AllReadyH.nil
      refine step_append_any _ rfl (.tmp 12) (.tmp 33) 23 rfl w.heap.size 46 i0 _ 4 4 Tryd.underlying23 hi0 hz0 hz1 hz2 rfl (by omega) (.slice A' k c') k _ rfl (hown.drew.alloc (.cells (insA ⟨y0, y1, y2, y3⟩) 46)) _ _ 1 1 (flat [⟨y0, y1, y2, y3⟩]) rfl (reads_one_ins wr.drew ⟨y0, y1, y2, y3⟩ 46) (flat_one _) (by simp only [maxLen]; omega) (by omega) (by have := hbel.size; show _ ≤ (wr.drew.alloc _).heap.size; simp; omega) ?_
      intro v2 w2 hown2 hg2 hat2
      have hB3 : Below w.heap.size w w2 := hB2.grown hg2 (by have := hbel.size; show _ ≤ (wr.drew.alloc _).heap.size; simp; omega) (fun k hk => (hown.lt k hk).1)
      refine hK.out _ _ ⟨hB3, HLD.out w2 hB3⟩ (fun hC2 => ?_)
      clear hK K hC2 hH
      have hH : Below w.heap.size w w2 ∧ LD ad x y0 y1 y2 y3 w2 := ⟨hB3, HLD.out w2 hB3⟩
      try simp only [Act.put, List.setIfInBounds_toArray, List.set_cons_zero, List.set_cons_succ]
      refine wpAnyH_take (i := 23) (oi := { dst := some 3, op := Op.assign (Operand.tmp 34), type := 23, pos := "ref.go:63", after := #[{ on := 22, ground := Ground.data }, { on := 22, ground := Ground.chain }, { on := 0, ground := Ground.phase }, { on := 1, ground := Ground.phase }, { on := 2, ground := Ground.phase }, { on := 3, ground := Ground.phase }, { on := 4, ground := Ground.phase }, { on := 5, ground := Ground.phase }, { on := 6, ground := Ground.phase }, { on := 7, ground := Ground.phase }, { on := 8, ground := Ground.phase }, { on := 9, ground := Ground.phase }, { on := 10, ground := Ground.phase }, { on := 11, ground := Ground.phase }, { on := 12, ground := Ground.phase }, { on := 13, ground := Ground.phase }, { on := 14, ground := Ground.phase }, { on := 15, ground := Ground.phase }, { on := 16, ground := Ground.phase }, { on := 17, ground := Ground.phase }, { on := 18, ground := Ground.phase }, { on := 19, ground := Ground.phase }, { on := 20, ground := Ground.phase }, { on := 21, ground := Ground.phase }, { on := 22, ground := Ground.phase }], guard := none }) (v := v2) rfl (by kernel_rfl) (by kernel_rfl) (by kernel_rfl) (fun _ _ _ h => h) (Or.inl ⟨by rfl, fun w hw => by go_simp⟩) hH ?_
      try simp only [Act.put, List.setIfInBounds_toArray, List.set_cons_zero, List.set_cons_succ]
      refine wpAnyH_done (by kernel_rfl) ?_ _
      refine NoPanic.normal ?_
      refine NoPanic.normal ?_
      obtain ⟨A2, d2, rfl⟩ := own_slice hown2
      rw [← flat_app, ← HT.out] at hown2
      clear x0 x1 x2 x3 e1 e2 e3 t1 t2 t3 q1 q2 q3 p1 p2 n0 n1 n2 n3 hlt3 hg2 hat2 hown hB2 hLD2 hLD HLD
      go_wp2
      go_roundw
      case rel => exact ⟨k + 1, x + 4, A2, d2, by have := HXK.out; omega, by omega, by go_num, rfl, hown2, hB3⟩
      case measure => simp [intOf]; omega
    · obtain rfl : n / 4 = k := by omega
      rw [List.take_of_length_le (by rw [listI_len]; omega)] at hown
      have hI := own_ird hown (by rw [listI_len]; omega)
      have hd : decide ((x : Int) + 3 < (n : Int)) = false := by rw [decide_eq_false_iff_not]; omega
      have e3 : IntKind.i64.wrap ((x : Int) + 3) = (x : Int) + 3 := IntWalk.i64_in _ (by omega)
      clear hxk
      go_wp2
      go_ret
      exact ⟨A', c', rfl, hI, hbel⟩
end Go.Proofs.YtdkhbnkhpebkkaaDoor
