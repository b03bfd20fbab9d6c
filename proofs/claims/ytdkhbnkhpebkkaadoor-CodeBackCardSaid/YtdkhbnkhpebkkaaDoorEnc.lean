/-
  THE WALK OF Encode.
-/
import Derived.Test.YtdkhbnkhpebkkaaDoorFlat
namespace Go.Proofs.YtdkhbnkhpebkkaaDoor
set_option linter.unusedSimpArgs false
set_option linter.unusedVariables false
open Go.RowKit
def bytesI : List Ins → List UInt8
  | [] => []
  | i :: l => i.o :: i.a :: i.b :: i.c :: bytesI l
theorem bytesI_len (l : List Ins) : (bytesI l).length = 4 * l.length := by
  induction l with
  | nil => rfl
  | cons i l ih => simp [bytesI, ih]; omega
theorem bytesI_app (l m : List Ins) : bytesI (l ++ m) = bytesI l ++ bytesI m := by
  induction l with
  | nil => rfl
  | cons i l ih => simp [bytesI, ih]
theorem bytesI_inj : ∀ {l m : List Ins}, bytesI l = bytesI m → l = m
  | [], [], _ => rfl
  | [], _ :: _, h => by simp [bytesI] at h
  | _ :: _, [], h => by simp [bytesI] at h
  | i :: l, j :: m, h => by
    simp only [bytesI, List.cons.injEq] at h
    obtain ⟨h1, h2, h3, h4, h5⟩ := h
    rw [bytesI_inj h5]
    obtain ⟨o, a, b, c⟩ := i
    obtain ⟨o', a', b', c'⟩ := j
    simp only at h1 h2 h3 h4
    subst h1 h2 h3 h4
    rfl
theorem bytesI_get : ∀ (l : List Ins) (k : Nat) (i : Ins), l[k]? = some i → insAt (bytesI l) k = i
  | [], k, i, h => by simp at h
  | x :: l, 0, i, h => by
    obtain rfl : x = i := by simpa using h
    rfl
  | x :: l, k + 1, i, h => by
    have := bytesI_get l k i (by simpa using h)
    rw [← this]
    unfold insAt
    simp only [bytesI, show 4 * (k + 1) = 4 * k + 4 by omega, show 4 * k + 4 + 1 = 4 * k + 1 + 4 by omega, show 4 * k + 4 + 2 = 4 * k + 2 + 4 by omega, show 4 * k + 4 + 3 = 4 * k + 3 + 4 by omega, List.getD_cons_succ]
theorem listI_bytesI (l : List Ins) : listI (bytesI l) = l := by
  apply List.ext_getElem?
  intro k
  have hlen : (bytesI l).length / 4 = l.length := by rw [bytesI_len]; omega
  rcases Nat.lt_or_ge k l.length with h | h
  · unfold listI
    rw [hlen, List.getElem?_map, List.getElem?_range h, Option.map_some, bytesI_get l k _ (List.getElem?_eq_getElem h), List.getElem?_eq_getElem h]
  · rw [List.getElem?_eq_none (by rw [listI_len, hlen]; exact h), List.getElem?_eq_none h]
theorem make36 (n : Nat) (W : World) (h : n ≤ 1000) : (Instr.makeSlice 36 (.int .i64 0) (.int .i64 (4 * (n : Int)))).run Tryd.prog W = .ok (.slice (some ⟨W.heap.size, 0, none⟩) 0 (4 * n)) (W.alloc (.cells (madeCells #[Value.int .u8 0] (4 * n)) 5)) := by
  obtain ⟨i0, hi, hz0, hz1, hz2⟩ := info_parts info5'
  have h := run_make_rowN (P := Tryd.prog) 36 5 i0 (.int .u8 0) Tryd.underlying36 hi hz0 .i64 .i64 0 (4 * n) (Nat.zero_le _) (by rw [hz2]; omega) (by omega) W
  rw [hz1, Nat.mul_one] at h
  rw [show ((4 * n : Nat) : Int) = 4 * (n : Int) by omega] at h
  exact h
theorem reads_four (W : World) (g : Nat) (hg : W.heap.size = g) (i : Ins) (t : TypeId) : Reads (W.alloc (.cells #[U8 i.o, U8 i.a, U8 i.b, U8 i.c] t)) (g + 1) 1 (some ⟨g, 0, none⟩) 4 ([i.o, i.a, i.b, i.c].map U8) := by
  subst hg
  exact ⟨rfl, fun _ => ⟨_, rfl, by simp, fun j u hu => by
    rw [Addr.add_lit, Nat.zero_add, (Blk.new W t _).cell j]
    simpa using hu⟩⟩
theorem take_ins {l : List Ins} {k : Nat} {i : Ins} (h : l[k]? = some i) : (bytesI (l.take (k + 1))).map U8 = (bytesI (l.take k)).map U8 ++ [i.o, i.a, i.b, i.c].map U8 := by
  rw [List.take_add_one, h, bytesI_app, List.map_append]
  rfl

theorem own_rdc {w : World} {base n c : Nat} {A : Option Addr} {xs : List UInt8} (h : w.ownsRow base 5 1 (.slice A n c) n (xs.map U8)) : Rd w A n xs ∧ n ≤ c := by
  have hl : xs.length = n := by have := h.1; simpa using this
  rcases h.2 with ⟨hv, hn⟩ | ⟨g, cap, cur, hv, hb, hh, hle, _⟩
  · subst hn
    injection hv with e1 _ e3
    subst e1 e3
    exact ⟨⟨hl, fun x => absurd x (by omega)⟩, Nat.le_refl _⟩
  · injection hv with e1 _ e3
    subst e1 e3
    exact ⟨own_rd h, hle⟩
set_option maxRecDepth 100000 in
set_option maxHeartbeats 1000000 in
theorem encode_any (A : Option Addr) (n c : Nat) (l : List Ins) (w : World) (hR : IRd w A n l) (hn : n ≤ 1000) :
    Calls Tryd.prog 17 #[.slice A n c] w fun e w' => ∃ A' c', e = .returned (.slice A' (4 * n) c') ∧ Rd w' A' (4 * n) (bytesI l) ∧ 4 * n ≤ c' ∧ Below w.heap.size w w' := by
  have hl := hR.len
  obtain ⟨i0, hi0, hz0, hz1, hz2⟩ := info_parts info5'
  have hmk := make36 n w hn
  have hown0 : (w.alloc (.cells (madeCells #[Value.int .u8 0] (4 * n)) 5)).ownsRow w.heap.size 5 1 (.slice (some ⟨w.heap.size, 0, none⟩) 0 (4 * n)) 0 ((bytesI (l.take 0)).map U8) :=
    ⟨rfl, .inr ⟨w.heap.size, 4 * n, _, rfl, Nat.le_refl _, heap_alloc_new w _, Nat.zero_le _, by simp only [maxLen]; omega, by rw [size_madeCells, Nat.mul_one], by simp [bytesI]⟩⟩
  have hb0 := (Below.refl w.heap.size w).alloc (Nat.le_refl _) (.cells (madeCells #[Value.int .u8 0] (4 * n)) 5)
  go_enter Tryd.func17, Tryd.ntmps17
  go_wp2_with fail
  change Code.wp _ _ _ _ (w.alloc (.cells (madeCells #[Value.int .u8 0] (4 * n)) 5))
  generalize w.alloc (.cells (madeCells #[Value.int .u8 0] (4 * n)) 5) = w0 at *
  obtain ⟨g0, hg0⟩ : ∃ g0 : Addr, g0 = ⟨w.heap.size, 0, none⟩ := ⟨_, rfl⟩
  clear hmk
  go_loopw [3, 12] (fun v i wr => ∃ (k : Nat) (A' : Option Addr) (c' : Nat), k ≤ n ∧ i = .int .i64 (k : Int) ∧ v = .slice A' (4 * k) c' ∧ wr.ownsRow w.heap.size 5 1 (.slice A' (4 * k) c') (4 * k) ((bytesI (l.take k)).map U8) ∧ Below w.heap.size w wr) (fun _ i _ => n - (intOf i).toNat)
  case atStart => exact ⟨0, some ⟨w.heap.size, 0, none⟩, 4 * n, Nat.zero_le _, rfl, rfl, hown0, hb0⟩
  case round =>
    obtain ⟨k, A', c', hk, rfl, rfl, hown, hbel⟩ := hrel
    have hwr := hbel.size
    clear hown0 hb0 hg0 g0
    by_cases hlt : k < n
    · obtain ⟨ad, i, rfl, hf, hc⟩ := hR.at_ hlt
      have hcw : ∀ j v, (insA i)[j]? = some v → wr.cell? ((ad.add (k * 4)).add j) = some v := fun j v hj => (hbel.cell (block_lt_of_cell (hc j v hj))).trans (hc j v hj)
      have HT := Lib.hid (take_ins hf)
      clear hf hc
      have hownA := (hown.alloc (.cells (insA i) 46)).alloc (.cells #[U8 i.o, U8 i.a, U8 i.b, U8 i.c] 5)
      have hbelA := (hbel.alloc hwr (.cells (insA i) 46)).alloc (by simp; omega) (.cells #[U8 i.o, U8 i.a, U8 i.b, U8 i.c] 5)
      go_wp2_with (first
        | (refine load46 rfl _ rfl (ad.add (k * 4)) rfl i hcw ?_)
        | (at_builtin; refine wpList_append_any _ rfl (.tmp 16) (.tmp 25) 36 rfl w.heap.size 5 i0 _ 1 1 Tryd.underlying36 hi0 hz0 hz1 hz2 rfl (by omega) (.slice A' (4 * k) c') (4 * k) _ rfl hownA _ _ 4 4 ([i.o, i.a, i.b, i.c].map U8) rfl (reads_four (wr.alloc (.cells (insA i) 46)) (wr.heap.size + 1) (by simp) i 5) (U8_one _) (by simp only [maxLen]; omega) (by omega) (by simp; omega) ?_; intro v2 w2 hown2 hg2 hat2; obtain ⟨A2, d2, rfl⟩ := own_slice hown2; have hbel2 : Below w.heap.size w w2 := hbelA.grown hg2 (by simp; omega) (fun k hk => (hown.lt k hk).1); rw [← HT.out, show 4 * k + 4 = 4 * (k + 1) by omega] at hown2; rw [show 4 * k + 4 = 4 * (k + 1) by omega]; clear hcw hat2 hg2 hownA hbelA hown))
      go_roundw
      case rel => exact ⟨k + 1, A2, d2, by omega, by go_num, rfl, hown2, hbel2⟩
      case measure => simp [intOf]; omega
    · obtain rfl : k = n := by omega
      rw [List.take_of_length_le (by omega)] at hown
      go_wp2_with fail
      go_ret
      obtain ⟨h1, h2⟩ := own_rdc hown
      exact ⟨A', c', rfl, h1, h2, hbel⟩
end Go.Proofs.YtdkhbnkhpebkkaaDoor
