/-
  THE WALK OF THE REFERENCE: nacelleref04.padded.
-/
import Derived.Test.YtljghknojbpccaaDoorRefB
namespace Go.Proofs.YtljghknojbpccaaDoor
set_option linter.unusedSimpArgs false
set_option linter.unusedVariables false
open Go.RowKit

theorem U8_one (l : List UInt8) : ∀ u ∈ l.map U8, u.oneCell' = true := by
  intro v hv
  obtain ⟨x, _, rfl⟩ := List.mem_map.1 hv
  rfl
theorem Rd.reads {w : World} {A : Option Addr} {n : Nat} {xs : List UInt8} (h : Rd w A n xs) : Reads w w.heap.size 1 A n (xs.map U8) := by
  refine ⟨by simpa using h.len, fun hn => ?_⟩
  obtain ⟨ad, e, hc⟩ := h.cells hn
  have hl := h.len
  have h0 := hc 0 (U8 (xs[0]'(by omega))) (by simp [List.getElem?_eq_getElem (show 0 < xs.length by omega)])
  have hlt := block_lt_of_cell h0
  rw [block_of_add] at hlt
  exact ⟨ad, e, hlt, hc⟩
theorem reads_one8 (W : World) (x : UInt8) (t : TypeId) : Reads (W.alloc (.cells #[U8 x] t)) (W.heap.size + 1) 1 (some ⟨W.heap.size, 0, none⟩) 1 [U8 x] :=
  ⟨rfl, fun _ => ⟨_, rfl, by simp, fun j u hu => by
    rw [Addr.add_lit, Nat.zero_add, (Blk.new W t #[U8 x]).cell j]
    simpa using hu⟩⟩
/-- the answer of padded -/
def BytesRet (w : World) (bs : List UInt8) (e : Ending) (w' : World) : Prop :=
  ∃ g n cap, e = .returned (.slice (some ⟨g, 0, none⟩) n cap) ∧ n = bs.length ∧ w'.ownsRow w.heap.size 5 1 (.slice (some ⟨g, 0, none⟩) n cap) n (bs.map U8) ∧ Below w.heap.size w w'

set_option maxRecDepth 100000 in
set_option maxHeartbeats 1000000 in
theorem padded_any (A : Option Addr) (n c : Nat) (bs : List UInt8) (w : World) (hR : Rd w A n bs) (hlen : n ≤ 100000000) : Calls Tryd.prog 21 #[.slice A n c] w (BytesRet w (Sp.padded bs)) := by
  obtain ⟨i0, hi0, hz0, hz1, hz2⟩ := info_parts info5'
  have hb0 := (Below.refl w.heap.size w).alloc (Nat.le_refl _) (.cells #[] 5)
  have hown0 := World.ownsRow_lit (base := w.heap.size) (e := 5) (size := 1) w #[] 0 (Nat.le_refl _) (by simp [maxLen]) rfl
  have hrd := (hR.grown hb0).reads
  go_enter Tryd.func21, Tryd.ntmps21
  go_wp2_with (first
    | (at_builtin; refine wpList_append_any _ rfl (.tmp 6) (.tmp 7) 22 rfl w.heap.size 5 i0 _ 1 1 Tryd.underlying22 hi0 hz0 hz1 hz2 rfl (by omega) _ 0 _ rfl hown0 _ A n c (bs.map U8) rfl hrd (U8_one _) (by simp only [maxLen]; omega) (by omega) (by simp) ?_; intro v1 w1 hown1 hg1 hat1)
    | (at_builtin; refine wpList_append_any _ rfl (.tmp 8) (.tmp 9) 22 rfl w.heap.size 5 i0 _ 1 1 Tryd.underlying22 hi0 hz0 hz1 hz2 rfl (by omega) v1 (0 + n) _ rfl (hown1.alloc _) _ _ 1 1 [U8 128] rfl (reads_one8 w1 128 5) (U8_one [_]) (by simp only [maxLen]; omega) (by omega) (by have := hg1.size; simp at this ⊢; omega) ?_; intro v2 w2 hown2 hg2 hat2))
  have hbel1 : Below w.heap.size w w1 := hb0.grown hg1 (by simp) (fun k hk => (hown0.lt k hk).1)
  have hbel2 := own_below hown1 hbel1 _ hg2
  have hown3 : w2.ownsRow w.heap.size 5 1 v2 (n + 1) ((bs ++ [128] ++ List.replicate 0 0).map U8) := by
    simpa using hown2
  clear hg1 hg2 hat1 hat2 hown0 hown1 hown2 hrd hbel1 hb0
  have hbl : bs.length = n := hR.len
  have hz64 : Sp.zeros n ≤ 64 := by unfold Sp.zeros; omega
  obtain ⟨g3, cap3, hv3, _, _⟩ := hown3.form (by omega)
  rw [hv3] at hown3
  rw [hv3]
  have Hbl := Lib.hid hbl
  clear hv3 hbl
  go_loopw [3] (fun v wr => ∃ L j g cap : Nat, L = n + 1 + j ∧ j ≤ Sp.zeros n ∧ v = .slice (some ⟨g, 0, none⟩) L cap ∧ wr.ownsRow w.heap.size 5 1 (.slice (some ⟨g, 0, none⟩) L cap) L ((bs ++ [128] ++ List.replicate j 0).map U8) ∧ Below w.heap.size w wr) (fun v _ => n + 1 + 64 - sliceN v)
  case atStart => exact ⟨n + 1, 0, g3, cap3, rfl, by omega, rfl, hown3, hbel2⟩
  case round =>
    obtain ⟨L, j, g, cap, hL, hj, rfl, hown, hbel⟩ := hrel
    have hbl := Hbl.out
    have HL := Lib.hid hL
    have hL2 : L ≤ 100000100 := by omega
    by_cases hq : L % 64 = 56
    · have hjz : j = Sp.zeros n := by unfold Sp.zeros at hj ⊢; omega
      have ht : ((L : Int) % 64 != 56) = false := by rw [bne_eq_false_iff_eq]; omega
      have HJ := Lib.hid hjz
      have hlp : (bs ++ [128] ++ List.replicate j 0).length = L := by simp; omega
      clear hL hq hjz hown3 hbel2 hbl
      generalize hpre : bs ++ [128] ++ List.replicate j 0 = pre at hown hlp
      have Hpre := Lib.hid hpre
      have Hlp := Lib.hid hlp
      clear hpre hlp
      obtain ⟨wo, rfl⟩ : ∃ wo : World, wo = wr := ⟨_, rfl⟩
      go_wp2_with fail
      go_loopw [3, 5] (fun v i wr => ∃ q M g cap : Nat, M = L + q ∧ q ≤ 8 ∧ i = .int .i64 (7 - (q : Int)) ∧ v = .slice (some ⟨g, 0, none⟩) M cap ∧ wr.ownsRow w.heap.size 5 1 (.slice (some ⟨g, 0, none⟩) M cap) M ((pre ++ (Sp.be64 (n * 8)).take q).map U8) ∧ Below w.heap.size w wr) (fun v _ _ => L + 8 - sliceN v)
      case atStart => exact ⟨0, L, g, cap, rfl, by omega, rfl, rfl, by simpa using hown, hbel⟩
      case round =>
        obtain ⟨q, M, g, cap, hM, hq, rfl, rfl, hown, hbel⟩ := hrel
        have HM := Lib.hid hM
        have hM2 : M ≤ 100000200 := by omega
        clear hM
        by_cases hlt : q < 8
        · have tb := tail_byte (n * 8) q hlt
          rw [show ((n * 8 : Nat) : Int) = (n : Int) * 8 by simp] at tb
          generalize hy : (Sp.be64 (n * 8)).getD q 0 = y at tb
          have tb2 : (n : Int) * 8 / 2 ^ (8 * (7 - q)) % 256 = N8 y := by injection tb
          have HY := Lib.hid hy
          clear tb hy
          go_wp2_with (at_builtin; refine wpList_append_any _ rfl (.tmp 26) (.tmp 33) 22 rfl w.heap.size 5 i0 _ 1 1 Tryd.underlying22 hi0 hz0 hz1 hz2 rfl (by omega) (.slice (some ⟨g, 0, none⟩) M cap) M _ rfl (hown.alloc _) _ _ 1 1 [U8 y] rfl (reads_one8 wr y 5) (U8_one [_]) (by simp only [maxLen]; omega) (by omega) (by have := hbel.size; simp; omega) ?_; intro v4 w4 hown4 hg4 hat4)
          have hbel4 := own_below hown hbel _ hg4
          obtain ⟨g4, cap4, hv4, _, _⟩ := hown4.form (by omega)
          rw [hv4] at hown4
          rw [hv4]
          have hx : (Sp.be64 (n * 8))[q]? = some y := by
            rw [← HY.out, List.getD, List.getElem?_eq_getElem (show q < (Sp.be64 (n * 8)).length by simpa [Sp.be64] using hlt)]
            rfl
          have hown5 : w4.ownsRow w.heap.size 5 1 (.slice (some ⟨g4, 0, none⟩) (M + 1) cap4) (M + 1) ((pre ++ (Sp.be64 (n * 8)).take (q + 1)).map U8) := by
            rw [List.take_add_one, hx, ← List.append_assoc, List.map_append]
            exact hown4
          clear hg4 hat4 hown hown4 tb2 hv4 hx
          go_wp2
          go_roundw
          case rel => exact ⟨q + 1, M + 1, g4, cap4, by have := HM.out; omega, by omega, by go_num, rfl, hown5, hbel4⟩
          case measure => have := HM.out; show L + 8 - (M + 1) < L + 8 - M; omega
        · obtain rfl : q = 8 := by omega
          go_wp2
          go_ret
          have hlp := Hlp.out
          rw [show (Sp.be64 (n * 8)).take 8 = Sp.be64 (n * 8) from rfl] at hown
          have e : pre ++ Sp.be64 (n * 8) = Sp.padded bs := by rw [← Hpre.out, HJ.out, ← Hbl.out]; rfl
          rw [e] at hown
          exact ⟨g, M, cap, rfl, by rw [← e, HM.out]; simp [hlp, Sp.be64], hown, hbel⟩
    · have hjz : j < Sp.zeros n := by unfold Sp.zeros at hj ⊢; omega
      have ht : ((L : Int) % 64 != 56) = true := by rw [bne_iff_ne]; omega
      clear hL hq hj hown3 hbel2 hbl
      go_wp2_with (at_builtin; refine wpList_append_any _ rfl (.tmp 15) (.tmp 16) 22 rfl w.heap.size 5 i0 _ 1 1 Tryd.underlying22 hi0 hz0 hz1 hz2 rfl (by omega) (.slice (some ⟨g, 0, none⟩) L cap) L _ rfl (hown.alloc _) _ _ 1 1 [U8 0] rfl (reads_one8 wr 0 5) (U8_one [_]) (by simp only [maxLen]; omega) (by omega) (by have := hbel.size; simp; omega) ?_; intro v4 w4 hown4 hg4 hat4)
      have hbel4 := own_below hown hbel _ hg4
      obtain ⟨g4, cap4, hv4, _, _⟩ := hown4.form (by omega)
      rw [hv4] at hown4
      rw [hv4]
      have hown5 : w4.ownsRow w.heap.size 5 1 (.slice (some ⟨g4, 0, none⟩) (L + 1) cap4) (L + 1) ((bs ++ [128] ++ List.replicate (j + 1) 0).map U8) := by
        rw [List.replicate_succ', ← List.append_assoc, List.map_append]
        exact hown4
      clear hg4 hat4 hown hown4 hv4
      go_wp2
      go_roundw
      case rel => exact ⟨L + 1, j + 1, g4, cap4, by have := HL.out; omega, by omega, rfl, hown5, hbel4⟩
      case measure => have := HL.out; show n + 1 + 64 - (L + 1) < n + 1 + 64 - L; omega
end Go.Proofs.YtljghknojbpccaaDoor
