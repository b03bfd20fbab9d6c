/-
  THE WALK OF (*Hash).Sum, and of sha.Sum.
-/
import Derived.Test.YtljghknojbpccaaDoorHashC
namespace Go.Proofs.YtljghknojbpccaaDoor
set_option linter.unusedSimpArgs false
set_option linter.unusedVariables false
open Go.RowKit

/-- the length's eight bytes while they are written -/
def tailA (c k : Nat) : Array Value := (((Sp.be64 c).take k ++ List.replicate (8 - k) 0).map U8).toArray
theorem tail_start (c : Nat) : tailA c 0 = Array.replicate 8 (.int .u8 0) := rfl
theorem tail_end (c : Nat) : tailA c 8 = bytesV (Sp.be64 c) := rfl
theorem N8_ofNat (n : Nat) : N8 (UInt8.ofNat n) = ((n % 256 : Nat) : Int) := by
  unfold N8
  rw [UInt8.toNat_ofNat']
theorem tail_byte (c k : Nat) (h : k < 8) : Value.int .u8 ((c : Int) / 2 ^ (8 * (7 - k)) % 256) = U8 ((Sp.be64 c).getD k 0) := by
  have e : ∀ n : Nat, (c : Int) / 2 ^ n % 256 = N8 (UInt8.ofNat (c / 2 ^ n)) := fun n => by
    rw [N8_ofNat]
    have : ((c : Int) / 2 ^ n) = ((c / 2 ^ n : Nat) : Int) := by simp
    rw [this]
    omega
  rcases lt8 h with rfl | rfl | rfl | rfl | rfl | rfl | rfl | rfl <;> exact congrArg (Value.int .u8) (e _)
theorem tail_set (c k : Nat) (h : k < 8) : (tailA c k).setIfInBounds k (U8 ((Sp.be64 c).getD k 0)) = tailA c (k + 1) := by
  rcases lt8 h with rfl | rfl | rfl | rfl | rfl | rfl | rfl | rfl <;> rfl
theorem tail_get (c k : Nat) (h : k < 8) : (tailA c k)[k]? = some (U8 0) := by
  rcases lt8 h with rfl | rfl | rfl | rfl | rfl | rfl | rfl | rfl <;> rfl

/-- the sum's bytes while they are written: j of 32 -/
def sumA (s : Sp.S8) (j : Nat) : Array Value := (((Sp.outB s).take j ++ List.replicate (32 - j) 0).map U8).toArray
theorem lt32' {k : Nat} (h : k < 32) : k < 8 ∨ (8 ≤ k ∧ k < 16) ∨ (16 ≤ k ∧ k < 24) ∨ (24 ≤ k ∧ k < 32) := by omega
theorem outB_length (s : Sp.S8) : (Sp.outB s).length = 32 := rfl
theorem sum_end (s : Sp.S8) : sumA s 32 = bytesV (Sp.outB s) := by
  simp [sumA, bytesV, List.take_of_length_le, outB_length]
theorem sum_get (s : Sp.S8) (j : Nat) (h : j < 32) : (sumA s j)[j]? = some (U8 0) := by
  have h1 : 32 - j = (32 - j - 1) + 1 := by omega
  have hl : ((Sp.outB s).take j).length = j := by simp [outB_length]; omega
  rw [sumA, h1, List.replicate_succ, List.getElem?_toArray, List.getElem?_map, List.getElem?_append_right (by omega), hl, Nat.sub_self]
  rfl
theorem sum_get0 (s : Sp.S8) (k i : Nat) (h : k < 8) (hi : i < 4) : (sumA s (4 * k))[4 * k + i]? = some (U8 0) := by
  have hl : ((Sp.outB s).take (4 * k)).length = 4 * k := by simp [outB_length]; omega
  rw [sumA, List.getElem?_toArray, List.getElem?_map, List.getElem?_append_right (by omega), hl, show 4 * k + i - 4 * k = i by omega, List.getElem?_replicate, if_pos (by omega)]
  rfl
theorem sum_set (s : Sp.S8) (j : Nat) (h : j < 32) (x : UInt8) (hx : (Sp.outB s)[j]? = some x) : (sumA s j).setIfInBounds j (U8 x) = sumA s (j + 1) := by
  have h1 : 32 - j = (32 - (j + 1)) + 1 := by omega
  have hl : ((Sp.outB s).take j).length = j := by simp [outB_length]; omega
  have ht : (Sp.outB s).take (j + 1) = (Sp.outB s).take j ++ [x] := by
    rw [List.take_add_one, hx]; rfl
  rw [sumA, sumA, h1, List.replicate_succ, ht]
  simp [List.set_append, outB_length, Nat.min_eq_left (show j ≤ 32 by omega)]
theorem outB_at (s : Sp.S8) (k : Nat) (h : k < 8) : (Sp.outB s)[4 * k]? = some (s.list.getD k 0 >>> 24).toUInt8 ∧ (Sp.outB s)[4 * k + 1]? = some (s.list.getD k 0 >>> 16).toUInt8 ∧ (Sp.outB s)[4 * k + 2]? = some (s.list.getD k 0 >>> 8).toUInt8 ∧ (Sp.outB s)[4 * k + 3]? = some (s.list.getD k 0).toUInt8 := by
  rcases lt8 h with rfl | rfl | rfl | rfl | rfl | rfl | rfl | rfl <;> exact ⟨rfl, rfl, rfl, rfl⟩

theorem conv32_8 (x : UInt32) (w : World) : (convert 43 5 (U32 x)).run Tryd.prog w = .ok (U8 x.toUInt8) w := by
  rw [run_convert_int (P := Tryd.prog) w 43 5 .u32 _ (by kernel_rfl) (by kernel_rfl)]
  show Result.ok (Value.int .u8 (IntKind.u8.wrap _)) w = _
  unfold U8 N32 N8
  rw [wrap_u8, UInt32.toNat_toUInt8]
  congr 2
attribute [go_sem high] conv32_8

theorem index44 (s : Sp.S8) (k : Nat) (h : k < 8) (w : World) : (Instr.index 44 (.agg (s8V s)) (.int .i64 (k : Int))).run Tryd.prog w = .ok (U32 (s.list.getD k 0)) w := by
  rcases lt8 h with rfl | rfl | rfl | rfl | rfl | rfl | rfl | rfl <;> kernel_rfl

theorem sum_four {w : World} {g : Nat} {s : Sp.S8} {k : Nat} (h : Blk w g 24 (sumA s (4 * k))) (hk : k < 8) :
    Blk ((((w.setCell ⟨g, 4 * k, none⟩ (U8 (s.list.getD k 0 >>> 24).toUInt8)).setCell ⟨g, 4 * k + 1, none⟩ (U8 (s.list.getD k 0 >>> 16).toUInt8)).setCell ⟨g, 4 * k + 2, none⟩ (U8 (s.list.getD k 0 >>> 8).toUInt8)).setCell ⟨g, 4 * k + 3, none⟩ (U8 (s.list.getD k 0).toUInt8)) g 24 (sumA s (4 * (k + 1))) := by
  obtain ⟨b0, b1, b2, b3⟩ := outB_at s k hk
  have e := (((h.set_ (4 * k) (U8 (s.list.getD k 0 >>> 24).toUInt8)).set_ (4 * k + 1) (U8 (s.list.getD k 0 >>> 16).toUInt8)).set_ (4 * k + 2) (U8 (s.list.getD k 0 >>> 8).toUInt8)).set_ (4 * k + 3) (U8 (s.list.getD k 0).toUInt8)
  rw [sum_set s _ (by omega) _ b0, sum_set s _ (by omega) _ b1, sum_set s _ (by omega) _ b2, sum_set s _ (by omega) _ b3] at e
  exact e
/-- a new block of bytes is a source -/
theorem Src.new {g : Nat} (W : World) (xs : List UInt8) (cs : Array Value) (t : TypeId) (e : cs = bytesV xs) (hg : g < W.heap.size) (n : Nat) (hn : xs.length = n) : Src (W.alloc (.cells cs t)) g (some ⟨W.heap.size, 0, none⟩) n (xs.map U8) := by
  subst e
  refine ⟨by simpa using hn, fun _ => ⟨_, rfl, by simp; omega, fun j u hu => ?_⟩⟩
  have h := (Blk.new W t (bytesV xs)).cell j
  rw [Addr.add_lit, Nat.zero_add, h]
  simpa [bytesV] using hu
/-- what Sum's own copy holds, and nothing old has turned -/
structure SInv (w wx : World) (m : List UInt8) : Prop where
  holds : Holds wx (w.heap.size + 1) m
  res : Blk wx w.heap.size 24 (bytesV (List.replicate 32 0))
  below : Below w.heap.size w wx
theorem SInv.lt {w wx : World} {m : List UInt8} (h : SInv w wx m) : w.heap.size + 1 < wx.heap.size := h.holds.lt
theorem SInv.alloc {w wx : World} {m : List UInt8} (h : SInv w wx m) (o : Obj) : SInv w (wx.alloc o) m :=
  ⟨h.holds.keep (Below.heap_alloc wx o _ h.lt), h.res.alloc o, h.below.alloc (by have := h.lt; omega) o⟩
theorem SInv.write {w wx w' : World} {m m' : List UInt8} (h : SInv w wx m) (hH : Holds w' (w.heap.size + 1) m') (hf : wx.grownBy w' (some (w.heap.size + 1))) : SInv w w' m' :=
  ⟨hH, h.res.grown hf (by simp), h.below.grown hf (by have := h.lt; omega) (by rintro k hk; injection hk with hk; omega)⟩
theorem SInv.set {w wx : World} {m : List UInt8} (h : SInv w wx m) {p : Addr} (hp : w.heap.size + 1 < p.block) (v : Value) : SInv w (wx.setCell p v) m :=
  ⟨h.holds.keep (Below.heap_setCell wx p v _ (by omega)), h.res.far (by omega) v, h.below.setCell (by omega) v⟩
theorem SInv.tables {w wx : World} {m : List UInt8} (h : SInv w wx m) (ht : Tables w) : Tables wx := ht.below h.below ht.size
theorem made_zeros (z : Nat) : madeCells #[Value.int .u8 0] z = bytesV (List.replicate z 0) := by
  apply Array.ext
  · simp [madeCells, bytesV]
  · intro i h1 h2
    simp [madeCells, bytesV, Nat.mod_one]
    rfl
theorem info5' : (Tryd.prog.info? 5).map (fun i => (i.zero, i.size, i.bytes)) = some (some (.int .u8 0), 1, 1) := by kernel_rfl
theorem make22 (z : Nat) (hz : z ≤ 64) (x : Int) (hx : x = z) (W : World) : (Instr.makeSlice 22 (.int .i64 x) (.int .i64 x)).run Tryd.prog W = .ok (.slice (some ⟨W.heap.size, 0, none⟩) z z) (W.alloc (.cells (bytesV (List.replicate z 0)) 5)) := by
  subst hx
  obtain ⟨i0, hi, hz0, hz1, hz2⟩ := info_parts info5'
  have h := run_make_rowN (P := Tryd.prog) 22 5 i0 (.int .u8 0) Tryd.underlying22 hi hz0 .i64 .i64 z z (Nat.le_refl _) (by rw [hz2]; omega) (by omega) W
  rw [h, hz1, Nat.mul_one, ← made_zeros]
  rfl

set_option maxRecDepth 100000 in
set_option maxHeartbeats 1000000 in
theorem hsum_any (g : Nat) (m : List UInt8) (w : World) (hH : Holds w g m) (hlen : m.length ≤ 100000000) (ht : Tables w) :
    Calls Tryd.prog 15 #[.pointer (some ⟨g, 0, none⟩)] w fun e w' => e = .returned (.agg (bytesV (Sp.digest m))) ∧ Below w.heap.size w w' := by
  obtain ⟨rest, hr, hb⟩ := hH.ex
  have hs2 := ht.size
  generalize hV : hashV (Sp.after m (m.length / 64)) rest m.length = V at hb
  have HV := Lib.hid hV
  have hs : V.size = 73 := by rw [← hV, hashV_size, hr.len]
  have h1 : V.all (·.oneCell') = true := by rw [← hV]; exact hashV_one _ _ _
  have hB := hb.alloc (.cells (bytesV (List.replicate 32 0)) 24)
  obtain ⟨wc, hwc⟩ : ∃ wc, wc = ((w.alloc (.cells (Array.replicate 32 (.int .u8 0)) 24)).alloc (.cells zeroH 49)).setRow (w.heap.size + 1) V := ⟨_, rfl⟩
  have hc0 : Holds wc (w.heap.size + 1) m := by
    rw [hwc]
    refine ⟨⟨rest, hr, ?_⟩⟩
    rw [hV]
    exact (Blk.new_at _ 49 _ _ rfl _ (by simp)).setRow _
  have hr0 : Blk wc w.heap.size 24 (bytesV (List.replicate 32 0)) := by
    rw [hwc]
    exact ((Blk.at0 w 24 _ _ rfl).alloc _).setRow_far (by omega) _
  have hb0 : Below w.heap.size w wc := by
    rw [hwc]
    exact below_setRow (((Below.refl _ _).alloc (Nat.le_refl _) _).alloc (by simp) _) (by omega) _
  have hz0 : wc.heap.size = w.heap.size + 1 + 1 := by rw [hwc]; simp
  have hcl0 := hc0.cellLen
  have Hz0 := Lib.hid hz0
  have Hwc := Lib.hid hwc
  have Hs := Lib.hid hs
  clear hV hs hwc hz0
  have hS0 : SInv w wc m := ⟨hc0, hr0, hb0⟩
  have hmk := fun W => make22 (Sp.zeros m.length) (by unfold Sp.zeros; omega) ((120 - ((m.length : Int) + 1)) % 64) (by unfold Sp.zeros; omega) W
  go_enter Tryd.func15, Tryd.ntmps15
  go_wp2_with (first
    | (refine load49 rfl _ rfl g rfl V hB Hs.out ?_)
    | (refine store49 rfl _ _ rfl (w.heap.size + 1) rfl V rfl zeroH (Blk.new_at _ 49 _ _ rfl _ (by simp)) zeroH_size Hs.out h1 ?_; change wpList _ _ _ _ _ (((w.alloc (.cells (Array.replicate 32 (.int .u8 0)) 24)).alloc (.cells zeroH 49)).setRow (w.heap.size + 1) V); rw [← Hwc.out]))
  refine (write_any (w.heap.size + 1) _ 1 1 [128] m _ rfl (Nat.le_refl _) (Src.new wc [128] _ 5 rfl hS0.lt 1 rfl) (hS0.alloc _).holds (by simp; omega) ((hS0.alloc _).tables ht) (by omega)).mono ?_
  rintro e w1 ⟨rfl, hH1, hf1⟩
  have hS1 : SInv w w1 (m ++ [128]) := (hS0.alloc _).write hH1 hf1
  have hcl1 : w1.cell? ⟨w.heap.size + 1, 72, none⟩ = some (.int .i64 ((m.length : Int) + 1)) := by
    have := hS1.holds.cellLen
    simpa using this
  clear hcl0 hc0 hr0 hb0 hB hb
  have Hz : Sp.zeros m.length ≤ 64 := by unfold Sp.zeros; omega
  generalize hz : Sp.zeros m.length = z at hmk Hz
  have HZ := Lib.hid hz
  clear hz
  go_wp2_with fail
  refine (write_any (w.heap.size + 1) _ z z (List.replicate z 0) (m ++ [128]) _ (by simp) (Nat.le_refl _) (Src.new w1 _ _ 5 rfl hS1.lt z (by simp)) (hS1.alloc _).holds (by simp; omega) ((hS1.alloc _).tables ht) (by omega)).mono ?_
  rintro e w2 ⟨rfl, hH2, hf2⟩
  have hS2 : SInv w w2 (m ++ [128] ++ List.replicate z 0) := (hS1.alloc _).write hH2 hf2
  clear hcl1 hmk
  go_wp2_with fail
  go_loopw [30] (fun i wr => ∃ k : Nat, k ≤ 8 ∧ i = .int .i64 k ∧ SInv w wr (m ++ [128] ++ List.replicate z 0) ∧ Blk wr w2.heap.size 52 (tailA (m.length * 8) k)) (fun i _ => 8 - (intOf i).toNat)
  case atStart => exact ⟨0, by omega, rfl, hS2.alloc _, Blk.at0 w2 52 _ _ rfl⟩
  case round =>
    obtain ⟨k, hk, rfl, hSr, hbt⟩ := hrel
    have hlt2 := hS2.lt
    by_cases hlt : k < 8
    · have ct : wr.cell? ⟨w2.heap.size, k, none⟩ = some (U8 0) := (hbt.cell k).trans (tail_get _ k hlt)
      have ft := hbt.frozen k
      have tb := tail_byte (m.length * 8) k hlt
      rw [show ((m.length * 8 : Nat) : Int) = (m.length : Int) * 8 by simp] at tb
      have TB := Lib.hid tb
      clear tb
      go_wp2
      go_roundw
      case rel =>
        rw [TB.out]
        exact ⟨k + 1, by omega, by go_num, hSr.set (by simp; omega) _, by rw [← tail_set _ k hlt]; exact hbt.set_ _ _⟩
      case measure => simp [intOf]; omega
    · obtain rfl : k = 8 := by omega
      clear hlt hk
      rw [show ((8 : Nat) : Int) = 8 from rfl]
      rw [tail_end] at hbt
      have src3 : Src wr (w.heap.size + 1) (some ⟨w2.heap.size, 0, none⟩) 8 ((Sp.be64 (m.length * 8)).map U8) :=
        ⟨rfl, fun _ => ⟨_, rfl, by simp; omega, fun j v hj => hbt.sub 0 (xs := bytesV (Sp.be64 (m.length * 8))) (fun j v hj => by rw [Nat.zero_add]; exact hj) j v (by simpa [bytesV] using hj)⟩⟩
      go_wp2_with fail
      refine (write_any (w.heap.size + 1) _ 8 8 (Sp.be64 (m.length * 8)) _ _ rfl (Nat.le_refl _) src3 hSr.holds (by simp [Sp.be64]; omega) (hSr.tables ht) (by omega)).mono ?_
      rintro e w3 ⟨rfl, hH3, hf3⟩
      have hS3 : SInv w w3 (Sp.padded m) := by
        rw [Sp.padded, HZ.out]
        exact hSr.write hH3 hf3
      obtain ⟨rest3, hr3, hb3⟩ := hS3.holds.ex
      have hdig : Sp.outB (Sp.after (Sp.padded m) ((Sp.padded m).length / 64)) = Sp.digest m := rfl
      generalize Sp.after (Sp.padded m) ((Sp.padded m).length / 64) = st at hb3 hdig
      have HD := Lib.hid hdig
      clear hdig src3 hbt hSr hH3
      have hlt3 := hS3.lt
      have hst3 : ∀ o j v, (s8V st)[j]? = some v → (w3.alloc o).cell? ((⟨w.heap.size + 1, 0, none⟩ : Addr).add j) = some v := fun o =>
        (hb3.alloc o).sub 0 (fun j v hj => by rw [Nat.zero_add]; exact hashV_state st rest3 _ j v hj)
      have Hst3 := Lib.hid hst3
      clear hst3
      go_wp2_with (refine wpList_load_cells rfl 44 _ rfl ⟨w.heap.size + 1, 0, none⟩ rfl (s8V st) _ Tryd.underlying44 rfl info44 (Hst3.out _) ?_)
      go_loopw [46] (fun i wr => ∃ k : Nat, k ≤ 8 ∧ i = .int .i64 k ∧ SInv w wr (Sp.padded m) ∧ Blk wr w3.heap.size 24 (sumA st (4 * k))) (fun i _ => 8 - (intOf i).toNat)
      case atStart => exact ⟨0, by omega, rfl, hS3.alloc _, Blk.at0 w3 24 _ _ rfl⟩
      case round =>
        obtain ⟨k, hk, rfl, hSr, hbs⟩ := hrel
        by_cases hlt : k < 8
        · have hix := fun W => index44 st k hlt W
          have c0 : wr.cell? ⟨w3.heap.size, 4 * k, none⟩ = some (U8 0) := (hbs.cell _).trans (sum_get0 st k 0 (by omega) (by omega))
          have c1 : wr.cell? ⟨w3.heap.size, 4 * k + 1, none⟩ = some (U8 0) := (hbs.cell _).trans (sum_get0 st k 1 (by omega) (by omega))
          have c2 : wr.cell? ⟨w3.heap.size, 4 * k + 2, none⟩ = some (U8 0) := (hbs.cell _).trans (sum_get0 st k 2 (by omega) (by omega))
          have c3 : wr.cell? ⟨w3.heap.size, 4 * k + 3, none⟩ = some (U8 0) := (hbs.cell _).trans (sum_get0 st k 3 (by omega) (by omega))
          have f0 := hbs.frozen (4 * k)
          have f1 := hbs.frozen (4 * k + 1)
          have f2 := hbs.frozen (4 * k + 2)
          have f3 := hbs.frozen (4 * k + 3)
          go_wp2
          go_roundw
          case rel => exact ⟨k + 1, by omega, by go_num, (((hSr.set (by simp; omega) _).set (by simp; omega) _).set (by simp; omega) _).set (by simp; omega) _, sum_four hbs hlt⟩
          case measure => simp [intOf]; omega
        · obtain rfl : k = 8 := by omega
          clear hlt hk
          rw [show ((8 : Nat) : Int) = 8 from rfl]
          rw [show 4 * 8 = 32 from rfl, sum_end, HD.out] at hbs
          have hres := hSr.res
          have hbel := hSr.below
          have hds : (bytesV (Sp.digest m)).size = 32 := by rw [bytesV_size]; rfl
          go_wp2_with (first
            | (refine load24 rfl _ rfl w3.heap.size rfl _ hbs hds ?_)
            | (refine store24 rfl _ _ rfl w.heap.size rfl (bytesV (Sp.digest m)) rfl _ hres (by rfl) hds (bytesV_one _) ?_))
          exact bodyPost_ret (results_cell_row rfl _ _ w.heap.size 24 _ (0, 0) _ rfl (hres.setRow _) Tryd.underlying24 rfl (by rw [hds]; exact info24)) rfl ⟨rfl, below_setRow hbel (Nat.le_refl _) _⟩

/-- a slice of bytes that is read -/
structure Rd (w : World) (A : Option Addr) (n : Nat) (xs : List UInt8) : Prop where
  len : xs.length = n
  cells : 0 < n → ∃ ad, A = some ad ∧ ∀ j u, (xs.map U8)[j]? = some u → w.cell? (ad.add j) = some u
theorem Rd.src {w : World} {A : Option Addr} {n : Nat} {xs : List UInt8} (h : Rd w A n xs) {g : Nat} (hg : w.heap.size ≤ g) : Src w g A n (xs.map U8) := by
  refine ⟨by simpa using h.len, fun hn => ?_⟩
  obtain ⟨ad, e, hc⟩ := h.cells hn
  refine ⟨ad, e, ?_, hc⟩
  have hl := h.len
  have h0 := hc 0 (U8 (xs[0]'(by omega))) (by simp [List.getElem?_eq_getElem (show 0 < xs.length by omega)])
  have hlt := block_lt_of_cell h0
  rw [block_of_add] at hlt
  omega
theorem Rd.grown {w w' : World} {A : Option Addr} {n : Nat} {xs : List UInt8} (h : Rd w A n xs) (hb : Below w.heap.size w w') : Rd w' A n xs := by
  refine ⟨h.len, fun hn => ?_⟩
  obtain ⟨ad, e, hc⟩ := h.cells hn
  exact ⟨ad, e, fun j u hu => by
    have h1 := hc j u hu
    exact (hb.cell (block_lt_of_cell h1)).trans h1⟩
theorem Rd.src_in {w w1 : World} {A : Option Addr} {n : Nat} {xs : List UInt8} (h : Rd w A n xs) (hb : Below w.heap.size w w1) {g : Nat} (hg : w.heap.size ≤ g) : Src w1 g A n (xs.map U8) := by
  obtain ⟨h1, h2⟩ := h.src hg
  refine ⟨h1, fun hn => ?_⟩
  obtain ⟨ad, e, hne, hc⟩ := h2 hn
  exact ⟨ad, e, hne, fun j u hu => by
    have h3 := hc j u hu
    exact (hb.cell (block_lt_of_cell h3)).trans h3⟩
theorem Rd.none_ (w : World) : Rd w none 0 [] := ⟨rfl, fun h => absurd h (by omega)⟩

set_option maxRecDepth 100000 in
set_option maxHeartbeats 400000 in
theorem sum_any (A : Option Addr) (n c : Nat) (bs : List UInt8) (w : World) (hnc : n ≤ c) (hR : Rd w A n bs) (hlen : bs.length ≤ 100000000) (ht : Tables w) :
    Calls Tryd.prog 9 #[.slice A n c] w fun e w' => e = .returned (.agg (bytesV (Sp.digest bs))) ∧ Below w.heap.size w w' := by
  have hb0 := (Below.refl w.heap.size w).alloc (Nat.le_refl _) (.cells (Array.replicate 32 (.int .u8 0)) 24)
  have hsz := ht.size
  have hr0 := Blk.at0 w 24 (Array.replicate 32 (.int .u8 0)) _ rfl
  have hds : (bytesV (Sp.digest bs)).size = 32 := by rw [bytesV_size]; rfl
  go_enter Tryd.func9, Tryd.ntmps9
  go_wp2_with fail
  refine (new_any _ (ht.below hb0 hsz)).mono ?_
  rintro e w1 ⟨rfl, hH1, hb1⟩
  have hb01 := hb0.trans (hb1.mono (by simp))
  have hr1 := hr0.below hb1 (by simp)
  rw [show (w.alloc (.cells (Array.replicate 32 (.int .u8 0)) 24)).heap.size = w.heap.size + 1 by simp] at hH1
  go_wp2_with fail
  refine (write_any (w.heap.size + 1) A n c bs [] w1 hR.len hnc (hR.src_in hb01 (by omega)) hH1 (by simp; omega) (ht.below hb01 hsz) (by omega)).mono ?_
  rintro e w2 ⟨rfl, hH2, hf2⟩
  rw [List.nil_append] at hH2
  have hb02 : Below w.heap.size w w2 := hb01.grown hf2 hb01.size (by rintro k hk; injection hk with hk; omega)
  have hr2 := hr1.grown hf2 (by simp)
  go_wp2_with fail
  refine (hsum_any (w.heap.size + 1) bs w2 hH2 hlen (ht.below hb02 hsz)).mono ?_
  rintro e w3 ⟨rfl, hb3⟩
  have hb03 := hb02.trans (hb3.mono hb02.size)
  have hr3 := hr2.below hb3 (by have := hH2.lt; omega)
  go_wp2_with (refine store24 rfl _ _ rfl w.heap.size rfl (bytesV (Sp.digest bs)) rfl _ hr3 (by rfl) hds (bytesV_one _) ?_)
  exact bodyPost_ret (results_cell_row rfl _ _ w.heap.size 24 _ (0, 0) _ rfl (hr3.setRow _) Tryd.underlying24 rfl (by rw [hds]; exact info24)) rfl ⟨rfl, below_setRow hb03 (Nat.le_refl _) _⟩
end Go.Proofs.YtljghknojbpccaaDoor
