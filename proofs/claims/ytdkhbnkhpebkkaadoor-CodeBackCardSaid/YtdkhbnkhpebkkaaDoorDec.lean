/-
  THE WALK OF Decode.
-/
import Derived.Test.YtdkhbnkhpebkkaaDoorCheck
import Derived.Test.YtdkhbnkhpebkkaaDoorPath
import Derived.Test.YtdkhbnkhpebkkaaDoorBytes
import Derived.StillTailTactics
namespace Go.Proofs.YtdkhbnkhpebkkaaDoor
set_option linter.unusedSimpArgs false
set_option linter.unusedVariables false
open Go.RowKit

/-- the instructions that bytes would be -/
def insAt (bs : List UInt8) (k : Nat) : Ins := ⟨bs.getD (4 * k) 0, bs.getD (4 * k + 1) 0, bs.getD (4 * k + 2) 0, bs.getD (4 * k + 3) 0⟩
def listI (bs : List UInt8) : List Ins := (List.range (bs.length / 4)).map (insAt bs)
theorem listI_len (bs : List UInt8) : (listI bs).length = bs.length / 4 := by simp [listI]
theorem listI_get {bs : List UInt8} {k : Nat} {i : Ins} (h : (listI bs)[k]? = some i) : k < bs.length / 4 ∧ i = insAt bs k := by
  have hk : k < bs.length / 4 := by
    rcases Nat.lt_or_ge k (bs.length / 4) with h1 | h1
    · exact h1
    · rw [List.getElem?_eq_none (by rw [listI_len]; omega)] at h; cases h
  refine ⟨hk, ?_⟩
  unfold listI at h
  rw [List.getElem?_map, List.getElem?_range hk] at h
  injection h with h
  exact h.symm
/-- what Decode says of bytes -/
noncomputable def decL (bs : List UInt8) : List (Int × Int) :=
  if bs.length % 4 ≠ 0 then [(2, ((bs.length / 4 : Nat) : Int))] else match chk (listI bs) with | none => [] | some (c, k) => [(c, 4 * k), (c, k)]
theorem decL_odd {bs : List UInt8} (h : bs.length % 4 ≠ 0) : decL bs = [(2, ((bs.length / 4 : Nat) : Int))] := by unfold decL; rw [if_pos h]
theorem decL_ok {bs : List UInt8} (h : bs.length % 4 = 0) (hc : chk (listI bs) = none) : decL bs = [] := by unfold decL; rw [if_neg (by omega), hc]
theorem decL_bad {bs : List UInt8} (h : bs.length % 4 = 0) {c k : Int} (hc : chk (listI bs) = some (c, k)) : decL bs = [(c, 4 * k), (c, k)] := by unfold decL; rw [if_neg (by omega), hc]

theorem chk_at {l : List Ins} {x : Int × Int} (h : chk l = some x) : 0 ≤ x.2 ∧ x.2 ≤ l.length := by
  unfold chk at h
  split at h
  · injection h with h
    subst h
    exact ⟨by omega, by omega⟩
  · split at h
    · rename_i k hk
      injection h with h
      subst h
      rw [List.findIdx?_eq_some_iff_getElem] at hk
      obtain ⟨hkl, _⟩ := hk
      exact ⟨by show (0 : Int) ≤ (k : Int); omega, by show (k : Int) ≤ _; omega⟩
    · split at h
      · cases h
      · injection h with h
        subst h
        exact ⟨by show (0 : Int) ≤ ((l.length - 1 : Nat) : Int); omega, by show ((l.length - 1 : Nat) : Int) ≤ _; omega⟩
/-- what Decode answers -/
def DecRet (w : World) (bs : List UInt8) (e : Ending) (w' : World) : Prop :=
  ∃ (A : Option Addr) (n : Nat) (v : Value), e = .returned (.tuple #[.slice A n n, v]) ∧ Chain w' (decL bs) v ∧ (decL bs = [] → IRd w' A n (listI bs)) ∧ (decL bs ≠ [] → n = 0) ∧ Below w.heap.size w w'

set_option maxHeartbeats 1000000 in
theorem decode_odd (A : Option Addr) (n c : Nat) (bs : List UInt8) (w : World) (hR : Rd w A n bs) (hn : n ≤ 9223372036854775807) (h : n % 4 ≠ 0) : Calls Tryd.prog 15 #[.slice A n c] w (DecRet w bs) := by
  have hl := hR.len
  have hd := decL_odd (bs := bs) (by rw [hl]; exact h)
  rw [hl] at hd
  have HD := Lib.hid hd
  clear hd hl
  have hne : ((n : Int).tmod 4 != 0) = true := by rw [bne_iff_ne, Int.tmod_eq_emod_of_nonneg (by omega)]; omega
  have hquo : (n : Int).tdiv 4 = ((n / 4 : Nat) : Int) := by rw [Int.tdiv_eq_ediv_of_nonneg (by omega)]; omega
  go_enter Tryd.func15, Tryd.ntmps15
  go_wp2_with fail
  rw [show ((n : Int) / 4) = ((n / 4 : Nat) : Int) by omega]
  refine (new_err 2 ((n / 4 : Nat) : Int) w (by decide)).mono ?_
  rintro e w1 ⟨v, rfl, hch, hb1⟩
  go_wp2_with fail
  refine bodyPost_ret (v := .tuple #[.slice none 0 0, v]) (by simp [results, Tryd.results15, go_sem]) rfl ⟨none, 0, v, rfl, ?_, ?_, fun _ => rfl, hb1⟩
  · rw [HD.out]
    exact hch
  · rw [HD.out]
    intro x
    cases x

/-- the row of n instructions of which k are written -/
structure DRow (w wr : World) (g n k : Nat) (bs : List UInt8) : Prop where
  blk : ∃ cur : Array Value, Blk wr g 46 cur ∧ cur.size = n * 4 ∧ ∀ j, j < 4 * k → cur[j]? = some (U8 (bs.getD j 0))
  bel : Below w.heap.size w wr
theorem info46' : (Tryd.prog.info? 46).map (fun i => (i.zero, i.size, i.bytes)) = some (some (insV Ins.zero), 4, 4) := by kernel_rfl
theorem make46 (z : Nat) (W : World) (h : z * 4 ≤ 281474976710656) : (Instr.makeSlice 23 (.int .i64 (z : Int)) (.int .i64 (z : Int))).run Tryd.prog W = .ok (.slice (some ⟨W.heap.size, 0, none⟩) z z) (W.alloc (.cells (madeCells (insV Ins.zero).cells (z * 4)) 46)) := by
  obtain ⟨i0, hi, hz0, hz1, hz2⟩ := info_parts info46'
  have h := run_make_rowN (P := Tryd.prog) 23 46 i0 (insV Ins.zero) Tryd.underlying23 hi hz0 .i64 .i64 z z (Nat.le_refl _) (by rw [hz2]; omega) (by omega) W
  rw [hz1] at h
  exact h
theorem DRow.step {w wr : World} {g n k : Nat} {bs : List UInt8} (h : DRow w wr g n k bs) (hg : w.heap.size ≤ g) (hk : k < n) (cur : Array Value) (hb : Blk wr g 46 cur) (hs : cur.size = n * 4) (hc : ∀ j, j < 4 * k → cur[j]? = some (U8 (bs.getD j 0))) :
    DRow w (wr.setRow g (cur.toList.take (k * 4) ++ (insA (insAt bs k)).toList ++ cur.toList.drop (k * 4 + 4)).toArray) g n (k + 1) bs := by
  refine ⟨⟨_, hb.setRow _, ?_, fun j hj => ?_⟩, below_setRow h.bel hg _⟩
  · simp
    omega
  · have hl : (cur.toList.take (k * 4)).length = k * 4 := by simp; omega
    rcases Nat.lt_or_ge j (4 * k) with h1 | h1
    · have h2 := hc j h1
      simp only [List.getElem?_toArray, List.append_assoc]
      rw [List.getElem?_append_left (by omega), List.getElem?_take, if_pos (by omega)]
      simpa using h2
    · simp only [List.getElem?_toArray, List.append_assoc]
      rw [List.getElem?_append_right (by omega), hl, List.getElem?_append_left (by simp; omega)]
      have : j - k * 4 = 0 ∨ j - k * 4 = 1 ∨ j - k * 4 = 2 ∨ j - k * 4 = 3 := by omega
      rcases this with e | e | e | e
      · obtain rfl : j = 4 * k := by omega
        rw [e]; rfl
      · obtain rfl : j = 4 * k + 1 := by omega
        rw [e]; rfl
      · obtain rfl : j = 4 * k + 2 := by omega
        rw [e]; rfl
      · obtain rfl : j = 4 * k + 3 := by omega
        rw [e]; rfl
theorem DRow.ird {w wr : World} {g n : Nat} {bs : List UInt8} (h : DRow w wr g n n bs) (hn : bs.length / 4 = n) : IRd wr (some ⟨g, 0, none⟩) n (listI bs) := by
  obtain ⟨cur, hb, hs, hc⟩ := h.blk
  refine ⟨by rw [listI_len, hn], fun k i hi => ⟨_, rfl, fun j v hj => ?_⟩⟩
  obtain ⟨hk, rfl⟩ := listI_get hi
  rw [add_of_add, Addr.add_lit, Nat.zero_add, hb.cell]
  have hj4 : j < 4 := by
    rcases Nat.lt_or_ge j 4 with h | h
    · exact h
    · rw [Array.getElem?_eq_none (by simpa using h)] at hj; cases hj
  rw [hc (k * 4 + j) (by omega), ← hj]
  rcases j with _ | _ | _ | _ | j
  · rw [show k * 4 + 0 = 4 * k by omega]; rfl
  · rw [show k * 4 + 1 = 4 * k + 1 by omega]; rfl
  · rw [show k * 4 + 2 = 4 * k + 2 by omega]; rfl
  · rw [show k * 4 + 3 = 4 * k + 3 by omega]; rfl
  · omega

set_option maxRecDepth 100000 in
set_option maxHeartbeats 1000000 in
theorem decode_even (A : Option Addr) (n c m : Nat) (bs : List UInt8) (w : World) (hR : Rd w A n bs) (hnc : n ≤ c) (hn : n ≤ 1000000) (hm : n = 4 * m) (hg : ET w) : Calls Tryd.prog 15 #[.slice A n c] w (DecRet w bs) := by
  have hl := hR.len
  have hm4 : bs.length / 4 = m := by omega
  have hbad : ∀ (c k : Int), chk (listI bs) = some (c, k) → decL bs = [(c, 4 * k), (c, k)] := fun c k h => decL_bad (by omega) h
  have hok : chk (listI bs) = none → decL bs = [] := fun h => decL_ok (by omega) h
  have HB := Lib.hid hbad
  have HK := Lib.hid hok
  clear hbad hok
  subst hm
  have hrem : ((((4 * m : Nat) : Int)).tmod 4 != 0) = false := by rw [bne_eq_false_iff_eq, Int.tmod_eq_emod_of_nonneg (by omega)]; omega
  have hquo : (((4 * m : Nat) : Int)).tdiv 4 = (m : Int) := by rw [Int.tdiv_eq_ediv_of_nonneg (by omega)]; omega
  have hmk := make46 m w (by omega)
  have hD0 : DRow w (w.alloc (.cells (madeCells (insV Ins.zero).cells (m * 4)) 46)) w.heap.size m 0 bs := ⟨⟨_, Blk.new w 46 _, size_madeCells _ _, fun j hj => by omega⟩, (Below.refl _ _).alloc (Nat.le_refl _) _⟩
  go_enter Tryd.func15, Tryd.ntmps15
  go_wp2_with fail
  change Code.wp _ _ _ _ (w.alloc (.cells (madeCells (insV Ins.zero).cells (m * 4)) 46))
  have hMS : w.heap.size < (w.alloc (.cells (madeCells (insV Ins.zero).cells (m * 4)) 46)).heap.size := by simp
  generalize w.alloc (.cells (madeCells (insV Ins.zero).cells (m * 4)) 46) = w0 at *
  clear hmk hrem hquo
  go_loopw [22] (fun i wr => ∃ k : Nat, k ≤ m ∧ i = .int .i64 (k : Int) ∧ DRow w wr w.heap.size m k bs) (fun i _ => m - (intOf i).toNat)
  case atStart => exact ⟨0, Nat.zero_le _, rfl, hD0⟩
  case round =>
    obtain ⟨k, hk, rfl, hD⟩ := hrel
    by_cases hlt : k < m
    · have hbel := hD.bel
      obtain ⟨cur, hB, hsz, hcur⟩ := hD.blk
      obtain ⟨ad, rfl, hcell⟩ := hR.cells (by omega)
      have hx : ∀ j, j < 4 * m → wr.cell? (ad.add j) = some (U8 (bs.getD j 0)) := fun j hj => by
        have h1 := hcell j (U8 (bs.getD j 0)) (by
          rw [List.getElem?_map, List.getElem?_eq_getElem (by omega), Option.map_some, List.getD_eq_getElem?_getD, List.getElem?_eq_getElem (by omega)]
          rfl)
        exact (hbel.cell (block_lt_of_cell h1)).trans h1
      have x0 := hx (4 * k) (by omega)
      have x1 := hx (4 * k + 1) (by omega)
      have x2 := hx (4 * k + 2) (by omega)
      have x3 := hx (4 * k + 3) (by omega)
      have HC := Lib.hid hcur
      have HR := Lib.hid hR
      have hins : insAt bs k = ⟨bs.getD (4 * k) 0, bs.getD (4 * k + 1) 0, bs.getD (4 * k + 2) 0, bs.getD (4 * k + 3) 0⟩ := rfl
      have off1 : ∀ j, 0 < j → ad.add (4 * k + j) = ⟨(ad.add (4 * k)).block, (ad.add (4 * k)).off + j, none⟩ := fun j hj => by
        rw [← add_of_add]
        unfold Addr.add
        rw [if_neg (by omega)]
      rw [off1 1 (by omega)] at x1
      rw [off1 2 (by omega)] at x2
      rw [off1 3 (by omega)] at x3
      have hN := hD.step (by omega) hlt cur hB hsz hcur
      have HN := Lib.hid hN
      have HB2 := Lib.hid hB
      have HSZ := Lib.hid hsz
      rw [hins] at HN
      clear off1 hcell hx hcur hR hD hN hB hsz hbel hins
      generalize bs.getD (4 * k) 0 = y0 at *
      generalize bs.getD (4 * k + 1) 0 = y1 at *
      generalize bs.getD (4 * k + 2) 0 = y2 at *
      generalize bs.getD (4 * k + 3) 0 = y3 at *
      go_wp2_with fail
      have hq : 4 ≤ 4 * m - 4 * k := by omega
      generalize 4 * m - 4 * k = q at *
      have n0 : 0 < q := by omega
      have n1 : 1 < q := by omega
      have n2 : 2 < q := by omega
      have n3 : 3 < q := by omega
      have p0 : (0 : Int) < (q : Int) := by omega
      have p1 : (1 : Int) < (q : Int) := by omega
      have p2 : (2 : Int) < (q : Int) := by omega
      have p3 : (3 : Int) < (q : Int) := by omega
      refine wp_region_still_tail 16 (by kernel_rfl) (by kernel_rfl) ?_
      simp only [List.take_succ_cons, List.take_zero, List.drop_succ_cons, List.drop_zero]
      repeat still_step
      refine wpStill_nil ?_
      change wpList _ _ _ _ _ wr.drew
      clear x0 x1 x2 x3 p0 p1 p2 p3 n0 n1 n2 n3
      refine wpList_store_at rfl 46 (.tmp 44) (.tmp 43) rfl w.heap.size (k * 4) rfl (insA ⟨y0, y1, y2, y3⟩) rfl 46 cur HB2.out.drew info46 (by have := HSZ.out; show k * 4 + 4 ≤ _; omega) (by simp [Value.oneCell']) ?_
      have hD2 : DRow w (wr.drew.setRow w.heap.size (cur.toList.take (k * 4) ++ (insA ⟨y0, y1, y2, y3⟩).toList ++ cur.toList.drop (k * 4 + (insA ⟨y0, y1, y2, y3⟩).size)).toArray) w.heap.size m (k + 1) bs := ⟨HN.out.blk, below_drewN HN.out.bel 1⟩
      generalize wr.drew.setRow w.heap.size _ = w5 at *
      clear HN HB2 HC
      go_wp2
      go_roundw
      case rel => exact ⟨k + 1, by omega, by go_num, hD2⟩
      case measure => simp [intOf]; omega
    · obtain rfl : k = m := by omega
      have hI := hD.ird hm4
      have hbel := hD.bel
      clear hD
      go_wp2_with fail
      refine (check_any (some ⟨w.heap.size, 0, none⟩) k k (listI bs) wr hI (by omega)).mono ?_
      rintro e w1 ⟨v, rfl, hch, hb1⟩
      have hbel1 := hbel.trans (hb1.mono hbel.size)
      have hI1 := hI.below hb1
      cases hcv : chk (listI bs) with
      | none =>
        rw [hcv] at hch
        have hH := HK.out hcv
        clear hcv HB HK
        obtain rfl : v = .nilIface := hch
        go_wp2_with fail
        refine bodyPost_ret (v := .tuple #[.slice (some ⟨w.heap.size, 0, none⟩) k k, .nilIface]) (by simp [results, Tryd.results15, go_sem]) rfl ⟨_, k, _, rfl, ?_, fun _ => hI1, fun x => absurd hH x, hbel1⟩
        rw [hH]
        rfl
      | some x =>
        obtain ⟨ec, ek⟩ := x
        rw [hcv] at hch
        have hH := Lib.hid (HB.out ec ek hcv)
        have hat := chk_at hcv
        rw [listI_len, hm4] at hat
        have hsm : IntKind.i64.wrap (4 * ek) = 4 * ek := IntWalk.i64_in _ (by have := hat.1; have := hat.2; simp only at *; omega)
        have Hsm := Lib.hid hsm
        clear hsm hat
        clear hcv HB HK
        have hg1 := hg.below hbel1 hg.lt
        have hch0 := hch
        obtain ⟨b, cause, rfl, _, _⟩ := hch0
        have hpos := hg.lt
        go_wp2_with fail
        refine (path_any [(ec, ek)] _ w1 hch hg1 (by simp)).mono ?_
        rintro ev w2 ⟨A2, cap, rfl, hown, hb2⟩
        obtain ⟨g2, cap2, hv, _, _⟩ := hown.form (by simp)
        injection hv with e1 e2 e3
        subst e1
        have hc0 : w2.cell? ⟨g2, 0, none⟩ = some (.int .i64 ek) := by
          have := hown.cells (g := g2) rfl 0 (.int .i64 ek) rfl
          rw [Addr.add_lit, Nat.zero_add] at this
          exact this
        clear hown e2 e3
        have hch2 := hch.below hb2
        have hg2 := hg1.below hb2 hg1.lt
        have hbel2 := hbel1.trans (hb2.mono hbel1.size)
        clear hch hg1 hb2 hbel1
        have hsm := Hsm.out
        go_wp2_with fail
        refine (in_any ec ek [] _ w2 hch2 hg2 (4 * ek)).mono ?_
        rintro ev w3 ⟨v3, rfl, hch3, hb3⟩
        go_wp2_with fail
        refine bodyPost_ret (v := .tuple #[.slice none 0 0, v3]) (by simp [results, Tryd.results15, go_sem]) rfl ⟨none, 0, _, rfl, ?_, ?_, fun _ => rfl, hbel2.trans (hb3.mono hbel2.size)⟩
        · rw [hH.out]
          exact hch3
        · rw [hH.out]
          intro x
          cases x
theorem decode_any (A : Option Addr) (n c : Nat) (bs : List UInt8) (w : World) (hR : Rd w A n bs) (hnc : n ≤ c) (hn : n ≤ 1000000) (hg : ET w) : Calls Tryd.prog 15 #[.slice A n c] w (DecRet w bs) := by
  by_cases h : n % 4 = 0
  · exact decode_even A n c (n / 4) bs w hR hnc hn (by omega) hg
  · exact decode_odd A n c bs w hR (by omega) h
end Go.Proofs.YtdkhbnkhpebkkaaDoor
