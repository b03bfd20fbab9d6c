/-
  THE WALK OF THE REFERENCE: nacelleref04.Sum.
-/
import Derived.Test.YtljghknojbpccaaDoorRefP
namespace Go.Proofs.YtljghknojbpccaaDoor
set_option linter.unusedSimpArgs false
set_option linter.unusedVariables false
open Go.RowKit

section
variable {ops : Array Oper} {rest : List Oper} {o : Oper} {a : Act} {w : World} {Q : Act → Prop}
theorem still44 (hgd : o.guard = none) (x : Operand) (ho : o.op = .load 44 x) (g : Nat) (hx : a.eval x = .pointer (some ⟨g, 0, none⟩)) (cs : Array Value) (hb : Blk w g 44 cs) (hs : cs.size = 8)
    (h : wpStill Tryd.prog ops w Q rest (a.put o.dst (.agg cs))) : wpStill Tryd.prog ops w Q (o :: rest) a :=
  wpStill_step fun K hK => by
    rw [if_pos (by simp [Region.wanted, hgd])]
    have hl := run_loadVar_row (P := Tryd.prog) w g 44 44 cs (0, 0) _ hb Tryd.underlying44 rfl (by rw [hs]; exact info44)
    unfold Oper.still execOp
    simp only [ho, hx, Instr.loadAt, Instr.sureAddr, Sem.run_bind, Sem.run_pure, Result.andThen_ok, hl]
    exact ⟨rfl, hK _ h⟩
end
theorem shr_byte (x : UInt32) (n : Nat) (h : n < 32) : N32 x / 2 ^ n % 256 = N8 (x >>> UInt32.ofNat n).toUInt8 := by
  unfold N32 N8
  rw [UInt32.toNat_toUInt8, UInt32.toNat_shiftRight, UInt32.toNat_ofNat', Nat.mod_eq_of_lt (show n < 2 ^ 32 by omega), Nat.mod_eq_of_lt h, Nat.shiftRight_eq_div_pow]
  have : ((x.toNat : Int) / 2 ^ n) = ((x.toNat / 2 ^ n : Nat) : Int) := by simp
  rw [this]
  omega
theorem shr_zero (x : UInt32) : (x >>> UInt32.ofNat 0).toUInt8 = x.toUInt8 := by simp
theorem outB_each (s : Sp.S8) (j : Nat) (h : j < 32) : (Sp.outB s)[j]? = some (s.list.getD (j / 4) 0 >>> UInt32.ofNat (24 - 8 * (j % 4))).toUInt8 := by
  have hk : j / 4 < 8 := by omega
  have hi : j % 4 = 0 ∨ j % 4 = 1 ∨ j % 4 = 2 ∨ j % 4 = 3 := by omega
  have hj : j = 4 * (j / 4) + j % 4 := by omega
  generalize j / 4 = k at *
  generalize j % 4 = i at *
  subst hj
  obtain ⟨b0, b1, b2, b3⟩ := outB_at s k hk
  rcases hi with rfl | rfl | rfl | rfl
  · exact b0
  · exact b1
  · exact b2
  · rw [b3, ← shr_zero]

set_option maxRecDepth 100000 in
set_option maxHeartbeats 1000000 in
theorem refsum_any (A : Option Addr) (n c : Nat) (bs : List UInt8) (w : World) (hR : Rd w A n bs) (hlen : n ≤ 100000000) :
    Calls Tryd.prog 10 #[.slice A n c] w fun e w' => e = .returned (.agg (bytesV (Sp.digest bs))) ∧ Below w.heap.size w w' := by
  have hb0 := ((Below.refl w.heap.size w).alloc (Nat.le_refl _) (.cells (Array.replicate 32 (.int .u8 0)) 24)).alloc (by simp) (.cells (s8V Sp.init) 44)
  have hres0 := (Blk.at0 w 24 (Array.replicate 32 (.int .u8 0)) _ rfl).alloc (.cells (s8V Sp.init) 44)
  have hst0 := Blk.at1 w (.cells (Array.replicate 32 (.int .u8 0)) 24) 44 (s8V Sp.init) _ rfl
  have hpl := Sp.padded_length bs
  have hpb : (Sp.padded bs).length ≤ 100000200 := by
    have h1 := hR.len
    simp only [Sp.padded, List.length_append, List.length_replicate, Sp.be64, List.length_cons, List.length_nil]
    unfold Sp.zeros
    omega
  go_enter Tryd.func10, Tryd.ntmps10
  go_wp2_with fail
  refine (padded_any A n c bs _ (hR.grown hb0) hlen).mono ?_
  rintro e w1 ⟨ga, N, ca, rfl, hN, hown1, hb1⟩
  have hs1 := hb1.size
  rw [show ((w.alloc (.cells (Array.replicate 32 (.int .u8 0)) 24)).alloc (.cells (s8V Sp.init) 44)).heap.size = w.heap.size + 1 + 1 by simp] at hs1
  have hb01 := hb0.trans (hb1.mono (by simp; omega))
  have hst1 := hst0.below hb1 (by simp)
  have hres1 := hres0.below hb1 (by simp; omega)
  have hga : w.heap.size + 1 + 1 ≤ ga := by
    have := (hown1.lt ga rfl).1
    simpa using this
  have hca : N ≤ ca := by
    obtain ⟨_, h⟩ := hown1
    rcases h with ⟨h, _⟩ | ⟨g', cap', cur, h, _, _, hle, _⟩
    · cases h
    · injection h with _ _ h; omega
  have hcell1 : ∀ j, j < N → w1.cell? ⟨ga, j, none⟩ = some (U8 ((Sp.padded bs).getD j 0)) := by
    intro j hj
    rw [hown1.cellAt j (by omega)]
    simp [List.getD, List.getElem?_eq_getElem (show j < (Sp.padded bs).length by omega)]
  have hN64 : N % 64 = 0 := by omega
  have hNb : N ≤ 100000200 := by omega
  obtain ⟨T, hT⟩ : ∃ T, N = 64 * T := ⟨N / 64, by omega⟩
  have HN := Lib.hid hN
  clear hN hown1 hb0 hst0 hres0 hb1
  subst hT
  go_wp2_with fail
  go_loopw [5] (fun i wr => ∃ k : Nat, k ≤ T ∧ i = .int .i64 (64 * (k : Int)) ∧ Blk wr (w.heap.size + 1) 44 (s8V (Sp.after (Sp.padded bs) k)) ∧ Blk wr w.heap.size 24 (bytesV (List.replicate 32 0)) ∧ Below w.heap.size w wr ∧ (∀ j, j < 64 * T → wr.cell? ⟨ga, j, none⟩ = some (U8 ((Sp.padded bs).getD j 0)))) (fun i _ => 64 * T - (intOf i).toNat)
  case atStart => exact ⟨0, by omega, rfl, hst1, hres1, hb01, hcell1⟩
  case round =>
    obtain ⟨k, hk, rfl, hst, hres, hbel, hcell⟩ := hrel
    have Hcell := Lib.hid hcell
    clear hcell
    by_cases hlt : k < T
    · have hne : ¬ ca = 64 * k := by omega
      have hlt2 : 64 * k < 64 * T := by omega
      go_wp2_with fail
      have e64 : IntKind.i64.wrap (64 * (k : Int) + 64) = 64 * (k : Int) + 64 := IntWalk.i64_in _ (by omega)
      have p0 : (0 : Int) ≤ 64 * (k : Int) := by omega
      have p1 : 64 * (k : Int) ≤ 64 * (k : Int) + 64 := by omega
      have p2 : 64 * (k : Int) + 64 ≤ (ca : Int) := by omega
      have t0 : (64 * (k : Int)).toNat = 64 * k := by omega
      have t1 : (64 * (k : Int) + 64).toNat = 64 * k + 64 := by omega
      refine wp_region_still_tail 6 (by kernel_rfl) (by kernel_rfl) ?_
      simp only [List.take_succ_cons, List.take_zero, List.drop_succ_cons, List.drop_zero]
      refine still44 rfl (.tmp 3) rfl (w.heap.size + 1) rfl (s8V (Sp.after (Sp.padded bs) k)) hst.drew rfl ?_
      repeat still_step
      refine wpStill_nil ?_
      change wpList _ _ _ _ _ wr.drew
      clear e64 p0 p1 p2 t0 t1
      go_wp2_with fail
      have hrd : Rd wr.drew (some ⟨ga, 64 * k, none⟩) 64 (((Sp.padded bs).drop (64 * k)).take 64) := by
        have hN := HN.out
        refine ⟨by simp; omega, fun _ => ⟨_, rfl, fun j u hu => ?_⟩⟩
        have hj : j < 64 := by
          rcases Nat.lt_or_ge j 64 with h | h
          · exact h
          · rw [List.getElem?_eq_none (by simp; omega)] at hu; cases hu
        have h1 := Hcell.out (64 * k + j) (by omega)
        rw [List.getElem?_map, List.getElem?_take, if_pos hj, List.getElem?_drop, List.getElem?_eq_getElem (show 64 * k + j < (Sp.padded bs).length by omega)] at hu
        rw [Addr.add_lit]
        show wr.cell? _ = _
        rw [h1, ← hu]
        simp [List.getD, List.getElem?_eq_getElem (show 64 * k + j < (Sp.padded bs).length by omega)]
      refine (block_any (Sp.after (Sp.padded bs) k) _ (ca - 64 * k) _ wr.drew hrd).mono ?_
      rintro e w2 ⟨rfl, hb2⟩
      have hb2' : Below wr.heap.size wr w2 := (Below.refl wr.heap.size wr).drew.trans hb2
      have hst2 := hst.below hb2' hst.lt
      have hres2 := hres.below hb2' hres.lt
      have hbel2 := hbel.trans (hb2'.mono hbel.size)
      have hcell2 : ∀ j, j < 64 * T → w2.cell? ⟨ga, j, none⟩ = some (U8 ((Sp.padded bs).getD j 0)) := fun j hj => by
        have h1 := Hcell.out j hj
        exact (hb2'.cell (block_lt_of_cell h1)).trans h1
      have Hcell2 := Lib.hid hcell2
      clear hcell2 hb2 hrd hst hres hbel hb2'
      go_wp2_with (refine store44 rfl _ _ rfl (w.heap.size + 1) rfl (s8V (Sp.after (Sp.padded bs) (k + 1))) rfl _ hst2 (by rfl) rfl (s8V_one _) ?_)
      go_roundw
      case rel => exact ⟨k + 1, by omega, by go_num, hst2.setRow _, hres2.setRow_far (by omega) _, below_setRow hbel2 (by omega) _, fun j hj => (cell_setRow_other w2 (w.heap.size + 1) _ ⟨ga, j, none⟩ (by simp; omega)).trans (Hcell2.out j hj)⟩
      case measure => simp [intOf]; omega
    · obtain rfl : k = T := by omega
      have hdig : Sp.outB (Sp.after (Sp.padded bs) k) = Sp.digest bs := by
        rw [Sp.digest, ← HN.out]
        congr 2
        omega
      generalize Sp.after (Sp.padded bs) k = st at hst hdig
      have HD := Lib.hid hdig
      clear hdig hlt hk Hcell
      have hres1 := hres.alloc (.cells (Array.replicate 32 (.int .u8 0)) 24)
      have hst1 := hst.alloc (.cells (Array.replicate 32 (.int .u8 0)) 24)
      have hbel1 := hbel.alloc hbel.size (.cells (Array.replicate 32 (.int .u8 0)) 24)
      have hlt1 := hst.lt
      obtain ⟨wo, rfl⟩ : ∃ wo : World, wo = wr := ⟨_, rfl⟩
      go_wp2_with fail
      go_loopw [7] (fun i wx => ∃ j : Nat, j ≤ 32 ∧ i = .int .i64 j ∧ Blk wx (w.heap.size + 1) 44 (s8V st) ∧ Blk wx w.heap.size 24 (bytesV (List.replicate 32 0)) ∧ Blk wx wo.heap.size 24 (sumA st j) ∧ Below w.heap.size w wx) (fun i _ => 32 - (intOf i).toNat)
      case atStart => exact ⟨0, by omega, rfl, hst1, hres1, Blk.at0 wo 24 _ _ rfl, hbel1⟩
      case round =>
        clear hst1 hres1 hbel1
        obtain ⟨j, hj, rfl, hst1, hres1, hout1, hbel1⟩ := hrel
        by_cases hlj : j < 32
        · have cs : wr.cell? ⟨w.heap.size + 1, j / 4, none⟩ = some (U32 (st.list.getD (j / 4) 0)) := (hst1.cell _).trans (s8V_get st _ (by omega))
          have co : wr.cell? ⟨wo.heap.size, j, none⟩ = some (U8 0) := (hout1.cell _).trans (sum_get st j hlj)
          have fo := hout1.frozen j
          have sb := shr_byte (st.list.getD (j / 4) 0) (24 - 8 * (j % 4)) (by omega)
          have SB := Lib.hid sb
          clear sb
          go_wp2_with fail
          go_roundw
          case rel =>
            have sb := SB.out
            rw [List.getD] at sb
            rw [sb]
            exact ⟨j + 1, by omega, by go_num, hst1.far (by simp; omega) _, hres1.far (by simp; omega) _, by rw [← sum_set st j hlj _ (outB_each st j hlj)]; exact hout1.set_ _ _, hbel1.setCell (by simp; omega) _⟩
          case measure => simp [intOf]; omega
        · obtain rfl : j = 32 := by omega
          clear hlj hj
          rw [sum_end, HD.out] at hout1
          have hds : (bytesV (Sp.digest bs)).size = 32 := by rw [bytesV_size]; rfl
          go_wp2_with (first
            | (refine load24 rfl _ rfl wo.heap.size rfl _ hout1 hds ?_)
            | (refine store24 rfl _ _ rfl w.heap.size rfl (bytesV (Sp.digest bs)) rfl _ hres1 (by rfl) hds (bytesV_one _) ?_))
          exact bodyPost_ret (results_cell_row rfl _ _ w.heap.size 24 _ (0, 0) _ rfl (hres1.setRow _) Tryd.underlying24 rfl (by rw [hds]; exact info24)) rfl ⟨rfl, below_setRow hbel1 (Nat.le_refl _) _⟩
end Go.Proofs.YtljghknojbpccaaDoor
