/-
  THE WALKS OF THE DOCUMENT's Unhex AND Hex.
-/
import Derived.Test.YtljghknojbpccaaDoorUnhexB
import Derived.BigQuiet
import Derived.Deep.QuietTactic
namespace Go.Proofs.YtljghknojbpccaaDoor
set_option linter.unusedSimpArgs false
set_option linter.unusedVariables false
open Go.RowKit

/-- the place of a digit among the first k of the alphabet, as the document looks for it: the last that fits; none: -1 -/
def place (x : UInt8) : Nat → Int
  | 0 => -1
  | k + 1 => if Sp.alpha.getD k 0 = x then (k : Int) else place x k
theorem place_dig (x : UInt8) : place x 16 = match Sp.dig x with | some d => (d.toNat : Int) | none => -1 := by
  have key : ∀ n : Nat, n < 256 → place (UInt8.ofNat n) 16 = match Sp.dig (UInt8.ofNat n) with | some d => (d.toNat : Int) | none => -1 := by decide +kernel
  have := key x.toNat x.toNat_lt
  rwa [UInt8.ofNat_toNat] at this

@[go_sem high] theorem index_alpha64 (k : Nat) (h : k < 16) (w : World) : (Instr.index 9 alphaV (.int .i64 (k : Int))).run Tryd.prog w = .ok (U8 (Sp.alpha.getD k 0)) w := by
  have key : ∀ k : Nat, k < 16 → (Instr.index 9 alphaV (.int .i64 (k : Int))).run Tryd.prog w = .ok (U8 (Sp.alpha.getD k 0)) w
    | 0, _ => by kernel_rfl
    | 1, _ => by kernel_rfl
    | 2, _ => by kernel_rfl
    | 3, _ => by kernel_rfl
    | 4, _ => by kernel_rfl
    | 5, _ => by kernel_rfl
    | 6, _ => by kernel_rfl
    | 7, _ => by kernel_rfl
    | 8, _ => by kernel_rfl
    | 9, _ => by kernel_rfl
    | 10, _ => by kernel_rfl
    | 11, _ => by kernel_rfl
    | 12, _ => by kernel_rfl
    | 13, _ => by kernel_rfl
    | 14, _ => by kernel_rfl
    | 15, _ => by kernel_rfl
    | k + 16, h => absurd h (by omega)
  exact key k h
theorem index_str (s : ByteArray) (i : Nat) (h : i < s.size) (w : World) : (Instr.index 9 (.string s) (.int .i64 (i : Int))).run Tryd.prog w = .ok (U8 (s.data.toList.getD i 0)) w := by
  rw [get_list s i h]
  unfold U8 N8
  have h1 : (0 : Int) ≤ (i : Int) := by omega
  have h2 : (i : Int) < (s.size : Int) := by omega
  simp [go_sem, h1, h2, h]
@[go_sem high] theorem mul8_16 (t : TypeId) (x : UInt8) : binOp .mul t (U8 x) (.int .u8 16) = pure (U8 (x * 16)) := by
  unfold U8 N8
  rw [binOp_mul]
  show pure (Value.int .u8 (IntKind.u8.wrap _)) = _
  congr 2
@[go_sem high] theorem conv3_5 (d : UInt8) (w : World) : (convert 3 5 (.int .i64 (d.toNat : Int))).run Tryd.prog w = .ok (U8 d) w := by
  have h := d.toNat_lt
  unfold U8 N8
  have e : IntKind.u8.wrap (d.toNat : Int) = (d.toNat : Int) := by rw [wrap_u8]; omega
  generalize d.toNat = r at h e
  simp [go_sem, e]
/-- what holds at the document's Unhex's loop's head -/
structure UrInv (w : World) (s : ByteArray) (k : Nat) (wr : World) : Prop where
  res : Blk wr w.heap.size 24 (bytesV (List.replicate 32 0))
  sum : Blk wr (w.heap.size + 1) 24 (bytesV (Sp.uh s.data.toList k))
  bel : Below w.heap.size w wr
  good : Sp.good s.data.toList k

set_option maxRecDepth 100000 in
set_option maxHeartbeats 2000000 in
theorem refunhex_long (s : ByteArray) (hs : s.size = 64) (w : World) :
    Calls Tryd.prog 18 #[.string s] w fun e w' => ∃ X k b, e = .returned (.tuple #[.agg (bytesV X), .bool b]) ∧ Below w.heap.size w w' ∧ Un s.data.toList X k ∧ b = decide (k = 0) := by
  have hne : decide ((s.size : Int) = 64) = true := by simp; omega
  have hll : s.data.toList.length = 64 := hs
  have hb0 := (Below.refl w.heap.size w).alloc (Nat.le_refl _) (.cells (Array.replicate 32 (.int .u8 0)) 24)
  have hb1 := hb0.alloc hb0.size (.cells (Array.replicate 32 (.int .u8 0)) 24)
  have hr0 := (Blk.at0 w 24 (Array.replicate 32 (.int .u8 0)) (bytesV (List.replicate 32 0)) rfl).alloc (.cells (Array.replicate 32 (.int .u8 0)) 24)
  have hr1 := Blk.at1 w (.cells (Array.replicate 32 (.int .u8 0)) 24) 24 (Array.replicate 32 (.int .u8 0)) (bytesV (List.replicate 32 0)) rfl
  go_enter Tryd.func18, Tryd.ntmps18
  go_wp2_with fail
  go_loopw [5] (fun i wr => ∃ k : Nat, k ≤ 64 ∧ i = .int .i64 k ∧ UrInv w s k wr) (fun i _ => 64 - (intOf i).toNat)
  case atStart => exact ⟨0, by omega, rfl, hr0, hr1, hb1, fun j hj => by omega⟩
  case round =>
    obtain ⟨k, hk, rfl, hI⟩ := hrel
    by_cases hlt : k < 64
    · obtain ⟨x, hx⟩ : ∃ x, s.data.toList.getD k 0 = x := ⟨_, rfl⟩
      have hS0 := fun W => index_str s k (by omega) W
      rw [hx] at hS0
      replace hx := Lib.hid hx
      go_wp2
      go_loopw [7, 6] (fun q n wq => ∃ m nq : Nat, m ≤ 16 ∧ q = .int .i64 m ∧ n = .int .i64 (place x m) ∧ wq = wr.drewN nq) (fun q _ _ => 16 - (intOf q).toNat)
      case atStart => exact ⟨0, 0, by omega, rfl, rfl, rfl⟩
      case round =>
        obtain ⟨m, nq, hm, rfl, rfl, rfl⟩ := hrel
        by_cases hmt : m < 16
        · by_cases hab : Sp.alpha.getD m 0 = x
          · rw [← hab] at hS0
            go_wp2
            go_quiet (fail)
            go_wp2
            go_roundw
            case rel => exact ⟨m + 1, _, by omega, by go_num, by rw [place, if_pos hab], rfl⟩
            case measure => simp [intOf]; omega
          · have hdn : ¬ (N8 (Sp.alpha[m]?.getD 0) = N8 x) := by
              intro h
              apply hab
              rw [List.getD_eq_getElem?_getD]
              unfold N8 at h
              exact UInt8.toNat_inj.1 (by omega)
            go_wp2
            go_quiet (fail)
            go_wp2
            go_roundw
            case rel => exact ⟨m + 1, _, by omega, by go_num, by rw [place, if_neg hab], rfl⟩
            case measure => simp [intOf]; omega
        · obtain rfl : m = 16 := by omega
          clear hmt hm hS0
          rw [show ((16 : Nat) : Int) = 16 from rfl]
          rw [place_dig]
          have b0 : Blk (wr.drewN nq) w.heap.size 24 (bytesV (List.replicate 32 0)) := hI.res
          have b1 : Blk (wr.drewN nq) (w.heap.size + 1) 24 (bytesV (Sp.uh s.data.toList k)) := hI.sum
          have hbel : Below w.heap.size w (wr.drewN nq) := below_drewN hI.bel nq
          have hgood := hI.good
          clear hI
          generalize wr.drewN nq = W at *
          cases hd : Sp.dig x with
          | some d =>
            simp only []
            have hd16 := Sp.dig_lt16 hd
            have hul : (Sp.uh s.data.toList k).length = 32 := Sp.uh_length _ _
            have hm : k / 2 < 32 := by omega
            have c1 := (b1.cell (k / 2)).trans (bytesV_get _ _ (by rw [hul]; exact hm))
            have f1 := b1.frozen (k / 2)
            have hq := half k
            have hneg : decide (((d.toNat : Nat) : Int) < 0) = false := by simp
            have hb2 := b1.set_ (k / 2) (U8 ((Sp.uh s.data.toList k).getD (k / 2) 0 <<< 4 ||| d))
            rw [bytesV_set, Sp.shl_or_add _ _ hd16] at hb2
            have hg2 : Sp.good s.data.toList (k + 1) := fun j hj => by
              rcases Nat.lt_succ_iff_lt_or_eq.1 hj with hj | rfl
              · exact hgood j hj
              · rw [hx.out, hd]; rfl
            have hu2 : Sp.uh s.data.toList (k + 1) = (Sp.uh s.data.toList k).set (k / 2) ((Sp.uh s.data.toList k).getD (k / 2) 0 * 16 + d) := by
              rw [Sp.uh, hx.out, hd, ← Sp.shl_or_add _ _ hd16]; rfl
            rw [← hu2] at hb2
            clear hu2 hgood hd hd16 hul b1
            generalize (Sp.uh s.data.toList k).getD (k / 2) 0 = y at *
            generalize hk2 : k / 2 = m at *
            clear hk2
            go_wp2
            go_roundw
            case rel => exact ⟨k + 1, by omega, by go_num, b0.far (by simp) _, hb2, hbel.setCell (by simp) _, hg2⟩
            case measure => simp [intOf]; omega
          | none =>
            simp only []
            have hbad : ¬ (s.data.toList.length = 64 ∧ Sp.good s.data.toList 64) := fun hg => by
              have := hg.2 k hlt
              rw [hx.out, hd] at this
              cases this
            clear hd b1 hgood
            go_wp2_with (refine store24 rfl _ _ rfl w.heap.size rfl (bytesV (List.replicate 32 0)) rfl _ b0 (by rfl) (by rfl) (bytesV_one _) ?_)
            exact bodyPost_ret (results24_tmp rfl _ _ w.heap.size _ _ rfl (b0.setRow _) rfl rfl) rfl ⟨_, _, _, rfl, below_setRow hbel (Nat.le_refl _) _, Un.no hbad, rfl⟩
    · obtain rfl : k = 64 := by omega
      have b0 := hI.res
      have b1 := hI.sum
      have hbel := hI.bel
      have hgood := hI.good
      have hul : (bytesV (Sp.uh s.data.toList 64)).size = 32 := by rw [bytesV_size]; exact Sp.uh_length _ _
      have hun : Un s.data.toList (Sp.uh s.data.toList 64) 0 := Un.yes hll hgood
      clear hI hlt hk
      generalize Sp.uh s.data.toList 64 = X at *
      rw [show ((64 : Nat) : Int) = 64 from rfl]
      go_wp2_with (first
        | (refine load24 rfl _ rfl (w.heap.size + 1) rfl (bytesV X) b1 hul ?_)
        | (refine store24 rfl _ _ rfl w.heap.size rfl (bytesV X) rfl _ b0 (by rfl) hul (bytesV_one _) ?_))
      exact bodyPost_ret (results24_tmp rfl _ _ w.heap.size _ _ rfl (b0.setRow _) hul rfl) rfl ⟨_, _, _, rfl, below_setRow hbel (Nat.le_refl _) _, hun, rfl⟩
set_option maxRecDepth 100000 in
set_option maxHeartbeats 1000000 in
theorem refunhex_short (s : ByteArray) (hs : s.size ≠ 64) (w : World) :
    Calls Tryd.prog 18 #[.string s] w fun e w' => e = .returned (.tuple #[.agg (bytesV (List.replicate 32 0)), .bool false]) ∧ Below w.heap.size w w' := by
  have hne : decide ((s.size : Int) = 64) = false := by simp; omega
  have hb0 := (Below.refl w.heap.size w).alloc (Nat.le_refl _) (.cells (Array.replicate 32 (.int .u8 0)) 24)
  have hb1 := hb0.alloc hb0.size (.cells (Array.replicate 32 (.int .u8 0)) 24)
  have hr0 := (Blk.at0 w 24 (Array.replicate 32 (.int .u8 0)) (bytesV (List.replicate 32 0)) rfl).alloc (.cells (Array.replicate 32 (.int .u8 0)) 24)
  have hr1 := Blk.at1 w (.cells (Array.replicate 32 (.int .u8 0)) 24) 24 (Array.replicate 32 (.int .u8 0)) (bytesV (List.replicate 32 0)) rfl
  go_enter Tryd.func18, Tryd.ntmps18
  go_wp2_with (first
    | (refine load24 rfl _ rfl (w.heap.size + 1) rfl (bytesV (List.replicate 32 0)) hr1 (by rfl) ?_)
    | (refine store24 rfl _ _ rfl w.heap.size rfl (bytesV (List.replicate 32 0)) rfl _ hr0 (by rfl) (by rfl) (bytesV_one _) ?_))
  exact bodyPost_ret (results24_tmp rfl _ _ w.heap.size _ _ rfl (hr0.setRow _) rfl rfl) rfl ⟨rfl, below_setRow hb1 (Nat.le_refl _) _⟩
theorem refunhex_any (s : ByteArray) (w : World) :
    Calls Tryd.prog 18 #[.string s] w fun e w' => ∃ X k b, e = .returned (.tuple #[.agg (bytesV X), .bool b]) ∧ Below w.heap.size w w' ∧ Un s.data.toList X k ∧ b = decide (k = 0) := by
  by_cases hs : s.size = 64
  · exact refunhex_long s hs w
  · exact (refunhex_short s hs w).mono fun e w' ⟨he, hb⟩ => ⟨_, 3, _, he, hb, Un.no (fun h => hs h.1), rfl⟩
end Go.Proofs.YtljghknojbpccaaDoor
