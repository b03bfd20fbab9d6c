/-
  THE WALK OF THE DOCUMENT's Hex.
-/
import Derived.Test.YtljghknojbpccaaDoorRefU
namespace Go.Proofs.YtljghknojbpccaaDoor
set_option linter.unusedSimpArgs false
set_option linter.unusedVariables false
open Go.RowKit

@[go_sem high] theorem quo8_16 (t : TypeId) (x : UInt8) : binOp .quo t (U8 x) (.int .u8 16) = pure (U8 (x / 16)) := by
  unfold U8 N8
  rw [binOp_quo, UInt8.toNat_div]
  have h := x.toNat_lt
  generalize x.toNat = r at h
  have e1 : (r : Int).tdiv 16 = ((r / 16 : Nat) : Int) := rfl
  have e2 : IntKind.u8.wrap ((r : Int) / 16) = (r : Int) / 16 := by rw [wrap_u8]; omega
  have e3 : (16 : UInt8).toNat = 16 := rfl
  simp [Op.intDiv, e1, e2, e3]
@[go_sem high] theorem rem8_16 (t : TypeId) (x : UInt8) : binOp .rem t (U8 x) (.int .u8 16) = pure (U8 (x % 16)) := by
  unfold U8 N8
  rw [binOp_rem, UInt8.toNat_mod]
  have h := x.toNat_lt
  generalize x.toNat = r at h
  have e1 : (r : Int).tmod 16 = ((r % 16 : Nat) : Int) := rfl
  have e2 : IntKind.u8.wrap ((r % 16 : Nat) : Int) = ((r % 16 : Nat) : Int) := by rw [wrap_u8]; omega
  have e3 : (16 : UInt8).toNat = 16 := rfl
  simp [Op.intDiv, e1, e2, e3]
@[go_sem high] theorem add8_1 (t : TypeId) (x : UInt8) : binOp .add t (U8 x) (.int .u8 1) = pure (U8 (x + 1)) := add8 t x 1
theorem slice_alphaN (w : World) : (k : Nat) → k < 16 → (Instr.slice 9 alphaV (some (U8 (UInt8.ofNat k))) (some (U8 (UInt8.ofNat k + 1))) none).run Tryd.prog w = .ok (.string ⟨#[Sp.alpha.getD k 0]⟩) w
  | 0, _ => by kernel_rfl
  | 1, _ => by kernel_rfl
  | 2, _ => by kernel_rfl
  | 3, _ => by kernel_rfl
  | 4, _ => by kernel_rfl
  | 5, _ => by kernel_rfl
  | 6, _ => by kernel_rfl
  | 7, _ => by kernel_rfl
  | 8, _ => by kernel_rfl
  | 9, _ => by kernel_rfl
  | 10, _ => by kernel_rfl
  | 11, _ => by kernel_rfl
  | 12, _ => by kernel_rfl
  | 13, _ => by kernel_rfl
  | 14, _ => by kernel_rfl
  | 15, _ => by kernel_rfl
  | k + 16, h => absurd h (by omega)
theorem slice_alpha (y : UInt8) (h : y.toNat < 16) (w : World) : (Instr.slice 9 alphaV (some (U8 y)) (some (U8 (y + 1))) none).run Tryd.prog w = .ok (.string ⟨#[Sp.alpha.getD y.toNat 0]⟩) w := by
  have e := slice_alphaN w y.toNat h
  rw [UInt8.ofNat_toNat] at e
  exact e
theorem div16_lt (x : UInt8) : (x / 16).toNat < 16 := by
  rw [UInt8.toNat_div]
  have := x.toNat_lt
  show x.toNat / 16 < 16
  omega
theorem mod16_lt (x : UInt8) : (x % 16).toNat < 16 := by
  rw [UInt8.toNat_mod]
  show x.toNat % 16 < 16
  omega
@[go_sem high] theorem slice_hi (x : UInt8) (w : World) : (Instr.slice 9 alphaV (some (U8 (x / 16))) (some (U8 (x / 16 + 1))) none).run Tryd.prog w = .ok (.string ⟨#[Sp.alpha.getD (x / 16).toNat 0]⟩) w := slice_alpha _ (div16_lt x) w
@[go_sem high] theorem slice_lo (x : UInt8) (w : World) : (Instr.slice 9 alphaV (some (U8 (x % 16))) (some (U8 (x % 16 + 1))) none).run Tryd.prog w = .ok (.string ⟨#[Sp.alpha.getD (x % 16).toNat 0]⟩) w := slice_alpha _ (mod16_lt x) w
theorem hex2_div (x : UInt8) : [Sp.alpha.getD (x / 16).toNat 0, Sp.alpha.getD (x % 16).toNat 0] = Sp.hex2 x := by
  have key : ∀ n : Nat, n < 256 → [Sp.alpha.getD (UInt8.ofNat n / 16).toNat 0, Sp.alpha.getD (UInt8.ofNat n % 16).toNat 0] = Sp.hex2 (UInt8.ofNat n) := by decide +kernel
  have := key x.toNat x.toNat_lt
  rwa [UInt8.ofNat_toNat] at this
theorem str_snoc2 (l : List UInt8) (a b : UInt8) : (⟨l.toArray⟩ : ByteArray) ++ ((⟨#[a]⟩ : ByteArray) ++ (⟨#[b]⟩ : ByteArray)) = ⟨(l ++ [a, b]).toArray⟩ := by
  apply ByteArray.ext
  simp [ByteArray.data_append]

set_option maxRecDepth 100000 in
set_option maxHeartbeats 2000000 in
theorem refhex_any (l : List UInt8) (hl : l.length = 32) (w : World) : Calls Tryd.prog 20 #[.agg (bytesV l)] w fun e w' => e = .returned (.string ⟨(Sp.hexL l).toArray⟩) ∧ Below w.heap.size w w' := by
  have hls : (bytesV l).size = 32 := by rw [bytesV_size]; exact hl
  have hb0 := (Below.refl w.heap.size w).alloc (Nat.le_refl _) (.cells (bytesV l) 24)
  have hr0 := Blk.new w 24 (bytesV l)
  go_enter Tryd.func20, Tryd.ntmps20
  go_wp2
  go_loopw [3, 4] (fun v i wr => ∃ k nq : Nat, k ≤ 32 ∧ i = .int .i64 k ∧ v = .string ⟨(Sp.hexL (l.take k)).toArray⟩ ∧ wr = (w.alloc (.cells (bytesV l) 24)).drewN nq) (fun _ i _ => 32 - (intOf i).toNat)
  case atStart => exact ⟨0, 0, by omega, rfl, rfl, rfl⟩
  case round =>
    obtain ⟨k, nq, hk, rfl, rfl, rfl⟩ := hrel
    by_cases hlt : k < 32
    · have c1 : ((w.alloc (.cells (bytesV l) 24)).drewN nq).cell? ⟨w.heap.size, k, none⟩ = _ := (hr0.cell k).trans (bytesV_get l k (by omega))
      have htk : Sp.hexL (l.take (k + 1)) = Sp.hexL (l.take k) ++ Sp.hex2 (l.getD k 0) := by
        rw [← Sp.hexL_snoc]
        congr 1
        rw [List.take_add_one]
        simp [List.getD, show k < l.length by omega]
      rw [← hex2_div] at htk
      have hwk : ∀ m, ((w.alloc (.cells (bytesV l) 24)).drewN nq).drewN m = (w.alloc (.cells (bytesV l) 24)).drewN (nq + m) := fun m => World.drewN_drewN _ _ _
      generalize (w.alloc (.cells (bytesV l) 24)).drewN nq = W at c1 hwk ⊢
      replace hwk := Lib.hid hwk
      generalize l.getD k 0 = x at *
      have hHl : (Sp.hexL (l.take k)).length ≤ 64 := by rw [Sp.hexL_length, List.length_take]; omega
      generalize Sp.hexL (l.take k) = H at *
      have hH1 : ¬ 9223372036854775807 < H.length + 2 := by omega
      have hH2 : ¬ 9223372036854775805 < H.length := by omega
      replace htk := Lib.hid htk
      go_wp2
      go_quiet (fail)
      go_wp2
      go_roundw
      case rel => exact ⟨k + 1, _, by omega, by go_num, by rw [htk.out, ← str_snoc2]; simp [List.getD, UInt8.toNat_div, UInt8.toNat_mod], hwk.out _⟩
      case measure => simp [intOf]; omega
    · obtain rfl : k = 32 := by omega
      rw [show ((32 : Nat) : Int) = 32 from rfl, List.take_of_length_le (Nat.le_of_eq hl)]
      go_wp2
      go_ret
      exact ⟨rfl, below_drewN hb0 nq⟩
end Go.Proofs.YtljghknojbpccaaDoor
