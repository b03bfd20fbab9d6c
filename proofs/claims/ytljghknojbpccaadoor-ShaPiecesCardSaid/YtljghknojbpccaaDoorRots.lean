/-
  THE WALKS OF THE ROTATIONS: math/bits.RotateLeft32, sha.rotate, nacelleref04.turn, each at the ten amounts that occur.
-/
import Derived.Test.YtljghknojbpccaaDoorWords
namespace Go.Proofs.YtljghknojbpccaaDoor
set_option linter.unusedSimpArgs false
set_option linter.unusedVariables false
open Go.RowKit

theorem rotl2 (x : UInt32) (w : World) : Calls Tryd.prog 30 #[U32 x, .int .i64 (-2)] w fun e w' => e = .returned (U32 (Sp.rot x 2)) ∧ w = w' := by
  have hb : bits BinOp.and IntKind.u64 (IntKind.u64.wrap (-2)) 31 = 30 := by kernel_rfl
  go_enter Tryd.func30, Tryd.ntmps30
  go_wp2
  go_ret
  exact ⟨congrArg (fun z => Ending.returned (U32 z)) (UInt32.or_comm _ _), rfl⟩
theorem rotate2 (x : UInt32) (w : World) : Calls Tryd.prog 29 #[U32 x, .int .i64 2] w fun e w' => e = .returned (U32 (Sp.rot x 2)) ∧ w = w' := by
  go_enter Tryd.func29, Tryd.ntmps29
  go_wp2_with (go_at_call 30; refine (rotl2 _ _).mono ?_; rintro e w' ⟨rfl, rfl⟩)
  go_ret
  exact ⟨rfl, rfl⟩
theorem turn2 (x : UInt32) (w : World) : Calls Tryd.prog 27 #[U32 x, .int .u64 2] w fun e w' => e = .returned (U32 (Sp.rot x 2)) ∧ w = w' := by
  go_enter Tryd.func27, Tryd.ntmps27
  go_wp2
  go_ret
  exact ⟨rfl, rfl⟩

theorem rotl6 (x : UInt32) (w : World) : Calls Tryd.prog 30 #[U32 x, .int .i64 (-6)] w fun e w' => e = .returned (U32 (Sp.rot x 6)) ∧ w = w' := by
  have hb : bits BinOp.and IntKind.u64 (IntKind.u64.wrap (-6)) 31 = 26 := by kernel_rfl
  go_enter Tryd.func30, Tryd.ntmps30
  go_wp2
  go_ret
  exact ⟨congrArg (fun z => Ending.returned (U32 z)) (UInt32.or_comm _ _), rfl⟩
theorem rotate6 (x : UInt32) (w : World) : Calls Tryd.prog 29 #[U32 x, .int .i64 6] w fun e w' => e = .returned (U32 (Sp.rot x 6)) ∧ w = w' := by
  go_enter Tryd.func29, Tryd.ntmps29
  go_wp2_with (go_at_call 30; refine (rotl6 _ _).mono ?_; rintro e w' ⟨rfl, rfl⟩)
  go_ret
  exact ⟨rfl, rfl⟩
theorem turn6 (x : UInt32) (w : World) : Calls Tryd.prog 27 #[U32 x, .int .u64 6] w fun e w' => e = .returned (U32 (Sp.rot x 6)) ∧ w = w' := by
  go_enter Tryd.func27, Tryd.ntmps27
  go_wp2
  go_ret
  exact ⟨rfl, rfl⟩

theorem rotl7 (x : UInt32) (w : World) : Calls Tryd.prog 30 #[U32 x, .int .i64 (-7)] w fun e w' => e = .returned (U32 (Sp.rot x 7)) ∧ w = w' := by
  have hb : bits BinOp.and IntKind.u64 (IntKind.u64.wrap (-7)) 31 = 25 := by kernel_rfl
  go_enter Tryd.func30, Tryd.ntmps30
  go_wp2
  go_ret
  exact ⟨congrArg (fun z => Ending.returned (U32 z)) (UInt32.or_comm _ _), rfl⟩
theorem rotate7 (x : UInt32) (w : World) : Calls Tryd.prog 29 #[U32 x, .int .i64 7] w fun e w' => e = .returned (U32 (Sp.rot x 7)) ∧ w = w' := by
  go_enter Tryd.func29, Tryd.ntmps29
  go_wp2_with (go_at_call 30; refine (rotl7 _ _).mono ?_; rintro e w' ⟨rfl, rfl⟩)
  go_ret
  exact ⟨rfl, rfl⟩
theorem turn7 (x : UInt32) (w : World) : Calls Tryd.prog 27 #[U32 x, .int .u64 7] w fun e w' => e = .returned (U32 (Sp.rot x 7)) ∧ w = w' := by
  go_enter Tryd.func27, Tryd.ntmps27
  go_wp2
  go_ret
  exact ⟨rfl, rfl⟩

theorem rotl11 (x : UInt32) (w : World) : Calls Tryd.prog 30 #[U32 x, .int .i64 (-11)] w fun e w' => e = .returned (U32 (Sp.rot x 11)) ∧ w = w' := by
  have hb : bits BinOp.and IntKind.u64 (IntKind.u64.wrap (-11)) 31 = 21 := by kernel_rfl
  go_enter Tryd.func30, Tryd.ntmps30
  go_wp2
  go_ret
  exact ⟨congrArg (fun z => Ending.returned (U32 z)) (UInt32.or_comm _ _), rfl⟩
theorem rotate11 (x : UInt32) (w : World) : Calls Tryd.prog 29 #[U32 x, .int .i64 11] w fun e w' => e = .returned (U32 (Sp.rot x 11)) ∧ w = w' := by
  go_enter Tryd.func29, Tryd.ntmps29
  go_wp2_with (go_at_call 30; refine (rotl11 _ _).mono ?_; rintro e w' ⟨rfl, rfl⟩)
  go_ret
  exact ⟨rfl, rfl⟩
theorem turn11 (x : UInt32) (w : World) : Calls Tryd.prog 27 #[U32 x, .int .u64 11] w fun e w' => e = .returned (U32 (Sp.rot x 11)) ∧ w = w' := by
  go_enter Tryd.func27, Tryd.ntmps27
  go_wp2
  go_ret
  exact ⟨rfl, rfl⟩

theorem rotl13 (x : UInt32) (w : World) : Calls Tryd.prog 30 #[U32 x, .int .i64 (-13)] w fun e w' => e = .returned (U32 (Sp.rot x 13)) ∧ w = w' := by
  have hb : bits BinOp.and IntKind.u64 (IntKind.u64.wrap (-13)) 31 = 19 := by kernel_rfl
  go_enter Tryd.func30, Tryd.ntmps30
  go_wp2
  go_ret
  exact ⟨congrArg (fun z => Ending.returned (U32 z)) (UInt32.or_comm _ _), rfl⟩
theorem rotate13 (x : UInt32) (w : World) : Calls Tryd.prog 29 #[U32 x, .int .i64 13] w fun e w' => e = .returned (U32 (Sp.rot x 13)) ∧ w = w' := by
  go_enter Tryd.func29, Tryd.ntmps29
  go_wp2_with (go_at_call 30; refine (rotl13 _ _).mono ?_; rintro e w' ⟨rfl, rfl⟩)
  go_ret
  exact ⟨rfl, rfl⟩
theorem turn13 (x : UInt32) (w : World) : Calls Tryd.prog 27 #[U32 x, .int .u64 13] w fun e w' => e = .returned (U32 (Sp.rot x 13)) ∧ w = w' := by
  go_enter Tryd.func27, Tryd.ntmps27
  go_wp2
  go_ret
  exact ⟨rfl, rfl⟩

theorem rotl17 (x : UInt32) (w : World) : Calls Tryd.prog 30 #[U32 x, .int .i64 (-17)] w fun e w' => e = .returned (U32 (Sp.rot x 17)) ∧ w = w' := by
  have hb : bits BinOp.and IntKind.u64 (IntKind.u64.wrap (-17)) 31 = 15 := by kernel_rfl
  go_enter Tryd.func30, Tryd.ntmps30
  go_wp2
  go_ret
  exact ⟨congrArg (fun z => Ending.returned (U32 z)) (UInt32.or_comm _ _), rfl⟩
theorem rotate17 (x : UInt32) (w : World) : Calls Tryd.prog 29 #[U32 x, .int .i64 17] w fun e w' => e = .returned (U32 (Sp.rot x 17)) ∧ w = w' := by
  go_enter Tryd.func29, Tryd.ntmps29
  go_wp2_with (go_at_call 30; refine (rotl17 _ _).mono ?_; rintro e w' ⟨rfl, rfl⟩)
  go_ret
  exact ⟨rfl, rfl⟩
theorem turn17 (x : UInt32) (w : World) : Calls Tryd.prog 27 #[U32 x, .int .u64 17] w fun e w' => e = .returned (U32 (Sp.rot x 17)) ∧ w = w' := by
  go_enter Tryd.func27, Tryd.ntmps27
  go_wp2
  go_ret
  exact ⟨rfl, rfl⟩

theorem rotl18 (x : UInt32) (w : World) : Calls Tryd.prog 30 #[U32 x, .int .i64 (-18)] w fun e w' => e = .returned (U32 (Sp.rot x 18)) ∧ w = w' := by
  have hb : bits BinOp.and IntKind.u64 (IntKind.u64.wrap (-18)) 31 = 14 := by kernel_rfl
  go_enter Tryd.func30, Tryd.ntmps30
  go_wp2
  go_ret
  exact ⟨congrArg (fun z => Ending.returned (U32 z)) (UInt32.or_comm _ _), rfl⟩
theorem rotate18 (x : UInt32) (w : World) : Calls Tryd.prog 29 #[U32 x, .int .i64 18] w fun e w' => e = .returned (U32 (Sp.rot x 18)) ∧ w = w' := by
  go_enter Tryd.func29, Tryd.ntmps29
  go_wp2_with (go_at_call 30; refine (rotl18 _ _).mono ?_; rintro e w' ⟨rfl, rfl⟩)
  go_ret
  exact ⟨rfl, rfl⟩
theorem turn18 (x : UInt32) (w : World) : Calls Tryd.prog 27 #[U32 x, .int .u64 18] w fun e w' => e = .returned (U32 (Sp.rot x 18)) ∧ w = w' := by
  go_enter Tryd.func27, Tryd.ntmps27
  go_wp2
  go_ret
  exact ⟨rfl, rfl⟩

theorem rotl19 (x : UInt32) (w : World) : Calls Tryd.prog 30 #[U32 x, .int .i64 (-19)] w fun e w' => e = .returned (U32 (Sp.rot x 19)) ∧ w = w' := by
  have hb : bits BinOp.and IntKind.u64 (IntKind.u64.wrap (-19)) 31 = 13 := by kernel_rfl
  go_enter Tryd.func30, Tryd.ntmps30
  go_wp2
  go_ret
  exact ⟨congrArg (fun z => Ending.returned (U32 z)) (UInt32.or_comm _ _), rfl⟩
theorem rotate19 (x : UInt32) (w : World) : Calls Tryd.prog 29 #[U32 x, .int .i64 19] w fun e w' => e = .returned (U32 (Sp.rot x 19)) ∧ w = w' := by
  go_enter Tryd.func29, Tryd.ntmps29
  go_wp2_with (go_at_call 30; refine (rotl19 _ _).mono ?_; rintro e w' ⟨rfl, rfl⟩)
  go_ret
  exact ⟨rfl, rfl⟩
theorem turn19 (x : UInt32) (w : World) : Calls Tryd.prog 27 #[U32 x, .int .u64 19] w fun e w' => e = .returned (U32 (Sp.rot x 19)) ∧ w = w' := by
  go_enter Tryd.func27, Tryd.ntmps27
  go_wp2
  go_ret
  exact ⟨rfl, rfl⟩

theorem rotl22 (x : UInt32) (w : World) : Calls Tryd.prog 30 #[U32 x, .int .i64 (-22)] w fun e w' => e = .returned (U32 (Sp.rot x 22)) ∧ w = w' := by
  have hb : bits BinOp.and IntKind.u64 (IntKind.u64.wrap (-22)) 31 = 10 := by kernel_rfl
  go_enter Tryd.func30, Tryd.ntmps30
  go_wp2
  go_ret
  exact ⟨congrArg (fun z => Ending.returned (U32 z)) (UInt32.or_comm _ _), rfl⟩
theorem rotate22 (x : UInt32) (w : World) : Calls Tryd.prog 29 #[U32 x, .int .i64 22] w fun e w' => e = .returned (U32 (Sp.rot x 22)) ∧ w = w' := by
  go_enter Tryd.func29, Tryd.ntmps29
  go_wp2_with (go_at_call 30; refine (rotl22 _ _).mono ?_; rintro e w' ⟨rfl, rfl⟩)
  go_ret
  exact ⟨rfl, rfl⟩
theorem turn22 (x : UInt32) (w : World) : Calls Tryd.prog 27 #[U32 x, .int .u64 22] w fun e w' => e = .returned (U32 (Sp.rot x 22)) ∧ w = w' := by
  go_enter Tryd.func27, Tryd.ntmps27
  go_wp2
  go_ret
  exact ⟨rfl, rfl⟩

theorem rotl25 (x : UInt32) (w : World) : Calls Tryd.prog 30 #[U32 x, .int .i64 (-25)] w fun e w' => e = .returned (U32 (Sp.rot x 25)) ∧ w = w' := by
  have hb : bits BinOp.and IntKind.u64 (IntKind.u64.wrap (-25)) 31 = 7 := by kernel_rfl
  go_enter Tryd.func30, Tryd.ntmps30
  go_wp2
  go_ret
  exact ⟨congrArg (fun z => Ending.returned (U32 z)) (UInt32.or_comm _ _), rfl⟩
theorem rotate25 (x : UInt32) (w : World) : Calls Tryd.prog 29 #[U32 x, .int .i64 25] w fun e w' => e = .returned (U32 (Sp.rot x 25)) ∧ w = w' := by
  go_enter Tryd.func29, Tryd.ntmps29
  go_wp2_with (go_at_call 30; refine (rotl25 _ _).mono ?_; rintro e w' ⟨rfl, rfl⟩)
  go_ret
  exact ⟨rfl, rfl⟩
theorem turn25 (x : UInt32) (w : World) : Calls Tryd.prog 27 #[U32 x, .int .u64 25] w fun e w' => e = .returned (U32 (Sp.rot x 25)) ∧ w = w' := by
  go_enter Tryd.func27, Tryd.ntmps27
  go_wp2
  go_ret
  exact ⟨rfl, rfl⟩
end Go.Proofs.YtljghknojbpccaaDoor
