/- sha: rotations. -/
import Derived.Test.YtalihocoekplgaaDskX
set_option linter.unusedVariables false
set_option linter.unusedSimpArgs false
namespace Go.Proofs.Ytalihocoekplgaa
open Go.RowKit

/-- To the right, round. -/
def rr (k : Nat) (x : Int) : Int := bits .or .u32 (x / 2 ^ k) (x * 2 ^ (32 - k) % 4294967296)
theorem bits_or_comm (x y : Int) : bits .or .u32 x y = bits .or .u32 y x := by
  unfold bits
  simp only [BitVec.or_comm]
theorem HRot7 (w : World) (x : Int) : Calls Try.prog 95 #[.int .u32 x, .int .i64 (-7)] w fun e w' => e = .returned (.int .u32 (rr 7 x)) ∧ w = w' := by
  have hb : bits .and .u64 (IntKind.u64.wrap (-7)) 31 = 25 := by decide
  go_enter Try.func95, Try.ntmps95
  go_wp2_with fail
  refine bodyPost_ret (results_tmp rfl _ _ _) rfl ?_
  refine ⟨?_, rfl⟩
  rw [show rr 7 x = bits .or .u32 (x * 33554432 % 4294967296) (x / 128) from bits_or_comm _ _]
  rfl
theorem RTurn7 (w : World) (x : Int) : Calls Try.prog 84 #[.int .u32 x, .int .u64 7] w fun e w' => e = .returned (.int .u32 (rr 7 x)) ∧ w = w' := by
  go_enter Try.func84, Try.ntmps84
  go_wp2_with fail
  refine bodyPost_ret (results_tmp rfl _ _ _) rfl ?_
  exact ⟨rfl, rfl⟩
theorem HRot18 (w : World) (x : Int) : Calls Try.prog 95 #[.int .u32 x, .int .i64 (-18)] w fun e w' => e = .returned (.int .u32 (rr 18 x)) ∧ w = w' := by
  have hb : bits .and .u64 (IntKind.u64.wrap (-18)) 31 = 14 := by decide
  go_enter Try.func95, Try.ntmps95
  go_wp2_with fail
  refine bodyPost_ret (results_tmp rfl _ _ _) rfl ?_
  refine ⟨?_, rfl⟩
  rw [show rr 18 x = bits .or .u32 (x * 16384 % 4294967296) (x / 262144) from bits_or_comm _ _]
  rfl
theorem RTurn18 (w : World) (x : Int) : Calls Try.prog 84 #[.int .u32 x, .int .u64 18] w fun e w' => e = .returned (.int .u32 (rr 18 x)) ∧ w = w' := by
  go_enter Try.func84, Try.ntmps84
  go_wp2_with fail
  refine bodyPost_ret (results_tmp rfl _ _ _) rfl ?_
  exact ⟨rfl, rfl⟩
theorem HRot17 (w : World) (x : Int) : Calls Try.prog 95 #[.int .u32 x, .int .i64 (-17)] w fun e w' => e = .returned (.int .u32 (rr 17 x)) ∧ w = w' := by
  have hb : bits .and .u64 (IntKind.u64.wrap (-17)) 31 = 15 := by decide
  go_enter Try.func95, Try.ntmps95
  go_wp2_with fail
  refine bodyPost_ret (results_tmp rfl _ _ _) rfl ?_
  refine ⟨?_, rfl⟩
  rw [show rr 17 x = bits .or .u32 (x * 32768 % 4294967296) (x / 131072) from bits_or_comm _ _]
  rfl
theorem RTurn17 (w : World) (x : Int) : Calls Try.prog 84 #[.int .u32 x, .int .u64 17] w fun e w' => e = .returned (.int .u32 (rr 17 x)) ∧ w = w' := by
  go_enter Try.func84, Try.ntmps84
  go_wp2_with fail
  refine bodyPost_ret (results_tmp rfl _ _ _) rfl ?_
  exact ⟨rfl, rfl⟩
theorem HRot19 (w : World) (x : Int) : Calls Try.prog 95 #[.int .u32 x, .int .i64 (-19)] w fun e w' => e = .returned (.int .u32 (rr 19 x)) ∧ w = w' := by
  have hb : bits .and .u64 (IntKind.u64.wrap (-19)) 31 = 13 := by decide
  go_enter Try.func95, Try.ntmps95
  go_wp2_with fail
  refine bodyPost_ret (results_tmp rfl _ _ _) rfl ?_
  refine ⟨?_, rfl⟩
  rw [show rr 19 x = bits .or .u32 (x * 8192 % 4294967296) (x / 524288) from bits_or_comm _ _]
  rfl
theorem RTurn19 (w : World) (x : Int) : Calls Try.prog 84 #[.int .u32 x, .int .u64 19] w fun e w' => e = .returned (.int .u32 (rr 19 x)) ∧ w = w' := by
  go_enter Try.func84, Try.ntmps84
  go_wp2_with fail
  refine bodyPost_ret (results_tmp rfl _ _ _) rfl ?_
  exact ⟨rfl, rfl⟩
theorem HRot6 (w : World) (x : Int) : Calls Try.prog 95 #[.int .u32 x, .int .i64 (-6)] w fun e w' => e = .returned (.int .u32 (rr 6 x)) ∧ w = w' := by
  have hb : bits .and .u64 (IntKind.u64.wrap (-6)) 31 = 26 := by decide
  go_enter Try.func95, Try.ntmps95
  go_wp2_with fail
  refine bodyPost_ret (results_tmp rfl _ _ _) rfl ?_
  refine ⟨?_, rfl⟩
  rw [show rr 6 x = bits .or .u32 (x * 67108864 % 4294967296) (x / 64) from bits_or_comm _ _]
  rfl
theorem RTurn6 (w : World) (x : Int) : Calls Try.prog 84 #[.int .u32 x, .int .u64 6] w fun e w' => e = .returned (.int .u32 (rr 6 x)) ∧ w = w' := by
  go_enter Try.func84, Try.ntmps84
  go_wp2_with fail
  refine bodyPost_ret (results_tmp rfl _ _ _) rfl ?_
  exact ⟨rfl, rfl⟩
theorem HRot11 (w : World) (x : Int) : Calls Try.prog 95 #[.int .u32 x, .int .i64 (-11)] w fun e w' => e = .returned (.int .u32 (rr 11 x)) ∧ w = w' := by
  have hb : bits .and .u64 (IntKind.u64.wrap (-11)) 31 = 21 := by decide
  go_enter Try.func95, Try.ntmps95
  go_wp2_with fail
  refine bodyPost_ret (results_tmp rfl _ _ _) rfl ?_
  refine ⟨?_, rfl⟩
  rw [show rr 11 x = bits .or .u32 (x * 2097152 % 4294967296) (x / 2048) from bits_or_comm _ _]
  rfl
theorem RTurn11 (w : World) (x : Int) : Calls Try.prog 84 #[.int .u32 x, .int .u64 11] w fun e w' => e = .returned (.int .u32 (rr 11 x)) ∧ w = w' := by
  go_enter Try.func84, Try.ntmps84
  go_wp2_with fail
  refine bodyPost_ret (results_tmp rfl _ _ _) rfl ?_
  exact ⟨rfl, rfl⟩
theorem HRot25 (w : World) (x : Int) : Calls Try.prog 95 #[.int .u32 x, .int .i64 (-25)] w fun e w' => e = .returned (.int .u32 (rr 25 x)) ∧ w = w' := by
  have hb : bits .and .u64 (IntKind.u64.wrap (-25)) 31 = 7 := by decide
  go_enter Try.func95, Try.ntmps95
  go_wp2_with fail
  refine bodyPost_ret (results_tmp rfl _ _ _) rfl ?_
  refine ⟨?_, rfl⟩
  rw [show rr 25 x = bits .or .u32 (x * 128 % 4294967296) (x / 33554432) from bits_or_comm _ _]
  rfl
theorem RTurn25 (w : World) (x : Int) : Calls Try.prog 84 #[.int .u32 x, .int .u64 25] w fun e w' => e = .returned (.int .u32 (rr 25 x)) ∧ w = w' := by
  go_enter Try.func84, Try.ntmps84
  go_wp2_with fail
  refine bodyPost_ret (results_tmp rfl _ _ _) rfl ?_
  exact ⟨rfl, rfl⟩
theorem HRot2 (w : World) (x : Int) : Calls Try.prog 95 #[.int .u32 x, .int .i64 (-2)] w fun e w' => e = .returned (.int .u32 (rr 2 x)) ∧ w = w' := by
  have hb : bits .and .u64 (IntKind.u64.wrap (-2)) 31 = 30 := by decide
  go_enter Try.func95, Try.ntmps95
  go_wp2_with fail
  refine bodyPost_ret (results_tmp rfl _ _ _) rfl ?_
  refine ⟨?_, rfl⟩
  rw [show rr 2 x = bits .or .u32 (x * 1073741824 % 4294967296) (x / 4) from bits_or_comm _ _]
  rfl
theorem RTurn2 (w : World) (x : Int) : Calls Try.prog 84 #[.int .u32 x, .int .u64 2] w fun e w' => e = .returned (.int .u32 (rr 2 x)) ∧ w = w' := by
  go_enter Try.func84, Try.ntmps84
  go_wp2_with fail
  refine bodyPost_ret (results_tmp rfl _ _ _) rfl ?_
  exact ⟨rfl, rfl⟩
theorem HRot13 (w : World) (x : Int) : Calls Try.prog 95 #[.int .u32 x, .int .i64 (-13)] w fun e w' => e = .returned (.int .u32 (rr 13 x)) ∧ w = w' := by
  have hb : bits .and .u64 (IntKind.u64.wrap (-13)) 31 = 19 := by decide
  go_enter Try.func95, Try.ntmps95
  go_wp2_with fail
  refine bodyPost_ret (results_tmp rfl _ _ _) rfl ?_
  refine ⟨?_, rfl⟩
  rw [show rr 13 x = bits .or .u32 (x * 524288 % 4294967296) (x / 8192) from bits_or_comm _ _]
  rfl
theorem RTurn13 (w : World) (x : Int) : Calls Try.prog 84 #[.int .u32 x, .int .u64 13] w fun e w' => e = .returned (.int .u32 (rr 13 x)) ∧ w = w' := by
  go_enter Try.func84, Try.ntmps84
  go_wp2_with fail
  refine bodyPost_ret (results_tmp rfl _ _ _) rfl ?_
  exact ⟨rfl, rfl⟩
theorem HRot22 (w : World) (x : Int) : Calls Try.prog 95 #[.int .u32 x, .int .i64 (-22)] w fun e w' => e = .returned (.int .u32 (rr 22 x)) ∧ w = w' := by
  have hb : bits .and .u64 (IntKind.u64.wrap (-22)) 31 = 10 := by decide
  go_enter Try.func95, Try.ntmps95
  go_wp2_with fail
  refine bodyPost_ret (results_tmp rfl _ _ _) rfl ?_
  refine ⟨?_, rfl⟩
  rw [show rr 22 x = bits .or .u32 (x * 1024 % 4294967296) (x / 4194304) from bits_or_comm _ _]
  rfl
theorem RTurn22 (w : World) (x : Int) : Calls Try.prog 84 #[.int .u32 x, .int .u64 22] w fun e w' => e = .returned (.int .u32 (rr 22 x)) ∧ w = w' := by
  go_enter Try.func84, Try.ntmps84
  go_wp2_with fail
  refine bodyPost_ret (results_tmp rfl _ _ _) rfl ?_
  exact ⟨rfl, rfl⟩
end Go.Proofs.Ytalihocoekplgaa
