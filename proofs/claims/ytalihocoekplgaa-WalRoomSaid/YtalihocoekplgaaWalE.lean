/- wal: Len, Used, Sync; pieces. -/
import Derived.Test.YtalihocoekplgaaWalC
set_option linter.unusedVariables false
set_option linter.unusedSimpArgs false
namespace Go.Proofs.Ytalihocoekplgaa
open Go.RowKit

theorem WLen_any (w : World) (c : Col) (gl g num used : Nat) (h : Lg w c gl g num used) : Calls Try.prog 31 #[.pointer (some ⟨gl, 0, none⟩)] w fun e w' => e = .returned (.int .i64 (num : Int)) ∧ w = w' := by
  have d1 := blk_cell1 h.2
  go_enter Try.func31, Try.ntmps31
  go_wp2_with fail
  refine bodyPost_ret (results_tmp rfl _ _ _) rfl ?_
  exact ⟨rfl, rfl⟩
theorem WLen_nil (w : World) : Calls Try.prog 31 #[.pointer none] w fun e w' => e = .returned (.int .i64 0) ∧ w = w' := by
  go_enter Try.func31, Try.ntmps31
  go_wp2_with fail
  refine bodyPost_ret (results_tmp rfl _ _ _) rfl ?_
  exact ⟨rfl, rfl⟩
theorem WUsed_any (w : World) (c : Col) (gl g num used : Nat) (h : Lg w c gl g num used) : Calls Try.prog 32 #[.pointer (some ⟨gl, 0, none⟩)] w fun e w' => e = .returned (.int .i64 (used : Int)) ∧ w = w' := by
  have d2 := blk_cell2 h.2
  go_enter Try.func32, Try.ntmps32
  go_wp2_with fail
  refine bodyPost_ret (results_tmp rfl _ _ _) rfl ?_
  exact ⟨rfl, rfl⟩
theorem WUsed_nil (w : World) : Calls Try.prog 32 #[.pointer none] w fun e w' => e = .returned (.int .i64 0) ∧ w = w' := by
  go_enter Try.func32, Try.ntmps32
  go_wp2_with fail
  refine bodyPost_ret (results_tmp rfl _ _ _) rfl ?_
  exact ⟨rfl, rfl⟩
theorem WSync_nil (w : World) : Calls Try.prog 29 #[.pointer none] w fun e w' => e = .returned (.tuple #[]) ∧ w = w' := by
  go_enter Try.func29, Try.ntmps29
  go_wp2_with fail
  go_end0
  exact ⟨rfl, rfl⟩
theorem WSync_any (w : World) (c : Col) (gl g n num used : Nat) (Y : List (List UInt8)) (D : Dt) (N : Nat) (hw : Wf c w) (hD : Dk w c g n Y D N) (h : Lg w c gl g num used) :
    Calls Try.prog 29 #[.pointer (some ⟨gl, 0, none⟩)] w fun e w' => e = .returned (.tuple #[]) ∧ ∃ c', Tr (· = g) c c' w w' ∧ Dk w' c' g n (syncY Y D) (fun _ => none) 0 := by
  have d0 := blk_cell0 h.2
  have HK := Lib.hid (KSync_any w c g n Y D N hw hD)
  go_enter Try.func29, Try.ntmps29
  go_wp2_with fail
  refine (HK.out).mono ?_
  rintro e w1 ⟨rfl, c1, q_HT1, q_HD1⟩
  have HT1 := Lib.hid q_HT1
  have HD1 := Lib.hid q_HD1
  clear q_HT1 q_HD1
  go_wp2_with fail
  go_end0
  exact ⟨rfl, c1, HT1.out, HD1.out⟩
end Go.Proofs.Ytalihocoekplgaa
