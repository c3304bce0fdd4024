/- wal: sum, sectors. -/
import Derived.Test.YtalihocoekplgaaShaJ
set_option linter.unusedVariables false
set_option linter.unusedSimpArgs false
namespace Go.Proofs.Ytalihocoekplgaa
open Go.RowKit

def recoB : List UInt8 := [82, 69, 67, 79]
/-- What tells a record and its number. -/
def sumF (b : List UInt8) (num : Nat) : List UInt8 := (shaF (recoB ++ numB num 4 ++ b)).take 8
theorem sumF_len (b : List UInt8) (num : Nat) : (sumF b num).length = 8 := by
  unfold sumF
  rw [List.length_take, shaF_len]
  rfl
def secN (n : Nat) : Nat := (12 + n + 63) / 64
theorem WSectors_any (w : World) (A : Option Addr) (n cp : Nat) (hn : n ≤ 1000000000000) : Calls Try.prog 40 #[.slice A n cp] w fun e w' => e = .returned (.int .i64 ((secN n : Nat) : Int)) ∧ w = w' := by
  have hs : ((secN n : Nat) : Int) = (12 + (n : Int) + 63) / 64 := by unfold secN; omega
  rw [hs]
  go_enter Try.func40, Try.ntmps40
  go_wp2_with fail
  refine bodyPost_ret (results_tmp rfl _ _ _) rfl ?_
  refine ⟨?_, rfl⟩
  show Ending.returned (.int .i64 _) = Ending.returned (.int .i64 _)
  congr 2
  try omega
set_option maxRecDepth 100000 in
set_option maxHeartbeats 4000000 in
theorem WSum_any (w : World) (c : Col) (A : Option Addr) (n cp : Nat) (b : List UInt8) (num : Nat) (hn : n ≤ 1000000) (hnum : num ≤ 1000000) (hw : Wf c w) (hx : Rd kU8 w c A n cp b) :
    Calls Try.prog 48 #[.slice A n cp, .int .i64 (num : Int)] w fun e w' => ∃ A' cp', e = .returned (.slice A' 8 cp') ∧ Rd kU8 w' c A' 8 cp' (sumF b num) ∧ Below w.heap.size w w' := by
  have hbl := hx.1
  have hnu : (num : Int) % 18446744073709551616 = (num : Int) := by omega
  have hwn := Wr_new w c hw
  have HT1 := Lib.hid hwn.1
  have HW1 := Lib.hid hwn.2
  have hs1 : (w.alloc (.cells #[.slice none 0 0] 92)).heap.size = w.heap.size + 1 := by simp
  have hlit := Rd.lit (w.alloc (.cells #[.slice none 0 0] 92)) (c.set w.heap.size w.heap.size) HT1.out.wf 5 recoB (4, 5) (by decide)
  rw [hs1] at hlit
  have hconv := Lib.run_convert_bytes_const (P := Try.prog) (w.alloc (.cells #[.slice none 0 0] 92)) 23 5 #[.int .u8 82, .int .u8 69, .int .u8 67, .int .u8 79] 4 4 Try.underlying23 Try.underlying5
  rw [hs1] at hconv
  have HT2 := Lib.hid (HT1.out.alloc (.cells (bcells recoB).toArray 5 (4, 5)))
  have HW2 := Lib.hid (HW1.out.tr ((Tr.refl (fun _ => False) HT1.out.wf).alloc (.cells (bcells recoB).toArray 5 (4, 5))) (fun h => h))
  have HX := Lib.hid hx
  have HW := Lib.hid hw
  have HBL := Lib.hid hbl
  have HLIT := Lib.hid hlit
  clear hx hw hbl hlit
  clear hwn hs1
  go_enter Try.func48, Try.ntmps48
  go_wp2_with fail
  refine (Raw_any _ (c.set w.heap.size w.heap.size) w.heap.size [] recoB _ 4 4 (by decide) HT2.out.wf HW2.out HLIT.out).mono ?_
  rintro e w3 ⟨rfl, c3, q_HT3, q_HW3⟩
  have HT3 := Lib.hid q_HT3
  have HW3 := Lib.hid q_HW3
  clear q_HT3 q_HW3
  have HTw3 := Lib.hid (HT2.out.low HT3.out (Nat.le_refl _))
  go_wp2_with fail
  refine (Num_good _ c3 w.heap.size _ (num : Int) 4 (by omega) (by omega) (by omega) (by simp [recoB]) HTw3.out.wf HW3.out).mono ?_
  rintro e w4 ⟨rfl, c4, q_HT4, q_HW4⟩
  have HT4 := Lib.hid q_HT4
  have HW4 := Lib.hid q_HW4
  clear q_HT4 q_HW4
  have HTw4 := Lib.hid (HTw3.out.low HT4.out (Nat.le_refl _))
  go_wp2_with fail
  refine (Raw_any _ c4 w.heap.size _ b A n cp (by rw [HBL.out]; simp [recoB, numB_length]; omega) HTw4.out.wf HW4.out (HX.out.tr HTw4.out)).mono ?_
  rintro e w5 ⟨rfl, c5, q_HT5, q_HW5⟩
  have HT5 := Lib.hid q_HT5
  have HW5 := Lib.hid q_HW5
  clear q_HT5 q_HW5
  have HTw5 := Lib.hid (HTw4.out.low HT5.out (Nat.le_refl _))
  have HMS : Hid (([] ++ recoB ++ numB (num : Int).toNat (4 : Int).toNat ++ b : List UInt8) = recoB ++ numB num 4 ++ b) := rfl
  have hml : ([] ++ recoB ++ numB (num : Int).toNat (4 : Int).toNat ++ b : List UInt8).length = n + 8 := by
    rw [HMS.out, List.length_append, List.length_append, numB_length, HBL.out]
    show 4 + 4 + n = n + 8
    omega
  go_wp2_with fail
  refine (Bytes_any w5 c5 w.heap.size _ (by omega) HTw5.out.wf HW5.out).mono ?_
  rintro e w6 ⟨A6, n6, cp6, rfl, q_HR6, q_HB6⟩
  have HR6 := Lib.hid q_HR6
  have HB6 := Lib.hid q_HB6
  clear q_HR6 q_HB6
  have hn6 : n6 = n + 8 := by rw [← HR6.out.len]; exact hml
  subst hn6
  obtain ⟨OO, hOO⟩ : ∃ OO, bcells (shaF (recoB ++ numB num 4 ++ b)) = OO := ⟨_, rfl⟩
  have hOl : OO.length = 32 := by rw [← hOO, bcells_length, shaF_len]
  have hO1 : ∀ v ∈ OO, v.oneCell' = true := fun v hv => bcells_one (hOO ▸ hv)
  have hS := HSumB_any w6 c5 A6 (n + 8) cp6 _ (by omega) (HTw5.out.wf.below HB6.out) HR6.out
  rw [HMS.out, hOO] at hS
  have HS := Lib.hid hS
  have HOO := Lib.hid hOO
  clear hS hOO hml
  go_wp2_with fail
  refine (HS.out).mono ?_
  rintro e w7 ⟨rfl, q_HB7⟩
  have HB7 := Lib.hid q_HB7
  clear q_HB7
  have hst := run_storeCells_new (P := Try.prog) w7 108 #[.int .u8 0, .int .u8 0, .int .u8 0, .int .u8 0, .int .u8 0, .int .u8 0, .int .u8 0, .int .u8 0, .int .u8 0, .int .u8 0, .int .u8 0, .int .u8 0, .int .u8 0, .int .u8 0, .int .u8 0, .int .u8 0, .int .u8 0, .int .u8 0, .int .u8 0, .int .u8 0, .int .u8 0, .int .u8 0, .int .u8 0, .int .u8 0, .int .u8 0, .int .u8 0, .int .u8 0, .int .u8 0, .int .u8 0, .int .u8 0, .int .u8 0, .int .u8 0] OO.toArray (by simp only [List.size_toArray, hOl]; kernel_rfl) (by simp only [List.size_toArray, hOl]; rfl) (all_oneCell_toArray hO1)
  go_wp2_with fail
  refine bodyPost_ret (results_tmp rfl _ _ _) rfl ?_
  have hB := below_then (below_then (HTw5.out.below (fun _ _ h => h)) HB6.out) (below_then HB7.out (below_alloc w7 (.cells OO.toArray 108)))
  have hR := Rd.lit w7 c ((HW.out.below (below_then (HTw5.out.below (fun _ _ h => h)) HB6.out)).below HB7.out) 108 (shaF (recoB ++ numB num 4 ++ b)) (0, 0) (by rw [shaF_len]; omega)
  rw [HOO.out, shaF_len] at hR
  exact ⟨_, _, rfl, hR.take (m := 8) (by omega), hB⟩
end Go.Proofs.Ytalihocoekplgaa
