/- OperAsks: the walk. -/
import Derived.Test.YtcdapcljpkohbaaOperBack
set_option linter.unusedVariables false
set_option linter.unusedSimpArgs false
namespace Go.Proofs.Ytcdapcljpkohbaa
open Go.RowKit

theorem pure_bool {w : World} {f : FuncId} {args : Array Value} {b : Bool} (h : Calls Try.prog f args w fun e w' => e = .returned (.bool b) ∧ w = w') : Calls Try.prog f args w (BoolPost w b) := h.mono fun e w' ⟨h1, h2⟩ => ⟨h1, h2 ▸ Below.refl _ _⟩
set_option maxRecDepth 100000 in
set_option maxHeartbeats 8000000 in
theorem OperAsks_any (w : World) (x y : Req) (A : Option Addr) (n cp : Nat) (B : Option Addr) (m cq : Nat) (C : Option Addr) (k ck : Nat) (D : Option Addr) (j cj : Nat) (E : Option Addr) (l cl' : Nat) (b : List UInt8) (kx : Int)
    (hx : Rd kFld w (fun _ => none) A n cp x.p) (hy : Rd kFld w (fun _ => none) B m cq x.t) (hz : Rd kFld w (fun _ => none) C k ck y.p) (hu : Rd kFld w (fun _ => none) D j cj y.t) (hv : Rd kU8 w (fun _ => none) E l cl' b) :
    Calls Try.prog 3 #[rV x A n cp B m cq, rV y C k ck D j cj, .slice E l cl', .int .i64 kx] w (BoolPost w true) := by
  obtain ⟨cl, sq, kd, p, t, ls⟩ := x
  obtain ⟨cl2, sq2, kd2, p2, t2, ls2⟩ := y
  dsimp only at hx hy hz hu
  have hlv := hv.1
  have hmv := hv.max
  have HX := Lib.hid hx
  have HY := Lib.hid hy
  have HZ := Lib.hid hz
  have HU := Lib.hid hu
  have HV := Lib.hid hv
  have HLV := Lib.hid hlv
  clear hx hy hz hu hv hlv
  have HBX := Lib.hid (below_then (below_alloc w (.cells #[.int .i64 cl, .int .i64 sq, .int .i64 kd, .slice A n cp, .slice B m cq, .int .i64 ls] 24)) (below_alloc _ (.cells #[.int .i64 cl2, .int .i64 sq2, .int .i64 kd2, .slice C k ck, .slice D j cj, .int .i64 ls2] 24)))
  cases hf1 : fewR ⟨cl, sq, kd, p, t, ls⟩ with
  | false =>
    have HF := Lib.hid hf1
    clear hf1
    go_enter Try.func3, Try.ntmps3
    go_wp2_with fail
    refine (bool_eq HF.out (l7Few_any _ _ ⟨cl, sq, kd, p, t, ls⟩ A n cp B m cq (HX.out.below HBX.out) (HY.out.below HBX.out))).mono ?_
    rintro e w1 ⟨rfl, q_HB1⟩
    have HB1 := Lib.hid q_HB1
    clear q_HB1
    go_wp2_with fail
    refine (told7 w1).mono ?_
    rintro e w2 ⟨rfl, q_HB2⟩
    have HB2 := Lib.hid q_HB2
    clear q_HB2
    go_wp2_with fail
    refine bodyPost_ret (results_tmp rfl _ _ _) rfl ?_
    exact ⟨rfl, below_then HBX.out (below_then HB1.out HB2.out)⟩
  | true =>
  have HF := Lib.hid hf1
  clear hf1
  cases hf2 : fewR ⟨cl2, sq2, kd2, p2, t2, ls2⟩ with
  | false =>
    have HF2 := Lib.hid hf2
    clear hf2
    go_enter Try.func3, Try.ntmps3
    go_wp2_with fail
    refine (bool_eq HF.out (l7Few_any _ _ ⟨cl, sq, kd, p, t, ls⟩ A n cp B m cq (HX.out.below HBX.out) (HY.out.below HBX.out))).mono ?_
    rintro e w1 ⟨rfl, q_HB1⟩
    have HB1 := Lib.hid q_HB1
    clear q_HB1
    have z0 : w1.cell? ⟨w.heap.size + 1, 0, none⟩ = some (.int .i64 cl2) := by have := below_newcell HB1.out 0 _ rfl; simpa using this
    have z1 : w1.cell? ⟨w.heap.size + 1, 1, none⟩ = some (.int .i64 sq2) := by have := below_newcell HB1.out 1 _ rfl; simpa using this
    have z2 : w1.cell? ⟨w.heap.size + 1, 2, none⟩ = some (.int .i64 kd2) := by have := below_newcell HB1.out 2 _ rfl; simpa using this
    have z3 : w1.cell? ⟨w.heap.size + 1, 3, none⟩ = some (.slice C k ck) := by have := below_newcell HB1.out 3 _ rfl; simpa using this
    have z4 : w1.cell? ⟨w.heap.size + 1, 4, none⟩ = some (.slice D j cj) := by have := below_newcell HB1.out 4 _ rfl; simpa using this
    have z5 : w1.cell? ⟨w.heap.size + 1, 5, none⟩ = some (.int .i64 ls2) := by have := below_newcell HB1.out 5 _ rfl; simpa using this
    go_wp2_with fail
    refine (bool_eq HF2.out (l7Few_any w1 _ ⟨cl2, sq2, kd2, p2, t2, ls2⟩ C k ck D j cj (HZ.out.below (below_then HBX.out HB1.out)) (HU.out.below (below_then HBX.out HB1.out)))).mono ?_
    rintro e w2 ⟨rfl, q_HB2⟩
    have HB2 := Lib.hid q_HB2
    clear q_HB2
    clear z0 z1 z2 z3 z4 z5
    have HBB2 := Lib.hid (below_then HB1.out HB2.out)
    have HBW2 := Lib.hid (below_then HBX.out HBB2.out)
    go_wp2_with fail
    refine (told7 w2).mono ?_
    rintro e w3 ⟨rfl, q_HB3⟩
    have HB3 := Lib.hid q_HB3
    clear q_HB3
    go_wp2_with fail
    refine bodyPost_ret (results_tmp rfl _ _ _) rfl ?_
    exact ⟨rfl, below_then HBW2.out HB3.out⟩
  | true =>
  have HF2 := Lib.hid hf2
  clear hf2
  by_cases hl4 : 400 < l
  · have hlb : decide ((400 : Int) < (l : Int)) = true := by simp; omega
    go_enter Try.func3, Try.ntmps3
    go_wp2_with fail
    refine (bool_eq HF.out (l7Few_any _ _ ⟨cl, sq, kd, p, t, ls⟩ A n cp B m cq (HX.out.below HBX.out) (HY.out.below HBX.out))).mono ?_
    rintro e w1 ⟨rfl, q_HB1⟩
    have HB1 := Lib.hid q_HB1
    clear q_HB1
    have z0 : w1.cell? ⟨w.heap.size + 1, 0, none⟩ = some (.int .i64 cl2) := by have := below_newcell HB1.out 0 _ rfl; simpa using this
    have z1 : w1.cell? ⟨w.heap.size + 1, 1, none⟩ = some (.int .i64 sq2) := by have := below_newcell HB1.out 1 _ rfl; simpa using this
    have z2 : w1.cell? ⟨w.heap.size + 1, 2, none⟩ = some (.int .i64 kd2) := by have := below_newcell HB1.out 2 _ rfl; simpa using this
    have z3 : w1.cell? ⟨w.heap.size + 1, 3, none⟩ = some (.slice C k ck) := by have := below_newcell HB1.out 3 _ rfl; simpa using this
    have z4 : w1.cell? ⟨w.heap.size + 1, 4, none⟩ = some (.slice D j cj) := by have := below_newcell HB1.out 4 _ rfl; simpa using this
    have z5 : w1.cell? ⟨w.heap.size + 1, 5, none⟩ = some (.int .i64 ls2) := by have := below_newcell HB1.out 5 _ rfl; simpa using this
    go_wp2_with fail
    refine (bool_eq HF2.out (l7Few_any w1 _ ⟨cl2, sq2, kd2, p2, t2, ls2⟩ C k ck D j cj (HZ.out.below (below_then HBX.out HB1.out)) (HU.out.below (below_then HBX.out HB1.out)))).mono ?_
    rintro e w2 ⟨rfl, q_HB2⟩
    have HB2 := Lib.hid q_HB2
    clear q_HB2
    clear z0 z1 z2 z3 z4 z5
    have HBB2 := Lib.hid (below_then HB1.out HB2.out)
    have HBW2 := Lib.hid (below_then HBX.out HBB2.out)
    go_wp2_with fail
    refine (told7 w2).mono ?_
    rintro e w3 ⟨rfl, q_HB3⟩
    have HB3 := Lib.hid q_HB3
    clear q_HB3
    go_wp2_with fail
    refine bodyPost_ret (results_tmp rfl _ _ _) rfl ?_
    exact ⟨rfl, below_then HBW2.out HB3.out⟩

  have hl400 : l ≤ 400 := by omega
  have HGE := Lib.hid (reqGet_eq b (by rw [HLV.out]; omega))
  have HG1 := Lib.hid (fun (W : World) (hc : Rd kU8 W (fun _ => none) E l cl' b) => OGet_any W (fun _ => none) E l cl' b (Wf_none _) (by omega) hc)
  have HG2 := Lib.hid (fun (W : World) (hc : Rd kU8 W (fun _ => none) E l cl' b) => by have := r6GetR_any W (fun _ => none) E l cl' b (Wf_none _) (by omega) hc; rw [HGE.out] at this; exact this)
  generalize (reqGet b).1 = xr at HG1 HG2
  generalize (if (reqGet b).2 = true then (0 : Int) else 2) = vr at HG1 HG2
  clear hl4
  generalize hs : sameR ⟨cl, sq, kd, p, t, ls⟩ ⟨cl2, sq2, kd2, p2, t2, ls2⟩ = sm
  have HS := Lib.hid hs
  clear hs
  cases hm1 : mayR ⟨cl, sq, kd, p, t, ls⟩ with
  | false =>
    have HM1 := Lib.hid hm1
    clear hm1
    go_enter Try.func3, Try.ntmps3
    go_wp2_with fail
    refine (bool_eq HF.out (l7Few_any _ _ ⟨cl, sq, kd, p, t, ls⟩ A n cp B m cq (HX.out.below HBX.out) (HY.out.below HBX.out))).mono ?_
    rintro e w1 ⟨rfl, q_HB1⟩
    have HB1 := Lib.hid q_HB1
    clear q_HB1
    have z0 : w1.cell? ⟨w.heap.size + 1, 0, none⟩ = some (.int .i64 cl2) := by have := below_newcell HB1.out 0 _ rfl; simpa using this
    have z1 : w1.cell? ⟨w.heap.size + 1, 1, none⟩ = some (.int .i64 sq2) := by have := below_newcell HB1.out 1 _ rfl; simpa using this
    have z2 : w1.cell? ⟨w.heap.size + 1, 2, none⟩ = some (.int .i64 kd2) := by have := below_newcell HB1.out 2 _ rfl; simpa using this
    have z3 : w1.cell? ⟨w.heap.size + 1, 3, none⟩ = some (.slice C k ck) := by have := below_newcell HB1.out 3 _ rfl; simpa using this
    have z4 : w1.cell? ⟨w.heap.size + 1, 4, none⟩ = some (.slice D j cj) := by have := below_newcell HB1.out 4 _ rfl; simpa using this
    have z5 : w1.cell? ⟨w.heap.size + 1, 5, none⟩ = some (.int .i64 ls2) := by have := below_newcell HB1.out 5 _ rfl; simpa using this
    go_wp2_with fail
    refine (bool_eq HF2.out (l7Few_any w1 _ ⟨cl2, sq2, kd2, p2, t2, ls2⟩ C k ck D j cj (HZ.out.below (below_then HBX.out HB1.out)) (HU.out.below (below_then HBX.out HB1.out)))).mono ?_
    rintro e w2 ⟨rfl, q_HB2⟩
    have HB2 := Lib.hid q_HB2
    clear q_HB2
    clear z0 z1 z2 z3 z4 z5
    have HBB2 := Lib.hid (below_then HB1.out HB2.out)
    have HBW2 := Lib.hid (below_then HBX.out HBB2.out)
    have y0 := below_newcell2 HBB2.out 0 _ rfl
    have y1 := below_newcell2 HBB2.out 1 _ rfl
    have y2 := below_newcell2 HBB2.out 2 _ rfl
    have y3 := below_newcell2 HBB2.out 3 _ rfl
    have y4 := below_newcell2 HBB2.out 4 _ rfl
    have y5 := below_newcell2 HBB2.out 5 _ rfl
    go_wp2_with fail
    refine (bool_eq HM1.out (r6MayR_any w2 (fun _ => none) ⟨cl, sq, kd, p, t, ls⟩ A n cp B m cq (HX.out.below HBW2.out) (HY.out.below HBW2.out))).mono ?_
    rintro e w3 ⟨rfl, q_HB3⟩
    have HB3 := Lib.hid q_HB3
    clear q_HB3
    clear y0 y1 y2 y3 y4 y5
    have HBB3 := Lib.hid (below_then HBB2.out HB3.out)
    have HBW3 := Lib.hid (below_then HBX.out HBB3.out)
    have y0 := below_newcell2 HBB3.out 0 _ rfl
    have y1 := below_newcell2 HBB3.out 1 _ rfl
    have y2 := below_newcell2 HBB3.out 2 _ rfl
    have y3 := below_newcell2 HBB3.out 3 _ rfl
    have y4 := below_newcell2 HBB3.out 4 _ rfl
    have y5 := below_newcell2 HBB3.out 5 _ rfl
    go_wp2_with fail
    refine (OPut_no w3 (fun _ => none) ⟨cl, sq, kd, p, t, ls⟩ A n cp B m cq HM1.out (Wf_none _) (HX.out.below HBW3.out) (HY.out.below HBW3.out)).mono ?_
    rintro e w4 ⟨rfl, q_HB4⟩
    have HB4 := Lib.hid q_HB4
    clear q_HB4
    clear y0 y1 y2 y3 y4 y5
    have HBB4 := Lib.hid (below_then HBB3.out HB4.out)
    have HBW4 := Lib.hid (below_then HBX.out HBB4.out)
    have y0 := below_newcell2 HBB4.out 0 _ rfl
    have y1 := below_newcell2 HBB4.out 1 _ rfl
    have y2 := below_newcell2 HBB4.out 2 _ rfl
    have y3 := below_newcell2 HBB4.out 3 _ rfl
    have y4 := below_newcell2 HBB4.out 4 _ rfl
    have y5 := below_newcell2 HBB4.out 5 _ rfl
    go_wp2_with fail
    refine (bool_eq HM1.out (OMay_any w4 (fun _ => none) ⟨cl, sq, kd, p, t, ls⟩ A n cp B m cq (HX.out.below HBW4.out) (HY.out.below HBW4.out))).mono ?_
    rintro e w5 ⟨rfl, q_HB5⟩
    have HB5 := Lib.hid q_HB5
    clear q_HB5
    clear y0 y1 y2 y3 y4 y5
    have HBB5 := Lib.hid (below_then HBB4.out HB5.out)
    have HBWt := Lib.hid (below_then HBX.out HBB5.out)
    go_wp2_with fail
    refine (HG1.out w5 (HV.out.below HBWt.out)).mono ?_
    rintro e w7 ⟨A7, n7, cp7, B7, m7, cq7, rfl, q_HX7, q_HY7, q_HB7⟩
    have HX7 := Lib.hid q_HX7
    have HY7 := Lib.hid q_HY7
    have HB7 := Lib.hid q_HB7
    clear q_HX7 q_HY7 q_HB7
    have hB7 := below_then HB7.out (below_alloc _ (.cells #[.int .i64 xr.client, .int .i64 xr.seq, .int .i64 xr.kind, .slice A7 n7 cp7, .slice B7 m7 cq7, .int .i64 xr.lease] 24))
    have HBB7 := Lib.hid (below_then HBB5.out hB7)
    clear hB7
    go_wp2_with fail
    refine (HG2.out _ (HV.out.below (below_then HBX.out HBB7.out))).mono ?_
    rintro e w8 ⟨A8, n8, cp8, B8, m8, cq8, rfl, q_HX8, q_HY8, q_HB8⟩
    have HX8 := Lib.hid q_HX8
    have HY8 := Lib.hid q_HY8
    have HB8 := Lib.hid q_HB8
    clear q_HX8 q_HY8 q_HB8
    have u0 := below_newcell HB8.out 0 _ rfl
    have u1 := below_newcell HB8.out 1 _ rfl
    have u2 := below_newcell HB8.out 2 _ rfl
    have u3 := below_newcell HB8.out 3 _ rfl
    have u4 := below_newcell HB8.out 4 _ rfl
    have u5 := below_newcell HB8.out 5 _ rfl
    have hlt7 : w7.heap.size < w8.heap.size := by have := HB8.out.size; simp at this; omega
    go_upto_region 9 with fail
    have hB8 := below_then HB8.out (below_alloc _ (.cells #[.int .i64 xr.client, .int .i64 xr.seq, .int .i64 xr.kind, .slice A8 n8 cp8, .slice B8 m8 cq8, .int .i64 xr.lease] 24))
    have hBa8 := below_alloc w8 (.cells #[.int .i64 xr.client, .int .i64 xr.seq, .int .i64 xr.kind, .slice A8 n8 cp8, .slice B8 m8 cq8, .int .i64 xr.lease] 24)
    have r0 := ((below_alloc w8 (.cells #[.int .i64 xr.client, .int .i64 xr.seq, .int .i64 xr.kind, .slice A8 n8 cp8, .slice B8 m8 cq8, .int .i64 xr.lease] 24)).cell (p := ⟨w7.heap.size, 0, none⟩) hlt7).trans u0
    have r1 := ((below_alloc w8 (.cells #[.int .i64 xr.client, .int .i64 xr.seq, .int .i64 xr.kind, .slice A8 n8 cp8, .slice B8 m8 cq8, .int .i64 xr.lease] 24)).cell (p := ⟨w7.heap.size, 1, none⟩) hlt7).trans u1
    have r2 := ((below_alloc w8 (.cells #[.int .i64 xr.client, .int .i64 xr.seq, .int .i64 xr.kind, .slice A8 n8 cp8, .slice B8 m8 cq8, .int .i64 xr.lease] 24)).cell (p := ⟨w7.heap.size, 2, none⟩) hlt7).trans u2
    have r3 := ((below_alloc w8 (.cells #[.int .i64 xr.client, .int .i64 xr.seq, .int .i64 xr.kind, .slice A8 n8 cp8, .slice B8 m8 cq8, .int .i64 xr.lease] 24)).cell (p := ⟨w7.heap.size, 3, none⟩) hlt7).trans u3
    have r4 := ((below_alloc w8 (.cells #[.int .i64 xr.client, .int .i64 xr.seq, .int .i64 xr.kind, .slice A8 n8 cp8, .slice B8 m8 cq8, .int .i64 xr.lease] 24)).cell (p := ⟨w7.heap.size, 4, none⟩) hlt7).trans u4
    have r5 := ((below_alloc w8 (.cells #[.int .i64 xr.client, .int .i64 xr.seq, .int .i64 xr.kind, .slice A8 n8 cp8, .slice B8 m8 cq8, .int .i64 xr.lease] 24)).cell (p := ⟨w7.heap.size, 5, none⟩) hlt7).trans u5
    have s0 := blk_cell (heap_alloc_new w8 (.cells #[.int .i64 xr.client, .int .i64 xr.seq, .int .i64 xr.kind, .slice A8 n8 cp8, .slice B8 m8 cq8, .int .i64 xr.lease] 24)) 0
    have s1 := blk_cell (heap_alloc_new w8 (.cells #[.int .i64 xr.client, .int .i64 xr.seq, .int .i64 xr.kind, .slice A8 n8 cp8, .slice B8 m8 cq8, .int .i64 xr.lease] 24)) 1
    have s2 := blk_cell (heap_alloc_new w8 (.cells #[.int .i64 xr.client, .int .i64 xr.seq, .int .i64 xr.kind, .slice A8 n8 cp8, .slice B8 m8 cq8, .int .i64 xr.lease] 24)) 2
    have s3 := blk_cell (heap_alloc_new w8 (.cells #[.int .i64 xr.client, .int .i64 xr.seq, .int .i64 xr.kind, .slice A8 n8 cp8, .slice B8 m8 cq8, .int .i64 xr.lease] 24)) 3
    have s4 := blk_cell (heap_alloc_new w8 (.cells #[.int .i64 xr.client, .int .i64 xr.seq, .int .i64 xr.kind, .slice A8 n8 cp8, .slice B8 m8 cq8, .int .i64 xr.lease] 24)) 4
    have s5 := blk_cell (heap_alloc_new w8 (.cells #[.int .i64 xr.client, .int .i64 xr.seq, .int .i64 xr.kind, .slice A8 n8 cp8, .slice B8 m8 cq8, .int .i64 xr.lease] 24)) 5
    generalize hW8 : World.alloc w8 (.cells #[.int .i64 xr.client, .int .i64 xr.seq, .int .i64 xr.kind, .slice A8 n8 cp8, .slice B8 m8 cq8, .int .i64 xr.lease] 24) = W8 at hB8 hBa8 r0 s0 r1 s1 r2 s2 r3 s3 r4 s4 r5 s5
    clear hW8 u0 u1 u2 u3 u4 u5 hlt7
    have HB8' := Lib.hid hB8
    have HBa8 := Lib.hid hBa8
    have HBB8 := Lib.hid (below_then HBB7.out hB8)
    clear hB8 hBa8
    have HBW8 := Lib.hid (below_then HBX.out HBB8.out)
    have y0 := below_newcell2 HBB8.out 0 _ rfl
    have y1 := below_newcell2 HBB8.out 1 _ rfl
    have y2 := below_newcell2 HBB8.out 2 _ rfl
    have y3 := below_newcell2 HBB8.out 3 _ rfl
    have y4 := below_newcell2 HBB8.out 4 _ rfl
    have y5 := below_newcell2 HBB8.out 5 _ rfl
    have z0 : W8.cell? ⟨w.heap.size + 1, 0, none⟩ = some (.int .i64 cl2) := by have := below_newcell HBB8.out 0 _ rfl; simpa using this
    have z1 : W8.cell? ⟨w.heap.size + 1, 1, none⟩ = some (.int .i64 sq2) := by have := below_newcell HBB8.out 1 _ rfl; simpa using this
    have z2 : W8.cell? ⟨w.heap.size + 1, 2, none⟩ = some (.int .i64 kd2) := by have := below_newcell HBB8.out 2 _ rfl; simpa using this
    have z3 : W8.cell? ⟨w.heap.size + 1, 3, none⟩ = some (.slice C k ck) := by have := below_newcell HBB8.out 3 _ rfl; simpa using this
    have z4 : W8.cell? ⟨w.heap.size + 1, 4, none⟩ = some (.slice D j cj) := by have := below_newcell HBB8.out 4 _ rfl; simpa using this
    have z5 : W8.cell? ⟨w.heap.size + 1, 5, none⟩ = some (.int .i64 ls2) := by have := below_newcell HBB8.out 5 _ rfl; simpa using this
    have xx0 := cell_regrown y0
    have zz0 := cell_regrown z0
    have rr0 := cell_regrown r0
    have ss0 := cell_regrown s0
    have xx1 := cell_regrown y1
    have zz1 := cell_regrown z1
    have rr1 := cell_regrown r1
    have ss1 := cell_regrown s1
    have xx2 := cell_regrown y2
    have zz2 := cell_regrown z2
    have rr2 := cell_regrown r2
    have ss2 := cell_regrown s2
    have xx3 := cell_regrown y3
    have zz3 := cell_regrown z3
    have rr3 := cell_regrown r3
    have ss3 := cell_regrown s3
    have xx4 := cell_regrown y4
    have zz4 := cell_regrown z4
    have rr4 := cell_regrown r4
    have ss4 := cell_regrown s4
    have xx5 := cell_regrown y5
    have zz5 := cell_regrown z5
    have rr5 := cell_regrown r5
    have ss5 := cell_regrown s5
    clear y0 y1 y2 y3 y4 y5 z0 z1 z2 z3 z4 z5 r0 s0 r1 s1 r2 s2 r3 s3 r4 s4 r5 s5
    have C0 := Lib.hid (fun d os => told7 (Sort.grow (redrawn W8 d) os))
    have C1 : Hid (∀ d os, Calls Try.prog 16 #[rV xr A7 n7 cp7 B7 m7 cq7, rV xr A8 n8 cp8 B8 m8 cq8] (Sort.grow (redrawn W8 d) os) (BoolPost (Sort.grow (redrawn W8 d) os) true)) := fun d os =>
      bool_eq (sameR_iff.2 rfl) (r6SameR_any _ (fun _ => none) xr xr A7 n7 cp7 B7 m7 cq7 A8 n8 cp8 B8 m8 cq8 (HX7.out.below (below_then (below_then (below_alloc _ _) HB8'.out) (below_regrown W8 d os))) (HY7.out.below (below_then (below_then (below_alloc _ _) HB8'.out) (below_regrown W8 d os))) (HX8.out.below (below_then HBa8.out (below_regrown W8 d os))) (HY8.out.below (below_then HBa8.out (below_regrown W8 d os))))
    have C2 : Hid (∀ d os, Calls Try.prog 17 #[rV ⟨cl, sq, kd, p, t, ls⟩ A n cp B m cq, rV ⟨cl2, sq2, kd2, p2, t2, ls2⟩ C k ck D j cj] (Sort.grow (redrawn W8 d) os) (BoolPost (Sort.grow (redrawn W8 d) os) sm)) := fun d os =>
      bool_eq HS.out (OSame_any _ (fun _ => none) ⟨cl, sq, kd, p, t, ls⟩ ⟨cl2, sq2, kd2, p2, t2, ls2⟩ A n cp B m cq C k ck D j cj (HX.out.below (below_then HBW8.out (below_regrown W8 d os))) (HY.out.below (below_then HBW8.out (below_regrown W8 d os))) (HZ.out.below (below_then HBW8.out (below_regrown W8 d os))) (HU.out.below (below_then HBW8.out (below_regrown W8 d os))))
    have C3 : Hid (∀ d os, Calls Try.prog 16 #[rV ⟨cl, sq, kd, p, t, ls⟩ A n cp B m cq, rV ⟨cl2, sq2, kd2, p2, t2, ls2⟩ C k ck D j cj] (Sort.grow (redrawn W8 d) os) (BoolPost (Sort.grow (redrawn W8 d) os) sm)) := fun d os =>
      bool_eq HS.out (r6SameR_any _ (fun _ => none) ⟨cl, sq, kd, p, t, ls⟩ ⟨cl2, sq2, kd2, p2, t2, ls2⟩ A n cp B m cq C k ck D j cj (HX.out.below (below_then HBW8.out (below_regrown W8 d os))) (HY.out.below (below_then HBW8.out (below_regrown W8 d os))) (HZ.out.below (below_then HBW8.out (below_regrown W8 d os))) (HU.out.below (below_then HBW8.out (below_regrown W8 d os))))
    have C4 : Hid (∀ d os, Calls Try.prog 17 #[rV ⟨cl, sq, kd, p, t, ls⟩ A n cp B m cq, rV ⟨cl, sq, kd, p, t, ls⟩ A n cp B m cq] (Sort.grow (redrawn W8 d) os) (BoolPost (Sort.grow (redrawn W8 d) os) true)) := fun d os =>
      bool_eq (sameR_iff.2 rfl) (OSame_any _ (fun _ => none) ⟨cl, sq, kd, p, t, ls⟩ ⟨cl, sq, kd, p, t, ls⟩ A n cp B m cq A n cp B m cq (HX.out.below (below_then HBW8.out (below_regrown W8 d os))) (HY.out.below (below_then HBW8.out (below_regrown W8 d os))) (HX.out.below (below_then HBW8.out (below_regrown W8 d os))) (HY.out.below (below_then HBW8.out (below_regrown W8 d os))))
    have C5 := Lib.hid (fun d os => pure_bool (OReads_any (Sort.grow (redrawn W8 d) os) kx))
    have C6 := Lib.hid (fun d os => pure_bool (r6Reads_any (Sort.grow (redrawn W8 d) os) kx))
    have C7 := Lib.hid (fun d os => pure_bool (OWrites_any (Sort.grow (redrawn W8 d) os) kx))
    have C8 := Lib.hid (fun d os => pure_bool (r6Writes_any (Sort.grow (redrawn W8 d) os) kx))
    generalize readsB kx = rb at C5 C6
    generalize writesB kx = wb at C7 C8
    refine wp_region_quiet_below (by kernel_rfl) (by kernel_rfl) ?_
    repeat ((with_reducible refine wpQuiet_step (fun K hK => ?_)); go_simp; first | (with_reducible refine hK _ ?_; clear hK K) | (rw [if_neg (by decide)]; with_reducible refine hK _ ?_; clear hK K) | (apply Exists.intro; refine ⟨fun _ => ?_, hK _ ?_⟩; (first | with_reducible exact regrown_bool (C0.out _ _) | with_reducible exact regrown_bool (C1.out _ _) | with_reducible exact regrown_bool (C2.out _ _) | with_reducible exact regrown_bool (C3.out _ _) | with_reducible exact regrown_bool (C4.out _ _) | with_reducible exact regrown_bool (C5.out _ _) | with_reducible exact regrown_bool (C6.out _ _) | with_reducible exact regrown_bool (C7.out _ _) | with_reducible exact regrown_bool (C8.out _ _)); clear hK K))
    with_reducible refine wpQuiet_nil ?_
    intro _ hw'
    obtain ⟨⟨dq, osq⟩, hw''⟩ := hw'
    subst hw''
    go_wp2_with fail
    go_ret
    exact ⟨rfl, below_then HBW8.out (below_regrown W8 dq osq)⟩
  | true =>
    have HM1 := Lib.hid hm1
    clear hm1
    go_enter Try.func3, Try.ntmps3
    go_wp2_with fail
    refine (bool_eq HF.out (l7Few_any _ _ ⟨cl, sq, kd, p, t, ls⟩ A n cp B m cq (HX.out.below HBX.out) (HY.out.below HBX.out))).mono ?_
    rintro e w1 ⟨rfl, q_HB1⟩
    have HB1 := Lib.hid q_HB1
    clear q_HB1
    have z0 : w1.cell? ⟨w.heap.size + 1, 0, none⟩ = some (.int .i64 cl2) := by have := below_newcell HB1.out 0 _ rfl; simpa using this
    have z1 : w1.cell? ⟨w.heap.size + 1, 1, none⟩ = some (.int .i64 sq2) := by have := below_newcell HB1.out 1 _ rfl; simpa using this
    have z2 : w1.cell? ⟨w.heap.size + 1, 2, none⟩ = some (.int .i64 kd2) := by have := below_newcell HB1.out 2 _ rfl; simpa using this
    have z3 : w1.cell? ⟨w.heap.size + 1, 3, none⟩ = some (.slice C k ck) := by have := below_newcell HB1.out 3 _ rfl; simpa using this
    have z4 : w1.cell? ⟨w.heap.size + 1, 4, none⟩ = some (.slice D j cj) := by have := below_newcell HB1.out 4 _ rfl; simpa using this
    have z5 : w1.cell? ⟨w.heap.size + 1, 5, none⟩ = some (.int .i64 ls2) := by have := below_newcell HB1.out 5 _ rfl; simpa using this
    go_wp2_with fail
    refine (bool_eq HF2.out (l7Few_any w1 _ ⟨cl2, sq2, kd2, p2, t2, ls2⟩ C k ck D j cj (HZ.out.below (below_then HBX.out HB1.out)) (HU.out.below (below_then HBX.out HB1.out)))).mono ?_
    rintro e w2 ⟨rfl, q_HB2⟩
    have HB2 := Lib.hid q_HB2
    clear q_HB2
    clear z0 z1 z2 z3 z4 z5
    have HBB2 := Lib.hid (below_then HB1.out HB2.out)
    have HBW2 := Lib.hid (below_then HBX.out HBB2.out)
    have y0 := below_newcell2 HBB2.out 0 _ rfl
    have y1 := below_newcell2 HBB2.out 1 _ rfl
    have y2 := below_newcell2 HBB2.out 2 _ rfl
    have y3 := below_newcell2 HBB2.out 3 _ rfl
    have y4 := below_newcell2 HBB2.out 4 _ rfl
    have y5 := below_newcell2 HBB2.out 5 _ rfl
    go_wp2_with fail
    refine (bool_eq HM1.out (r6MayR_any w2 (fun _ => none) ⟨cl, sq, kd, p, t, ls⟩ A n cp B m cq (HX.out.below HBW2.out) (HY.out.below HBW2.out))).mono ?_
    rintro e w3 ⟨rfl, q_HB3⟩
    have HB3 := Lib.hid q_HB3
    clear q_HB3
    clear y0 y1 y2 y3 y4 y5
    have HBB3 := Lib.hid (below_then HBB2.out HB3.out)
    have HBW3 := Lib.hid (below_then HBX.out HBB3.out)
    have y0 := below_newcell2 HBB3.out 0 _ rfl
    have y1 := below_newcell2 HBB3.out 1 _ rfl
    have y2 := below_newcell2 HBB3.out 2 _ rfl
    have y3 := below_newcell2 HBB3.out 3 _ rfl
    have y4 := below_newcell2 HBB3.out 4 _ rfl
    have y5 := below_newcell2 HBB3.out 5 _ rfl
    go_wp2_with fail
    refine (OPut_yes w3 (fun _ => none) ⟨cl, sq, kd, p, t, ls⟩ A n cp B m cq HM1.out (Wf_none _) (HX.out.below HBW3.out) (HY.out.below HBW3.out)).mono ?_
    rintro e w4 ⟨A4, n4, cp4, rfl, q_HO4, q_HB4⟩
    have HO4 := Lib.hid q_HO4
    have HB4 := Lib.hid q_HB4
    clear q_HO4 q_HB4
    clear y0 y1 y2 y3 y4 y5
    have HA4 := Lib.hid (own_rd (c := fun _ => none) HO4.out (Wf_none _))
    have HBB4 := Lib.hid (below_then HBB3.out HB4.out)
    have HBW4 := Lib.hid (below_then HBX.out HBB4.out)
    have y0 := below_newcell2 HBB4.out 0 _ rfl
    have y1 := below_newcell2 HBB4.out 1 _ rfl
    have y2 := below_newcell2 HBB4.out 2 _ rfl
    have y3 := below_newcell2 HBB4.out 3 _ rfl
    have y4 := below_newcell2 HBB4.out 4 _ rfl
    have y5 := below_newcell2 HBB4.out 5 _ rfl
    go_wp2_with fail
    refine (bool_eq HM1.out (OMay_any w4 (fun _ => none) ⟨cl, sq, kd, p, t, ls⟩ A n cp B m cq (HX.out.below HBW4.out) (HY.out.below HBW4.out))).mono ?_
    rintro e w5 ⟨rfl, q_HB5⟩
    have HB5 := Lib.hid q_HB5
    clear q_HB5
    clear y0 y1 y2 y3 y4 y5
    have HBB5 := Lib.hid (below_then HBB4.out HB5.out)
    have HBW5 := Lib.hid (below_then HBX.out HBB5.out)
    have y0 := below_newcell2 HBB5.out 0 _ rfl
    have y1 := below_newcell2 HBB5.out 1 _ rfl
    have y2 := below_newcell2 HBB5.out 2 _ rfl
    have y3 := below_newcell2 HBB5.out 3 _ rfl
    have y4 := below_newcell2 HBB5.out 4 _ rfl
    have y5 := below_newcell2 HBB5.out 5 _ rfl
    go_wp2_with fail
    refine (r6PutR_any w5 (fun _ => none) ⟨cl, sq, kd, p, t, ls⟩ A n cp B m cq HM1.out (Wf_none _) (HX.out.below HBW5.out) (HY.out.below HBW5.out)).mono ?_
    rintro e w6 ⟨A6, n6, cp6, rfl, q_HO6, q_HB6⟩
    have HO6 := Lib.hid q_HO6
    have HB6 := Lib.hid q_HB6
    clear q_HO6 q_HB6
    clear y0 y1 y2 y3 y4 y5
    have HA6 := Lib.hid (own_rd (c := fun _ => none) HO6.out (Wf_none _))
    have HBB6 := Lib.hid (below_then HBB5.out HB6.out)
    go_wp2_with fail
    refine (Same_eq (b := true) (by simp) (HA4.out.below (below_then HB5.out HB6.out)) HA6.out).mono ?_
    rintro e w66 ⟨rfl, q_HE66⟩
    have HE66 := Lib.hid q_HE66
    clear q_HE66
    obtain rfl := HE66.out
    have HBWt := Lib.hid (below_then HBX.out HBB6.out)
    go_wp2_with fail
    refine (HG1.out w6 (HV.out.below HBWt.out)).mono ?_
    rintro e w7 ⟨A7, n7, cp7, B7, m7, cq7, rfl, q_HX7, q_HY7, q_HB7⟩
    have HX7 := Lib.hid q_HX7
    have HY7 := Lib.hid q_HY7
    have HB7 := Lib.hid q_HB7
    clear q_HX7 q_HY7 q_HB7
    have hB7 := below_then HB7.out (below_alloc _ (.cells #[.int .i64 xr.client, .int .i64 xr.seq, .int .i64 xr.kind, .slice A7 n7 cp7, .slice B7 m7 cq7, .int .i64 xr.lease] 24))
    have HBB7 := Lib.hid (below_then HBB6.out hB7)
    clear hB7
    go_wp2_with fail
    refine (HG2.out _ (HV.out.below (below_then HBX.out HBB7.out))).mono ?_
    rintro e w8 ⟨A8, n8, cp8, B8, m8, cq8, rfl, q_HX8, q_HY8, q_HB8⟩
    have HX8 := Lib.hid q_HX8
    have HY8 := Lib.hid q_HY8
    have HB8 := Lib.hid q_HB8
    clear q_HX8 q_HY8 q_HB8
    have u0 := below_newcell HB8.out 0 _ rfl
    have u1 := below_newcell HB8.out 1 _ rfl
    have u2 := below_newcell HB8.out 2 _ rfl
    have u3 := below_newcell HB8.out 3 _ rfl
    have u4 := below_newcell HB8.out 4 _ rfl
    have u5 := below_newcell HB8.out 5 _ rfl
    have hlt7 : w7.heap.size < w8.heap.size := by have := HB8.out.size; simp at this; omega
    go_upto_region 9 with fail
    have hB8 := below_then HB8.out (below_alloc _ (.cells #[.int .i64 xr.client, .int .i64 xr.seq, .int .i64 xr.kind, .slice A8 n8 cp8, .slice B8 m8 cq8, .int .i64 xr.lease] 24))
    have hBa8 := below_alloc w8 (.cells #[.int .i64 xr.client, .int .i64 xr.seq, .int .i64 xr.kind, .slice A8 n8 cp8, .slice B8 m8 cq8, .int .i64 xr.lease] 24)
    have r0 := ((below_alloc w8 (.cells #[.int .i64 xr.client, .int .i64 xr.seq, .int .i64 xr.kind, .slice A8 n8 cp8, .slice B8 m8 cq8, .int .i64 xr.lease] 24)).cell (p := ⟨w7.heap.size, 0, none⟩) hlt7).trans u0
    have r1 := ((below_alloc w8 (.cells #[.int .i64 xr.client, .int .i64 xr.seq, .int .i64 xr.kind, .slice A8 n8 cp8, .slice B8 m8 cq8, .int .i64 xr.lease] 24)).cell (p := ⟨w7.heap.size, 1, none⟩) hlt7).trans u1
    have r2 := ((below_alloc w8 (.cells #[.int .i64 xr.client, .int .i64 xr.seq, .int .i64 xr.kind, .slice A8 n8 cp8, .slice B8 m8 cq8, .int .i64 xr.lease] 24)).cell (p := ⟨w7.heap.size, 2, none⟩) hlt7).trans u2
    have r3 := ((below_alloc w8 (.cells #[.int .i64 xr.client, .int .i64 xr.seq, .int .i64 xr.kind, .slice A8 n8 cp8, .slice B8 m8 cq8, .int .i64 xr.lease] 24)).cell (p := ⟨w7.heap.size, 3, none⟩) hlt7).trans u3
    have r4 := ((below_alloc w8 (.cells #[.int .i64 xr.client, .int .i64 xr.seq, .int .i64 xr.kind, .slice A8 n8 cp8, .slice B8 m8 cq8, .int .i64 xr.lease] 24)).cell (p := ⟨w7.heap.size, 4, none⟩) hlt7).trans u4
    have r5 := ((below_alloc w8 (.cells #[.int .i64 xr.client, .int .i64 xr.seq, .int .i64 xr.kind, .slice A8 n8 cp8, .slice B8 m8 cq8, .int .i64 xr.lease] 24)).cell (p := ⟨w7.heap.size, 5, none⟩) hlt7).trans u5
    have s0 := blk_cell (heap_alloc_new w8 (.cells #[.int .i64 xr.client, .int .i64 xr.seq, .int .i64 xr.kind, .slice A8 n8 cp8, .slice B8 m8 cq8, .int .i64 xr.lease] 24)) 0
    have s1 := blk_cell (heap_alloc_new w8 (.cells #[.int .i64 xr.client, .int .i64 xr.seq, .int .i64 xr.kind, .slice A8 n8 cp8, .slice B8 m8 cq8, .int .i64 xr.lease] 24)) 1
    have s2 := blk_cell (heap_alloc_new w8 (.cells #[.int .i64 xr.client, .int .i64 xr.seq, .int .i64 xr.kind, .slice A8 n8 cp8, .slice B8 m8 cq8, .int .i64 xr.lease] 24)) 2
    have s3 := blk_cell (heap_alloc_new w8 (.cells #[.int .i64 xr.client, .int .i64 xr.seq, .int .i64 xr.kind, .slice A8 n8 cp8, .slice B8 m8 cq8, .int .i64 xr.lease] 24)) 3
    have s4 := blk_cell (heap_alloc_new w8 (.cells #[.int .i64 xr.client, .int .i64 xr.seq, .int .i64 xr.kind, .slice A8 n8 cp8, .slice B8 m8 cq8, .int .i64 xr.lease] 24)) 4
    have s5 := blk_cell (heap_alloc_new w8 (.cells #[.int .i64 xr.client, .int .i64 xr.seq, .int .i64 xr.kind, .slice A8 n8 cp8, .slice B8 m8 cq8, .int .i64 xr.lease] 24)) 5
    generalize hW8 : World.alloc w8 (.cells #[.int .i64 xr.client, .int .i64 xr.seq, .int .i64 xr.kind, .slice A8 n8 cp8, .slice B8 m8 cq8, .int .i64 xr.lease] 24) = W8 at hB8 hBa8 r0 s0 r1 s1 r2 s2 r3 s3 r4 s4 r5 s5
    clear hW8 u0 u1 u2 u3 u4 u5 hlt7
    have HB8' := Lib.hid hB8
    have HBa8 := Lib.hid hBa8
    have HBB8 := Lib.hid (below_then HBB7.out hB8)
    clear hB8 hBa8
    have HBW8 := Lib.hid (below_then HBX.out HBB8.out)
    have y0 := below_newcell2 HBB8.out 0 _ rfl
    have y1 := below_newcell2 HBB8.out 1 _ rfl
    have y2 := below_newcell2 HBB8.out 2 _ rfl
    have y3 := below_newcell2 HBB8.out 3 _ rfl
    have y4 := below_newcell2 HBB8.out 4 _ rfl
    have y5 := below_newcell2 HBB8.out 5 _ rfl
    have z0 : W8.cell? ⟨w.heap.size + 1, 0, none⟩ = some (.int .i64 cl2) := by have := below_newcell HBB8.out 0 _ rfl; simpa using this
    have z1 : W8.cell? ⟨w.heap.size + 1, 1, none⟩ = some (.int .i64 sq2) := by have := below_newcell HBB8.out 1 _ rfl; simpa using this
    have z2 : W8.cell? ⟨w.heap.size + 1, 2, none⟩ = some (.int .i64 kd2) := by have := below_newcell HBB8.out 2 _ rfl; simpa using this
    have z3 : W8.cell? ⟨w.heap.size + 1, 3, none⟩ = some (.slice C k ck) := by have := below_newcell HBB8.out 3 _ rfl; simpa using this
    have z4 : W8.cell? ⟨w.heap.size + 1, 4, none⟩ = some (.slice D j cj) := by have := below_newcell HBB8.out 4 _ rfl; simpa using this
    have z5 : W8.cell? ⟨w.heap.size + 1, 5, none⟩ = some (.int .i64 ls2) := by have := below_newcell HBB8.out 5 _ rfl; simpa using this
    have xx0 := cell_regrown y0
    have zz0 := cell_regrown z0
    have rr0 := cell_regrown r0
    have ss0 := cell_regrown s0
    have xx1 := cell_regrown y1
    have zz1 := cell_regrown z1
    have rr1 := cell_regrown r1
    have ss1 := cell_regrown s1
    have xx2 := cell_regrown y2
    have zz2 := cell_regrown z2
    have rr2 := cell_regrown r2
    have ss2 := cell_regrown s2
    have xx3 := cell_regrown y3
    have zz3 := cell_regrown z3
    have rr3 := cell_regrown r3
    have ss3 := cell_regrown s3
    have xx4 := cell_regrown y4
    have zz4 := cell_regrown z4
    have rr4 := cell_regrown r4
    have ss4 := cell_regrown s4
    have xx5 := cell_regrown y5
    have zz5 := cell_regrown z5
    have rr5 := cell_regrown r5
    have ss5 := cell_regrown s5
    clear y0 y1 y2 y3 y4 y5 z0 z1 z2 z3 z4 z5 r0 s0 r1 s1 r2 s2 r3 s3 r4 s4 r5 s5
    have C0 := Lib.hid (fun d os => told7 (Sort.grow (redrawn W8 d) os))
    have C1 : Hid (∀ d os, Calls Try.prog 16 #[rV xr A7 n7 cp7 B7 m7 cq7, rV xr A8 n8 cp8 B8 m8 cq8] (Sort.grow (redrawn W8 d) os) (BoolPost (Sort.grow (redrawn W8 d) os) true)) := fun d os =>
      bool_eq (sameR_iff.2 rfl) (r6SameR_any _ (fun _ => none) xr xr A7 n7 cp7 B7 m7 cq7 A8 n8 cp8 B8 m8 cq8 (HX7.out.below (below_then (below_then (below_alloc _ _) HB8'.out) (below_regrown W8 d os))) (HY7.out.below (below_then (below_then (below_alloc _ _) HB8'.out) (below_regrown W8 d os))) (HX8.out.below (below_then HBa8.out (below_regrown W8 d os))) (HY8.out.below (below_then HBa8.out (below_regrown W8 d os))))
    have C2 : Hid (∀ d os, Calls Try.prog 17 #[rV ⟨cl, sq, kd, p, t, ls⟩ A n cp B m cq, rV ⟨cl2, sq2, kd2, p2, t2, ls2⟩ C k ck D j cj] (Sort.grow (redrawn W8 d) os) (BoolPost (Sort.grow (redrawn W8 d) os) sm)) := fun d os =>
      bool_eq HS.out (OSame_any _ (fun _ => none) ⟨cl, sq, kd, p, t, ls⟩ ⟨cl2, sq2, kd2, p2, t2, ls2⟩ A n cp B m cq C k ck D j cj (HX.out.below (below_then HBW8.out (below_regrown W8 d os))) (HY.out.below (below_then HBW8.out (below_regrown W8 d os))) (HZ.out.below (below_then HBW8.out (below_regrown W8 d os))) (HU.out.below (below_then HBW8.out (below_regrown W8 d os))))
    have C3 : Hid (∀ d os, Calls Try.prog 16 #[rV ⟨cl, sq, kd, p, t, ls⟩ A n cp B m cq, rV ⟨cl2, sq2, kd2, p2, t2, ls2⟩ C k ck D j cj] (Sort.grow (redrawn W8 d) os) (BoolPost (Sort.grow (redrawn W8 d) os) sm)) := fun d os =>
      bool_eq HS.out (r6SameR_any _ (fun _ => none) ⟨cl, sq, kd, p, t, ls⟩ ⟨cl2, sq2, kd2, p2, t2, ls2⟩ A n cp B m cq C k ck D j cj (HX.out.below (below_then HBW8.out (below_regrown W8 d os))) (HY.out.below (below_then HBW8.out (below_regrown W8 d os))) (HZ.out.below (below_then HBW8.out (below_regrown W8 d os))) (HU.out.below (below_then HBW8.out (below_regrown W8 d os))))
    have C4 : Hid (∀ d os, Calls Try.prog 17 #[rV ⟨cl, sq, kd, p, t, ls⟩ A n cp B m cq, rV ⟨cl, sq, kd, p, t, ls⟩ A n cp B m cq] (Sort.grow (redrawn W8 d) os) (BoolPost (Sort.grow (redrawn W8 d) os) true)) := fun d os =>
      bool_eq (sameR_iff.2 rfl) (OSame_any _ (fun _ => none) ⟨cl, sq, kd, p, t, ls⟩ ⟨cl, sq, kd, p, t, ls⟩ A n cp B m cq A n cp B m cq (HX.out.below (below_then HBW8.out (below_regrown W8 d os))) (HY.out.below (below_then HBW8.out (below_regrown W8 d os))) (HX.out.below (below_then HBW8.out (below_regrown W8 d os))) (HY.out.below (below_then HBW8.out (below_regrown W8 d os))))
    have C5 := Lib.hid (fun d os => pure_bool (OReads_any (Sort.grow (redrawn W8 d) os) kx))
    have C6 := Lib.hid (fun d os => pure_bool (r6Reads_any (Sort.grow (redrawn W8 d) os) kx))
    have C7 := Lib.hid (fun d os => pure_bool (OWrites_any (Sort.grow (redrawn W8 d) os) kx))
    have C8 := Lib.hid (fun d os => pure_bool (r6Writes_any (Sort.grow (redrawn W8 d) os) kx))
    generalize readsB kx = rb at C5 C6
    generalize writesB kx = wb at C7 C8
    refine wp_region_quiet_below (by kernel_rfl) (by kernel_rfl) ?_
    repeat ((with_reducible refine wpQuiet_step (fun K hK => ?_)); go_simp; first | (with_reducible refine hK _ ?_; clear hK K) | (rw [if_neg (by decide)]; with_reducible refine hK _ ?_; clear hK K) | (apply Exists.intro; refine ⟨fun _ => ?_, hK _ ?_⟩; (first | with_reducible exact regrown_bool (C0.out _ _) | with_reducible exact regrown_bool (C1.out _ _) | with_reducible exact regrown_bool (C2.out _ _) | with_reducible exact regrown_bool (C3.out _ _) | with_reducible exact regrown_bool (C4.out _ _) | with_reducible exact regrown_bool (C5.out _ _) | with_reducible exact regrown_bool (C6.out _ _) | with_reducible exact regrown_bool (C7.out _ _) | with_reducible exact regrown_bool (C8.out _ _)); clear hK K))
    with_reducible refine wpQuiet_nil ?_
    intro _ hw'
    obtain ⟨⟨dq, osq⟩, hw''⟩ := hw'
    subst hw''
    go_wp2_with fail
    go_ret
    exact ⟨rfl, below_then HBW8.out (below_regrown W8 dq osq)⟩
end Go.Proofs.Ytcdapcljpkohbaa
