/- OperBack: the walk. -/
import Derived.Test.YtcdapcljpkohbaaOperTurned
set_option linter.unusedVariables false
set_option linter.unusedSimpArgs false
namespace Go.Proofs.Ytcdapcljpkohbaa
open Go.RowKit

theorem same_bool {w : World} {c : Col} {A B : Option Addr} {n cp m cq : Nat} {xs ys : List UInt8} {b : Bool} (he : (xs == ys) = b) (hx : Rd kU8 w c A n cp xs) (hy : Rd kU8 w c B m cq ys) :
    Calls Try.prog 12 #[.slice A n cp, .slice B m cq] w (BoolPost w b) := (Same_eq he hx hy).mono fun e w' ⟨h1, h2⟩ => ⟨h1, h2 ▸ Below.refl _ _⟩
set_option maxRecDepth 100000 in
set_option maxHeartbeats 8000000 in
theorem OperBack_any (w : World) (x y : Req) (A : Option Addr) (n cp : Nat) (B : Option Addr) (m cq : Nat) (C : Option Addr) (k ck : Nat) (D : Option Addr) (j cj : Nat) (at_ ch : Int) (hch : 0 ≤ ch ∧ ch ≤ 255)
    (hx : Rd kFld w (fun _ => none) A n cp x.p) (hy : Rd kFld w (fun _ => none) B m cq x.t) (hz : Rd kFld w (fun _ => none) C k ck y.p) (hu : Rd kFld w (fun _ => none) D j cj y.t) :
    Calls Try.prog 4 #[rV x A n cp B m cq, rV y C k ck D j cj, .int .i64 at_, .int .u8 ch] w (BoolPost w true) := by
  have hok : x.ok := ⟨hx.all_ok, hy.all_ok⟩
  have hok2 : y.ok := ⟨hz.all_ok, hu.all_ok⟩
  obtain ⟨cl, sq, kd, p, t, ls⟩ := x
  obtain ⟨cl2, sq2, kd2, p2, t2, ls2⟩ := y
  dsimp only at hx hy hz hu
  have HOK := Lib.hid hok
  have HOK2 := Lib.hid hok2
  have HX := Lib.hid hx
  have HY := Lib.hid hy
  have HZ := Lib.hid hz
  have HU := Lib.hid hu
  clear hok hok2 hx hy hz hu
  have HBX := Lib.hid (below_then (below_alloc w (.cells #[.int .i64 cl, .int .i64 sq, .int .i64 kd, .slice A n cp, .slice B m cq, .int .i64 ls] 24)) (below_alloc _ (.cells #[.int .i64 cl2, .int .i64 sq2, .int .i64 kd2, .slice C k ck, .slice D j cj, .int .i64 ls2] 24)))
  cases hf1 : fewR ⟨cl, sq, kd, p, t, ls⟩ with
  | false =>
    have HF := Lib.hid hf1
    clear hf1
    go_enter Try.func4, Try.ntmps4
    go_wp2_with fail
    refine (bool_eq HF.out (l7Few_any _ _ ⟨cl, sq, kd, p, t, ls⟩ A n cp B m cq (HX.out.below HBX.out) (HY.out.below HBX.out))).mono ?_
    rintro e w1 ⟨rfl, q_HB1⟩
    have HB1 := Lib.hid q_HB1
    clear q_HB1
    go_wp2_with fail
    refine (told7 w1).mono ?_
    rintro e w2 ⟨rfl, q_HB2⟩
    have HB2 := Lib.hid q_HB2
    clear q_HB2
    go_wp2_with fail
    refine bodyPost_ret (results_tmp rfl _ _ _) rfl ?_
    exact ⟨rfl, below_then HBX.out (below_then HB1.out HB2.out)⟩
  | true =>
  have HF := Lib.hid hf1
  clear hf1
  cases hf2 : fewR ⟨cl2, sq2, kd2, p2, t2, ls2⟩ with
  | false =>
    have HF2 := Lib.hid hf2
    clear hf2
    go_enter Try.func4, Try.ntmps4
    go_wp2_with fail
    refine (bool_eq HF.out (l7Few_any _ _ ⟨cl, sq, kd, p, t, ls⟩ A n cp B m cq (HX.out.below HBX.out) (HY.out.below HBX.out))).mono ?_
    rintro e w1 ⟨rfl, q_HB1⟩
    have HB1 := Lib.hid q_HB1
    clear q_HB1
    have z0 : w1.cell? ⟨w.heap.size + 1, 0, none⟩ = some (.int .i64 cl2) := by have := below_newcell HB1.out 0 _ rfl; simpa using this
    have z1 : w1.cell? ⟨w.heap.size + 1, 1, none⟩ = some (.int .i64 sq2) := by have := below_newcell HB1.out 1 _ rfl; simpa using this
    have z2 : w1.cell? ⟨w.heap.size + 1, 2, none⟩ = some (.int .i64 kd2) := by have := below_newcell HB1.out 2 _ rfl; simpa using this
    have z3 : w1.cell? ⟨w.heap.size + 1, 3, none⟩ = some (.slice C k ck) := by have := below_newcell HB1.out 3 _ rfl; simpa using this
    have z4 : w1.cell? ⟨w.heap.size + 1, 4, none⟩ = some (.slice D j cj) := by have := below_newcell HB1.out 4 _ rfl; simpa using this
    have z5 : w1.cell? ⟨w.heap.size + 1, 5, none⟩ = some (.int .i64 ls2) := by have := below_newcell HB1.out 5 _ rfl; simpa using this
    go_wp2_with fail
    refine (bool_eq HF2.out (l7Few_any w1 _ ⟨cl2, sq2, kd2, p2, t2, ls2⟩ C k ck D j cj (HZ.out.below (below_then HBX.out HB1.out)) (HU.out.below (below_then HBX.out HB1.out)))).mono ?_
    rintro e w2 ⟨rfl, q_HB2⟩
    have HB2 := Lib.hid q_HB2
    clear q_HB2
    clear z0 z1 z2 z3 z4 z5
    go_wp2_with fail
    refine (told7 w2).mono ?_
    rintro e w3 ⟨rfl, q_HB3⟩
    have HB3 := Lib.hid q_HB3
    clear q_HB3
    go_wp2_with fail
    refine bodyPost_ret (results_tmp rfl _ _ _) rfl ?_
    exact ⟨rfl, below_then HBX.out (below_then (below_then HB1.out HB2.out) HB3.out)⟩
  | true =>
  have HF2 := Lib.hid hf2
  clear hf2
  cases hm1 : mayR ⟨cl, sq, kd, p, t, ls⟩ with
  | false =>
    have HM1 := Lib.hid hm1
    clear hm1
    go_enter Try.func4, Try.ntmps4
    go_wp2_with fail
    refine (bool_eq HF.out (l7Few_any _ _ ⟨cl, sq, kd, p, t, ls⟩ A n cp B m cq (HX.out.below HBX.out) (HY.out.below HBX.out))).mono ?_
    rintro e w1 ⟨rfl, q_HB1⟩
    have HB1 := Lib.hid q_HB1
    clear q_HB1
    have z0 : w1.cell? ⟨w.heap.size + 1, 0, none⟩ = some (.int .i64 cl2) := by have := below_newcell HB1.out 0 _ rfl; simpa using this
    have z1 : w1.cell? ⟨w.heap.size + 1, 1, none⟩ = some (.int .i64 sq2) := by have := below_newcell HB1.out 1 _ rfl; simpa using this
    have z2 : w1.cell? ⟨w.heap.size + 1, 2, none⟩ = some (.int .i64 kd2) := by have := below_newcell HB1.out 2 _ rfl; simpa using this
    have z3 : w1.cell? ⟨w.heap.size + 1, 3, none⟩ = some (.slice C k ck) := by have := below_newcell HB1.out 3 _ rfl; simpa using this
    have z4 : w1.cell? ⟨w.heap.size + 1, 4, none⟩ = some (.slice D j cj) := by have := below_newcell HB1.out 4 _ rfl; simpa using this
    have z5 : w1.cell? ⟨w.heap.size + 1, 5, none⟩ = some (.int .i64 ls2) := by have := below_newcell HB1.out 5 _ rfl; simpa using this
    go_wp2_with fail
    refine (bool_eq HF2.out (l7Few_any w1 _ ⟨cl2, sq2, kd2, p2, t2, ls2⟩ C k ck D j cj (HZ.out.below (below_then HBX.out HB1.out)) (HU.out.below (below_then HBX.out HB1.out)))).mono ?_
    rintro e w2 ⟨rfl, q_HB2⟩
    have HB2 := Lib.hid q_HB2
    clear q_HB2
    clear z0 z1 z2 z3 z4 z5
    have HBB2 := Lib.hid (below_then HB1.out HB2.out)
    have HBW2 := Lib.hid (below_then HBX.out HBB2.out)
    have y0 := below_newcell2 HBB2.out 0 _ rfl
    have y1 := below_newcell2 HBB2.out 1 _ rfl
    have y2 := below_newcell2 HBB2.out 2 _ rfl
    have y3 := below_newcell2 HBB2.out 3 _ rfl
    have y4 := below_newcell2 HBB2.out 4 _ rfl
    have y5 := below_newcell2 HBB2.out 5 _ rfl
    go_wp2_with fail
    refine (OPut_no w2 (fun _ => none) ⟨cl, sq, kd, p, t, ls⟩ A n cp B m cq HM1.out (Wf_none _) (HX.out.below HBW2.out) (HY.out.below HBW2.out)).mono ?_
    rintro e w3 ⟨rfl, q_HB3⟩
    have HB3 := Lib.hid q_HB3
    clear q_HB3
    clear y0 y1 y2 y3 y4 y5
    go_wp2_with fail
    refine (told7 w3).mono ?_
    rintro e w4 ⟨rfl, q_HB4⟩
    have HB4 := Lib.hid q_HB4
    clear q_HB4
    have HBB4 := Lib.hid (below_then (below_then HBB2.out HB3.out) HB4.out)
    have HBW4 := Lib.hid (below_then HBX.out HBB4.out)
    have y0 := below_newcell2 HBB4.out 0 _ rfl
    have y1 := below_newcell2 HBB4.out 1 _ rfl
    have y2 := below_newcell2 HBB4.out 2 _ rfl
    have y3 := below_newcell2 HBB4.out 3 _ rfl
    have y4 := below_newcell2 HBB4.out 4 _ rfl
    have y5 := below_newcell2 HBB4.out 5 _ rfl
    go_wp2_with fail
    refine (bool_eq HM1.out (OMay_any w4 (fun _ => none) ⟨cl, sq, kd, p, t, ls⟩ A n cp B m cq (HX.out.below HBW4.out) (HY.out.below HBW4.out))).mono ?_
    rintro e w5 ⟨rfl, q_HB5⟩
    have HB5 := Lib.hid q_HB5
    clear q_HB5
    go_wp2_with fail
    refine bodyPost_ret (results_tmp rfl _ _ _) rfl ?_
    exact ⟨rfl, below_then HBW4.out HB5.out⟩
  | true =>
  have HM1 := Lib.hid hm1
  clear hm1
  have hal1 := reqB_len ⟨cl, sq, kd, p, t, ls⟩
  have hal0 : 1 ≤ (reqB ⟨cl, sq, kd, p, t, ls⟩).length := by unfold reqB; rw [List.length_append, numB_length]; omega
  go_enter Try.func4, Try.ntmps4
  go_wp2_with fail
  refine (bool_eq HF.out (l7Few_any _ _ ⟨cl, sq, kd, p, t, ls⟩ A n cp B m cq (HX.out.below HBX.out) (HY.out.below HBX.out))).mono ?_
  rintro e w1 ⟨rfl, q_HB1⟩
  have HB1 := Lib.hid q_HB1
  clear q_HB1
  have z0 : w1.cell? ⟨w.heap.size + 1, 0, none⟩ = some (.int .i64 cl2) := by have := below_newcell HB1.out 0 _ rfl; simpa using this
  have z1 : w1.cell? ⟨w.heap.size + 1, 1, none⟩ = some (.int .i64 sq2) := by have := below_newcell HB1.out 1 _ rfl; simpa using this
  have z2 : w1.cell? ⟨w.heap.size + 1, 2, none⟩ = some (.int .i64 kd2) := by have := below_newcell HB1.out 2 _ rfl; simpa using this
  have z3 : w1.cell? ⟨w.heap.size + 1, 3, none⟩ = some (.slice C k ck) := by have := below_newcell HB1.out 3 _ rfl; simpa using this
  have z4 : w1.cell? ⟨w.heap.size + 1, 4, none⟩ = some (.slice D j cj) := by have := below_newcell HB1.out 4 _ rfl; simpa using this
  have z5 : w1.cell? ⟨w.heap.size + 1, 5, none⟩ = some (.int .i64 ls2) := by have := below_newcell HB1.out 5 _ rfl; simpa using this
  go_wp2_with fail
  refine (bool_eq HF2.out (l7Few_any w1 _ ⟨cl2, sq2, kd2, p2, t2, ls2⟩ C k ck D j cj (HZ.out.below (below_then HBX.out HB1.out)) (HU.out.below (below_then HBX.out HB1.out)))).mono ?_
  rintro e w2 ⟨rfl, q_HB2⟩
  have HB2 := Lib.hid q_HB2
  clear q_HB2
  clear z0 z1 z2 z3 z4 z5
  have HBB2 := Lib.hid (below_then HB1.out HB2.out)
  have HBW2 := Lib.hid (below_then HBX.out HBB2.out)
  have y0 := below_newcell2 HBB2.out 0 _ rfl
  have y1 := below_newcell2 HBB2.out 1 _ rfl
  have y2 := below_newcell2 HBB2.out 2 _ rfl
  have y3 := below_newcell2 HBB2.out 3 _ rfl
  have y4 := below_newcell2 HBB2.out 4 _ rfl
  have y5 := below_newcell2 HBB2.out 5 _ rfl
  go_wp2_with fail
  refine (OPut_yes w2 (fun _ => none) ⟨cl, sq, kd, p, t, ls⟩ A n cp B m cq HM1.out (Wf_none _) (HX.out.below HBW2.out) (HY.out.below HBW2.out)).mono ?_
  rintro e w3 ⟨A3, n3, cp3, rfl, q_HO3, q_HB3⟩
  have HO3 := Lib.hid q_HO3
  have HB3 := Lib.hid q_HB3
  clear q_HO3 q_HB3
  clear y0 y1 y2 y3 y4 y5
  have HBB3 := Lib.hid (below_then HBB2.out HB3.out)
  have HA3 := Lib.hid (own_rd (c := fun _ => none) HO3.out (Wf_none _))
  have HLA : Hid ((reqB ⟨cl, sq, kd, p, t, ls⟩).length = n3) := own_len HO3.out
  have hn31 : 1 ≤ n3 := by have := HLA.out; omega
  have hn32 : n3 ≤ 700 := by have := HLA.out; omega
  go_wp2_with fail
  refine (OGet_yes w3 (fun _ => none) A3 n3 cp3 _ ⟨cl, sq, kd, p, t, ls⟩ (reqGet_put HM1.out HOK.out) (Wf_none _) (by omega) HA3.out).mono ?_
  rintro e w4 ⟨A4, n4, cp4, B4, m4, cq4, rfl, q_HX4, q_HY4, q_HB4⟩
  have HX4 := Lib.hid q_HX4
  have HY4 := Lib.hid q_HY4
  have HB4 := Lib.hid q_HB4
  clear q_HX4 q_HY4 q_HB4
  have HBB4 := Lib.hid (below_then HBB3.out (below_then HB4.out (below_alloc _ (.cells #[.int .i64 cl, .int .i64 sq, .int .i64 kd, .slice A4 n4 cp4, .slice B4 m4 cq4, .int .i64 ls] 24))))
  have HBW4 := Lib.hid (below_then HBX.out HBB4.out)
  have y0 := below_newcell2 HBB4.out 0 _ rfl
  have y1 := below_newcell2 HBB4.out 1 _ rfl
  have y2 := below_newcell2 HBB4.out 2 _ rfl
  have y3 := below_newcell2 HBB4.out 3 _ rfl
  have y4 := below_newcell2 HBB4.out 4 _ rfl
  have y5 := below_newcell2 HBB4.out 5 _ rfl
  go_wp2_with fail
  refine (bool_eq (sameR_iff.2 rfl) (OSame_any _ (fun _ => none) ⟨cl, sq, kd, p, t, ls⟩ ⟨cl, sq, kd, p, t, ls⟩ A4 n4 cp4 B4 m4 cq4 A n cp B m cq (HX4.out.below (below_alloc _ _)) (HY4.out.below (below_alloc _ _)) (HX.out.below HBW4.out) (HY.out.below HBW4.out))).mono ?_
  rintro e w5 ⟨rfl, q_HB5⟩
  have HB5 := Lib.hid q_HB5
  clear q_HB5
  clear y0 y1 y2 y3 y4 y5
  have HBB5 := Lib.hid (below_then HBB4.out HB5.out)
  have HA5 := Lib.hid (HA3.out.below (below_then (below_then HB4.out (below_alloc _ (.cells #[.int .i64 cl, .int .i64 sq, .int .i64 kd, .slice A4 n4 cp4, .slice B4 m4 cq4, .int .i64 ls] 24))) HB5.out))
  obtain ⟨i, hi, hin⟩ := rem_small at_ n3 hn31 (by omega)
  obtain ⟨A6, hcut, hrd6⟩ := cut_high kU8 25 5 .i64 Try.underlying25 u8_info A3 n3 cp3 i (by omega) HA5.out.2.1 (P := Try.prog)
  have HR6 := Lib.hid (hrd6 w5 (fun _ => none) (reqB ⟨cl, sq, kd, p, t, ls⟩) HA5.out)
  clear hrd6
  go_wp2_with fail
  refine (OGet_no w5 (fun _ => none) A6 i cp3 _ (reqGet_cut HM1.out HOK.out (by have := HLA.out; omega)) (Wf_none _) (by omega) HR6.out).mono ?_
  rintro e w6 ⟨A7, n7, cp7, B7, m7, cq7, rfl, q_HX7, q_HY7, q_HB6⟩
  have HX7 := Lib.hid q_HX7
  have HY7 := Lib.hid q_HY7
  have HB6 := Lib.hid q_HB6
  clear q_HX7 q_HY7 q_HB6
  clear hcut
  go_upto_region 10 with fail
  have hB6 := below_then HB6.out (below_alloc _ (.cells #[.int .i64 Req.zero.client, .int .i64 Req.zero.seq, .int .i64 Req.zero.kind, .slice A7 n7 cp7, .slice B7 m7 cq7, .int .i64 Req.zero.lease] 24))
  generalize hW6 : World.alloc w6 (.cells #[.int .i64 Req.zero.client, .int .i64 Req.zero.seq, .int .i64 Req.zero.kind, .slice A7 n7 cp7, .slice B7 m7 cq7, .int .i64 Req.zero.lease] 24) = W6 at hB6
  clear hW6
  have HBB6 := Lib.hid (below_then HBB5.out hB6)
  have HA6 := Lib.hid (HA5.out.below hB6)
  clear hB6
  have hsz6 := HBB6.out.size
  have tok1 : True := trivial
  go_wp2_with (first
    | (at_builtin; have _t := tok1; go_must (refine app_bytes_new (w0 := W6) (c := fun _ => none) (.tmp 73) (.tmp 74) 25 5 rfl rfl Try.underlying25 u8_info [] (reqB ⟨cl, sq, kd, p, t, ls⟩) rfl rfl (below_alloc _ _) (own_empty W6 W6 _ (Nat.le_refl _)) (HA6.out.below (below_alloc _ _)) (by omega) ?_; intro A8 cp8 w8 q_hb8 q_hr8 q_hown8 hs8; have HB8 := Lib.hid q_hb8; rw [Nat.zero_add, List.nil_append] at q_hown8; have HO8 := Lib.hid q_hown8; clear q_hb8 q_hr8 q_hown8 tok1))
    | (at_builtin; go_must (refine app_one_own (base := W6.heap.size) (.tmp 75) (.tmp 77) 25 5 (.int .u8 0) 1 1 rfl rfl Try.underlying25 u8_info rfl (by decide) (by decide) (bcells (reqB ⟨cl, sq, kd, p, t, ls⟩)) _ rfl rfl rfl (one_cell rfl) HB8.out.size HB8.out HO8.out (by omega) ?_; intro A9 cp9 w9 q_hb9 q_hown9 hs9; have HB9 := Lib.hid q_hb9; have HO9 := Lib.hid (own_snoc hch q_hown9); clear q_hb9 q_hown9)))
  have HBB9 := Lib.hid (below_then HBB6.out HB9.out)
  have HA9 := Lib.hid (own_rd (c := fun _ => none) HO9.out (Wf_none _))
  refine (OGet_no w9 (fun _ => none) A9 _ cp9 _ (reqGet_more HM1.out HOK.out _) (Wf_none _) (by omega) HA9.out).mono ?_
  rintro e w10 ⟨A10, n10, cp10, B10, m10, cq10, rfl, q_HX10, q_HY10, q_HB10⟩
  have HX10 := Lib.hid q_HX10
  have HY10 := Lib.hid q_HY10
  have HB10 := Lib.hid q_HB10
  clear q_HX10 q_HY10 q_HB10
  go_upto_region 11 with fail
  have hB10 := below_then HB10.out (below_alloc _ (.cells #[.int .i64 Req.zero.client, .int .i64 Req.zero.seq, .int .i64 Req.zero.kind, .slice A10 n10 cp10, .slice B10 m10 cq10, .int .i64 Req.zero.lease] 24))
  generalize hW10 : World.alloc w10 (.cells #[.int .i64 Req.zero.client, .int .i64 Req.zero.seq, .int .i64 Req.zero.kind, .slice A10 n10 cp10, .slice B10 m10 cq10, .int .i64 Req.zero.lease] 24) = W10 at hB10
  clear hW10
  have HB10' := Lib.hid hB10
  have HBB10 := Lib.hid (below_then HBB9.out hB10)
  have HA10 := Lib.hid (HA6.out.below (below_then HB9.out hB10))
  clear hB10
  have HBW10 := Lib.hid (below_then HBX.out HBB10.out)
  have z0 : W10.cell? ⟨w.heap.size + 1, 0, none⟩ = some (.int .i64 cl2) := by have := below_newcell HBB10.out 0 _ rfl; simpa using this
  have z1 : W10.cell? ⟨w.heap.size + 1, 1, none⟩ = some (.int .i64 sq2) := by have := below_newcell HBB10.out 1 _ rfl; simpa using this
  have z2 : W10.cell? ⟨w.heap.size + 1, 2, none⟩ = some (.int .i64 kd2) := by have := below_newcell HBB10.out 2 _ rfl; simpa using this
  have z3 : W10.cell? ⟨w.heap.size + 1, 3, none⟩ = some (.slice C k ck) := by have := below_newcell HBB10.out 3 _ rfl; simpa using this
  have z4 : W10.cell? ⟨w.heap.size + 1, 4, none⟩ = some (.slice D j cj) := by have := below_newcell HBB10.out 4 _ rfl; simpa using this
  have z5 : W10.cell? ⟨w.heap.size + 1, 5, none⟩ = some (.int .i64 ls2) := by have := below_newcell HBB10.out 5 _ rfl; simpa using this
  cases hm2 : mayR ⟨cl2, sq2, kd2, p2, t2, ls2⟩ with
  | false =>
    have HM2 := Lib.hid hm2
    clear hm2
    go_wp2_with fail
    refine (OPut_no W10 (fun _ => none) ⟨cl2, sq2, kd2, p2, t2, ls2⟩ C k ck D j cj HM2.out (Wf_none _) (HZ.out.below HBW10.out) (HU.out.below HBW10.out)).mono ?_
    rintro e w11 ⟨rfl, q_HB11⟩
    have HB11 := Lib.hid q_HB11
    clear q_HB11
    clear z0 z1 z2 z3 z4 z5
    have HBB11 := Lib.hid (below_then HBB10.out HB11.out)
    have C0 := Lib.hid (fun d os => told7 (Sort.grow (redrawn w11 d) os))
    go_upto_region 12 with fail
    refine wp_region_quiet_below (by kernel_rfl) (by kernel_rfl) ?_
    repeat ((with_reducible refine wpQuiet_step (fun K hK => ?_)); go_simp; first | (with_reducible refine hK _ ?_; clear hK K) | (rw [if_neg (by decide)]; with_reducible refine hK _ ?_; clear hK K) | (apply Exists.intro; refine ⟨fun _ => ?_, hK _ ?_⟩; (first | with_reducible exact regrown_bool (C0.out _ _)); clear hK K))
    with_reducible refine wpQuiet_nil ?_
    intro _ hw'
    obtain ⟨⟨dq, osq⟩, hw''⟩ := hw'
    subst hw''
    go_wp2_with fail
    go_ret
    exact ⟨rfl, below_then HBX.out (below_then HBB11.out (below_regrown w11 dq osq))⟩
  | true =>
    have HM2 := Lib.hid hm2
    clear hm2
    have HEQ : Hid ((reqB ⟨cl, sq, kd, p, t, ls⟩ == reqB ⟨cl2, sq2, kd2, p2, t2, ls2⟩) = sameR ⟨cl, sq, kd, p, t, ls⟩ ⟨cl2, sq2, kd2, p2, t2, ls2⟩) := by
      show _ = _
      cases hs : sameR ⟨cl, sq, kd, p, t, ls⟩ ⟨cl2, sq2, kd2, p2, t2, ls2⟩ with
      | true =>
        rw [sameR_iff.1 hs]
        simp
      | false =>
        rw [beq_eq_false_iff_ne]
        intro e
        rw [sameR_iff.2 (reqB_inj HM1.out HOK.out HM2.out HOK2.out e)] at hs
        cases hs
    generalize hs : sameR ⟨cl, sq, kd, p, t, ls⟩ ⟨cl2, sq2, kd2, p2, t2, ls2⟩ = sm at HEQ
    have HS := Lib.hid hs
    clear hs
    go_wp2_with fail
    refine (OPut_yes W10 (fun _ => none) ⟨cl2, sq2, kd2, p2, t2, ls2⟩ C k ck D j cj HM2.out (Wf_none _) (HZ.out.below HBW10.out) (HU.out.below HBW10.out)).mono ?_
    rintro e w11 ⟨A11, n11, cp11, rfl, q_HO11, q_HB11⟩
    have HO11 := Lib.hid q_HO11
    have HB11 := Lib.hid q_HB11
    clear q_HO11 q_HB11
    clear z0 z1 z2 z3 z4 z5
    have HBB11 := Lib.hid (below_then HBB10.out HB11.out)
    have HBW11 := Lib.hid (below_then HBX.out HBB11.out)
    have HA11 := Lib.hid (own_rd (c := fun _ => none) HO11.out (Wf_none _))
    have HA12 := Lib.hid (HA10.out.below HB11.out)
    have y0 := below_newcell2 HBB11.out 0 _ rfl
    have y1 := below_newcell2 HBB11.out 1 _ rfl
    have y2 := below_newcell2 HBB11.out 2 _ rfl
    have y3 := below_newcell2 HBB11.out 3 _ rfl
    have y4 := below_newcell2 HBB11.out 4 _ rfl
    have y5 := below_newcell2 HBB11.out 5 _ rfl
    have z0 : w11.cell? ⟨w.heap.size + 1, 0, none⟩ = some (.int .i64 cl2) := by have := below_newcell HBB11.out 0 _ rfl; simpa using this
    have z1 : w11.cell? ⟨w.heap.size + 1, 1, none⟩ = some (.int .i64 sq2) := by have := below_newcell HBB11.out 1 _ rfl; simpa using this
    have z2 : w11.cell? ⟨w.heap.size + 1, 2, none⟩ = some (.int .i64 kd2) := by have := below_newcell HBB11.out 2 _ rfl; simpa using this
    have z3 : w11.cell? ⟨w.heap.size + 1, 3, none⟩ = some (.slice C k ck) := by have := below_newcell HBB11.out 3 _ rfl; simpa using this
    have z4 : w11.cell? ⟨w.heap.size + 1, 4, none⟩ = some (.slice D j cj) := by have := below_newcell HBB11.out 4 _ rfl; simpa using this
    have z5 : w11.cell? ⟨w.heap.size + 1, 5, none⟩ = some (.int .i64 ls2) := by have := below_newcell HBB11.out 5 _ rfl; simpa using this
    have xx0 := cell_regrown y0
    have zz0 := cell_regrown z0
    have xx1 := cell_regrown y1
    have zz1 := cell_regrown z1
    have xx2 := cell_regrown y2
    have zz2 := cell_regrown z2
    have xx3 := cell_regrown y3
    have zz3 := cell_regrown z3
    have xx4 := cell_regrown y4
    have zz4 := cell_regrown z4
    have xx5 := cell_regrown y5
    have zz5 := cell_regrown z5
    clear y0 y1 y2 y3 y4 y5 z0 z1 z2 z3 z4 z5
    have C0 := Lib.hid (fun d os => told7 (Sort.grow (redrawn w11 d) os))
    have C1 : Hid (∀ d os, Calls Try.prog 12 #[.slice A3 n3 cp3, .slice A11 n11 cp11] (Sort.grow (redrawn w11 d) os) (BoolPost (Sort.grow (redrawn w11 d) os) sm)) := fun d os => same_bool HEQ.out (HA12.out.below (below_regrown w11 d os)) (HA11.out.below (below_regrown w11 d os))
    have C2 : Hid (∀ d os, Calls Try.prog 17 #[rV ⟨cl, sq, kd, p, t, ls⟩ A n cp B m cq, rV ⟨cl2, sq2, kd2, p2, t2, ls2⟩ C k ck D j cj] (Sort.grow (redrawn w11 d) os) (BoolPost (Sort.grow (redrawn w11 d) os) sm)) := fun d os =>
      bool_eq HS.out (OSame_any _ (fun _ => none) ⟨cl, sq, kd, p, t, ls⟩ ⟨cl2, sq2, kd2, p2, t2, ls2⟩ A n cp B m cq C k ck D j cj (HX.out.below (below_then HBW11.out (below_regrown w11 d os))) (HY.out.below (below_then HBW11.out (below_regrown w11 d os))) (HZ.out.below (below_then HBW11.out (below_regrown w11 d os))) (HU.out.below (below_then HBW11.out (below_regrown w11 d os))))
    go_upto_region 12 with fail
    cases sm
    all_goals
      refine wp_region_quiet_below (by kernel_rfl) (by kernel_rfl) ?_
      repeat ((with_reducible refine wpQuiet_step (fun K hK => ?_)); go_simp; first | (with_reducible refine hK _ ?_; clear hK K) | (rw [if_neg (by decide)]; with_reducible refine hK _ ?_; clear hK K) | (apply Exists.intro; refine ⟨fun _ => ?_, hK _ ?_⟩; (first | with_reducible exact regrown_bool (C0.out _ _) | with_reducible exact regrown_bool (C1.out _ _) | with_reducible exact regrown_bool (C2.out _ _)); clear hK K))
      with_reducible refine wpQuiet_nil ?_
      intro _ hw'
      obtain ⟨⟨dq, osq⟩, hw''⟩ := hw'
      subst hw''
      go_wp2_with fail
      go_ret
      exact ⟨rfl, below_then HBX.out (below_then HBB11.out (below_regrown w11 dq osq))⟩
end Go.Proofs.Ytcdapcljpkohbaa
