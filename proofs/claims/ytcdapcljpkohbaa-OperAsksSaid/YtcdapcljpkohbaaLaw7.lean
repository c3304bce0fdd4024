/- law7: told. -/
import Derived.Test.YtcdapcljpkohbaaOperS
set_option linter.unusedVariables false
set_option linter.unusedSimpArgs false
namespace Go.Proofs.Ytcdapcljpkohbaa
open Go.RowKit

theorem OGet_yes (w : World) (c : Col) (A : Option Addr) (n cp : Nat) (b : List UInt8) (x : Req) (hr : reqGet b = (x, true)) (hw : Wf c w) (hl : n ≤ 1000000000) (hx : Rd kU8 w c A n cp b) :
    Calls Try.prog 14 #[.slice A n cp] w (ReqPost w c x 0) := by
  have := OGet_any w c A n cp b hw hl hx
  rw [hr] at this
  exact this
theorem OGet_no (w : World) (c : Col) (A : Option Addr) (n cp : Nat) (b : List UInt8) (hr : reqGet b = (Req.zero, false)) (hw : Wf c w) (hl : n ≤ 1000000000) (hx : Rd kU8 w c A n cp b) :
    Calls Try.prog 14 #[.slice A n cp] w (ReqPost w c Req.zero 2) := by
  have := OGet_any w c A n cp b hw hl hx
  rw [hr] at this
  exact this
theorem flds1 {w : World} {c : Col} (hc : Wf c w) (f : Fld) (hok : f.ok) : Rd kFld (w.alloc (.cells #[.int .i64 f.kind, .int .i64 f.n, .string ⟨f.s.toArray⟩] 40)) c (some ⟨w.heap.size, 0, none⟩) 1 1 [f] :=
  Rd.flds hc [f] #[.int .i64 f.kind, .int .i64 f.n, .string ⟨f.s.toArray⟩] (by simp [fCells]) (by simp) (by intro x hx; simp at hx; subst hx; exact hok)
def toldR : Req := ⟨1, 2, 1, [], [⟨1, 0, []⟩], 3⟩
theorem toldR_ok : toldR.ok := ⟨by simp [toldR], by intro f hf; simp [toldR] at hf; subst hf; exact ⟨by decide, by decide, by decide⟩⟩
set_option maxRecDepth 100000 in
set_option maxHeartbeats 4000000 in
theorem told7 (w : World) : Calls Try.prog 8 #[] w (BoolPost w true) := by
  have m1 : mayR toldR = true := by decide +kernel
  have m2 : mayR Req.zero = false := by decide +kernel
  have m3 : mayR ⟨0, 1, 8, [], [], 0⟩ = true := by decide +kernel
  have m4 : reqGet (reqB toldR) = (toldR, true) := reqGet_put m1 toldR_ok
  have m5 : sameR toldR toldR = true := sameR_iff.2 rfl
  have m6 := reqB_len toldR
  have hT0 := flds1 (Wf_none w) ⟨1, 0, []⟩ ⟨by decide, by decide, by decide⟩
  have hT1 := hT0.below (below_alloc _ (.cells #[.int .i64 1, .int .i64 2, .int .i64 1, .slice none 0 0, .slice (some ⟨w.heap.size, 0, none⟩) 1 1, .int .i64 3] 24))
  have hb := below_then (below_alloc w (.cells #[.int .i64 1, .int .i64 0, .string ⟨#[]⟩] 40)) (below_alloc _ (.cells #[.int .i64 1, .int .i64 2, .int .i64 1, .slice none 0 0, .slice (some ⟨w.heap.size, 0, none⟩) 1 1, .int .i64 3] 24))
  have M1 := Lib.hid m1
  have M2 := Lib.hid m2
  have M3 := Lib.hid m3
  have M4 := Lib.hid m4
  have M5 := Lib.hid m5
  have M6 := Lib.hid m6
  have HRT := Lib.hid hT1
  have HB := Lib.hid hb
  clear m1 m2 m3 m4 m5 m6 hT1 hb
  clear hT0
  go_enter Try.func8, Try.ntmps8
  go_wp2_with fail
  refine (OPut_yes _ (fun _ => none) toldR none 0 0 _ 1 1 M1.out (Wf_none _) (Rd.nil _ _ _) HRT.out).mono ?_
  rintro e w1 ⟨A1, n1, cp1, rfl, q_HO1, q_HB1⟩
  have HO1 := Lib.hid q_HO1
  have HB1 := Lib.hid q_HB1
  clear q_HO1 q_HB1
  have HX1 := Lib.hid (own_rd (c := fun _ => none) HO1.out (Wf_none _))
  have hn1 : n1 ≤ 1000000000 := by have := own_len HO1.out; have := M6.out; omega
  go_wp2_with fail
  refine (OGet_yes w1 (fun _ => none) A1 n1 cp1 _ toldR M4.out (Wf_none _) hn1 HX1.out).mono ?_
  rintro e w2 ⟨A2, n2, cp2, A3, n3, cp3, rfl, q_HX2, q_HX3, q_HB2⟩
  have HX2 := Lib.hid q_HX2
  have HX3 := Lib.hid q_HX3
  have HB2 := Lib.hid q_HB2
  clear q_HX2 q_HX3 q_HB2
  have HBB2 := Lib.hid (below_then HB1.out HB2.out)
  go_wp2_with fail
  refine (OPut_no _ (fun _ => none) Req.zero none 0 0 none 0 0 M2.out (Wf_none _) (Rd.nil _ _ _) (Rd.nil _ _ _)).mono ?_
  rintro e w3 ⟨rfl, q_HB3⟩
  have HB3 := Lib.hid q_HB3
  clear q_HB3
  have HB23 := Lib.hid (below_then (below_alloc _ _) HB3.out)
  have HBB3 := Lib.hid (below_then HBB2.out HB23.out)
  have y0 : w3.cell? ⟨w.heap.size + 1, 0, none⟩ = some (.int .i64 1) := by have := below_newcell HBB3.out 0 _ rfl; simpa using this
  have y1 : w3.cell? ⟨w.heap.size + 1, 1, none⟩ = some (.int .i64 2) := by have := below_newcell HBB3.out 1 _ rfl; simpa using this
  have y2 : w3.cell? ⟨w.heap.size + 1, 2, none⟩ = some (.int .i64 1) := by have := below_newcell HBB3.out 2 _ rfl; simpa using this
  have y3 : w3.cell? ⟨w.heap.size + 1, 3, none⟩ = some (.slice none 0 0) := by have := below_newcell HBB3.out 3 _ rfl; simpa using this
  have y4 : w3.cell? ⟨w.heap.size + 1, 4, none⟩ = some (.slice (some ⟨w.heap.size, 0, none⟩) 1 1) := by have := below_newcell HBB3.out 4 _ rfl; simpa using this
  have y5 : w3.cell? ⟨w.heap.size + 1, 5, none⟩ = some (.int .i64 3) := by have := below_newcell HBB3.out 5 _ rfl; simpa using this
  have z0 := below_newcell HB3.out 0 _ rfl
  have z1 := below_newcell HB3.out 1 _ rfl
  have z2 := below_newcell HB3.out 2 _ rfl
  have z3 := below_newcell HB3.out 3 _ rfl
  have z4 := below_newcell HB3.out 4 _ rfl
  have z5 := below_newcell HB3.out 5 _ rfl
  go_wp2_with fail
  refine (bool_eq M1.out (OMay_any w3 (fun _ => none) toldR none 0 0 _ 1 1 (Rd.nil _ _ _) (HRT.out.below HBB3.out))).mono ?_
  rintro e w4 ⟨rfl, q_HB4⟩
  have HB4 := Lib.hid q_HB4
  clear q_HB4
  clear y0 y1 y2 y3 y4 y5 z0 z1 z2 z3 z4 z5
  have HBB4 := Lib.hid (below_then HBB3.out HB4.out)
  have HB34 := Lib.hid (below_then HB3.out HB4.out)
  go_wp2_with fail
  refine (OReads_any w4 5).mono ?_
  rintro e w' ⟨rfl, rfl⟩
  go_wp2_with fail
  refine (OWrites_any w4 5).mono ?_
  rintro e w' ⟨rfl, rfl⟩
  go_wp2_with fail
  refine (OWrites_any w4 4).mono ?_
  rintro e w' ⟨rfl, rfl⟩
  go_wp2_with fail
  refine (OReads_any w4 8).mono ?_
  rintro e w' ⟨rfl, rfl⟩
  have y0 : w4.cell? ⟨w.heap.size + 1, 0, none⟩ = some (.int .i64 1) := by have := below_newcell HBB4.out 0 _ rfl; simpa using this
  have y1 : w4.cell? ⟨w.heap.size + 1, 1, none⟩ = some (.int .i64 2) := by have := below_newcell HBB4.out 1 _ rfl; simpa using this
  have y2 : w4.cell? ⟨w.heap.size + 1, 2, none⟩ = some (.int .i64 1) := by have := below_newcell HBB4.out 2 _ rfl; simpa using this
  have y3 : w4.cell? ⟨w.heap.size + 1, 3, none⟩ = some (.slice none 0 0) := by have := below_newcell HBB4.out 3 _ rfl; simpa using this
  have y4 : w4.cell? ⟨w.heap.size + 1, 4, none⟩ = some (.slice (some ⟨w.heap.size, 0, none⟩) 1 1) := by have := below_newcell HBB4.out 4 _ rfl; simpa using this
  have y5 : w4.cell? ⟨w.heap.size + 1, 5, none⟩ = some (.int .i64 3) := by have := below_newcell HBB4.out 5 _ rfl; simpa using this
  have z0 := below_newcell HB34.out 0 _ rfl
  have z1 := below_newcell HB34.out 1 _ rfl
  have z2 := below_newcell HB34.out 2 _ rfl
  have z3 := below_newcell HB34.out 3 _ rfl
  have z4 := below_newcell HB34.out 4 _ rfl
  have z5 := below_newcell HB34.out 5 _ rfl
  go_wp2_with fail
  refine (bool_eq M5.out (OSame_any w4 (fun _ => none) toldR toldR A2 n2 cp2 A3 n3 cp3 none 0 0 _ 1 1 (HX2.out.below (below_then HB23.out HB4.out)) (HX3.out.below (below_then HB23.out HB4.out)) (Rd.nil _ _ _) (HRT.out.below HBB4.out))).mono ?_
  rintro e w5 ⟨rfl, q_HB5⟩
  have HB5 := Lib.hid q_HB5
  clear q_HB5
  go_wp2_with fail
  refine (bool_eq M3.out (OMay_any w5 (fun _ => none) ⟨0, 1, 8, [], [], 0⟩ none 0 0 none 0 0 (Rd.nil _ _ _) (Rd.nil _ _ _))).mono ?_
  rintro e w6 ⟨rfl, q_HB6⟩
  have HB6 := Lib.hid q_HB6
  clear q_HB6
  go_wp2_with fail
  go_ret
  exact ⟨rfl, below_then HB.out (below_then (below_then HBB4.out HB5.out) HB6.out)⟩
end Go.Proofs.Ytcdapcljpkohbaa
