/- law6: told. -/
import Derived.Test.YtladpckbajnbeaaTupP
import Derived.Test.YtladpckbajnbeaaTupC
import Derived.Deep.RegionHeld3
set_option linter.unusedVariables false
set_option linter.unusedSimpArgs false
namespace Go.Proofs.Ytladpckbajnbeaa
open Go.RowKit

/-- A literal of fields reads. -/
theorem Rd.flds {w : World} {c : Col} (hc : Wf c w) (l : List Fld) (cs : Array Value) (hcs : cs.toList = l.flatMap fCells) (hl : l.length ≤ 1000000000) (hok : ∀ x ∈ l, x.ok) :
    Rd kFld (w.alloc (.cells cs 54)) c (some ⟨w.heap.size, 0, none⟩) l.length l.length l := by
  have h := World.ownsRow_lit (base := w.heap.size) (e := 54) (size := 3) w cs l.length (Nat.le_refl _) (by simp only [maxLen]; omega) (by rw [← Array.length_toList, hcs, fCells_len])
  rw [hcs] at h
  obtain ⟨A, cp, he, hr⟩ := Rd.of_own (K := kFld) (c := c) h rfl (fun k hk => hc.fresh (h.lt k hk).1) (fun j x hj => flds_rep hok j x hj)
  cases he
  exact hr
def toldT : List Fld := [⟨1, 7, []⟩, ⟨2, 0, [97]⟩]
def toldP : List Fld := [⟨3, 0, []⟩, ⟨2, 0, [97]⟩]
theorem toldT_ok : ∀ x ∈ toldT, x.ok := by intro x hx; simp [toldT] at hx; rcases hx with rfl | rfl <;> (unfold Fld.ok; simp)
theorem toldP_ok : ∀ x ∈ toldP, x.ok := by intro x hx; simp [toldP] at hx; rcases hx with rfl | rfl <;> (unfold Fld.ok; simp)
theorem Wf_none (w : World) : Wf (fun _ => none) w := fun k g e => by cases e

theorem TPut_yes (w : World) (c : Col) (A : Option Addr) (n cp : Nat) (l : List Fld) (hm : mayTB l = true) (hw : Wf c w) (hx : Rd kFld w c A n cp l) :
    Calls Try.prog 40 #[.slice A n cp] w fun e w' => ∃ A' n' cp', e = .returned (.tuple #[.slice A' n' cp', .int .i64 0]) ∧ w'.ownsRow w.heap.size 5 1 (.slice A' n' cp') n' (bcells (tupB l)) ∧ Below w.heap.size w w' := by
  refine (TPut_any w c A n cp l hw hx).mono fun e w' h => ?_
  unfold PutPost at h
  rw [if_pos hm] at h
  obtain ⟨hb, A', n', cp', he, ho⟩ := h
  exact ⟨A', n', cp', he, ho, hb⟩
theorem TPut_no (w : World) (c : Col) (A : Option Addr) (n cp : Nat) (l : List Fld) (hm : mayTB l = false) (hw : Wf c w) (hx : Rd kFld w c A n cp l) :
    Calls Try.prog 40 #[.slice A n cp] w fun e w' => e = .returned (.tuple #[.slice none 0 0, .int .i64 1]) ∧ Below w.heap.size w w' := by
  refine (TPut_any w c A n cp l hw hx).mono fun e w' h => ?_
  unfold PutPost at h
  rw [if_neg (by simp [hm])] at h
  exact ⟨h.2, h.1⟩
def GetP (w : World) (c : Col) (l : List Fld) (v : Int) (e : Ending) (w' : World) : Prop :=
  ∃ A n cp, e = .returned (.tuple #[.slice A n cp, .int .i64 v]) ∧ Rd kFld w' c A n cp l ∧ Below w.heap.size w w'
theorem GetPost.yes {w : World} {c : Col} {r : List Fld × Bool} {l : List Fld} (hr : r = (l, true)) {e : Ending} {w' : World} (h : GetPost w c r e w') : GetP w c l 0 e w' := by
  subst hr
  obtain ⟨hb, A, n, cp, he, hx⟩ := h
  exact ⟨A, n, cp, he, hx, hb⟩
theorem GetPost.no {w : World} {c : Col} {r : List Fld × Bool} (hr : r = ([], false)) {e : Ending} {w' : World} (h : GetPost w c r e w') : GetP w c [] 2 e w' := by
  subst hr
  obtain ⟨hb, A, n, cp, he, hx⟩ := h
  exact ⟨A, n, cp, he, hx, hb⟩
theorem TGet_yes (w : World) (c : Col) (A : Option Addr) (n cp : Nat) (b : List UInt8) (l : List Fld) (hr : tupGet b = (l, true)) (hw : Wf c w) (hl : n ≤ 1000000000000) (hx : Rd kU8 w c A n cp b) :
    Calls Try.prog 41 #[.slice A n cp] w (GetP w c l 0) := (TGet_any w c A n cp b hw hl hx).mono fun e w' h => h.yes hr
theorem TGet_no (w : World) (c : Col) (A : Option Addr) (n cp : Nat) (b : List UInt8) (hr : tupGet b = ([], false)) (hw : Wf c w) (hl : n ≤ 1000000000000) (hx : Rd kU8 w c A n cp b) :
    Calls Try.prog 41 #[.slice A n cp] w (GetP w c [] 2) := (TGet_any w c A n cp b hw hl hx).mono fun e w' h => h.no hr
theorem bool_eq {w : World} {b b' : Bool} (h : b = b') {f : FuncId} {args : Array Value} (k : Calls Try.prog f args w (BoolPost w b)) : Calls Try.prog f args w (BoolPost w b') := h ▸ k

set_option maxRecDepth 100000 in
set_option maxHeartbeats 4000000 in
theorem told6 (w : World) : Calls Try.prog 39 #[] w (BoolPost w true) := by
  have m1 : matchB toldP toldT = true := by decide +kernel
  have m2 : matchB toldT toldP = false := by decide +kernel
  have m3 : mayB toldT = true := by decide +kernel
  have m4 : mayB toldP = false := by decide +kernel
  have m5 : mayTB toldP = true := by decide +kernel
  have m6 : mayTB toldT = true := by decide +kernel
  have m7 : sameL toldT toldT = true := by decide +kernel
  have m8 : mayTB [] = false := by decide +kernel
  have m9 : tupGet (tupB toldT) = (toldT, true) := tupGet_put m6 toldT_ok
  have M1 := Lib.hid m1
  have M2 := Lib.hid m2
  have M3 := Lib.hid m3
  have M4 := Lib.hid m4
  have M5 := Lib.hid m5
  have M6 := Lib.hid m6
  have M7 := Lib.hid m7
  have M8 := Lib.hid m8
  have M9 := Lib.hid m9
  clear m1 m2 m3 m4 m5 m6 m7 m8 m9
  have hT0 := Rd.flds (Wf_none w) toldT #[.int .i64 1, .int .i64 7, .string ⟨#[]⟩, .int .i64 2, .int .i64 0, .string ⟨#[97]⟩] rfl (by decide) toldT_ok
  have hP0 := Rd.flds (Wf_none (w.alloc (.cells #[.int .i64 1, .int .i64 7, .string ⟨#[]⟩, .int .i64 2, .int .i64 0, .string ⟨#[97]⟩] 54))) toldP #[.int .i64 3, .int .i64 0, .string ⟨#[]⟩, .int .i64 2, .int .i64 0, .string ⟨#[97]⟩] rfl (by decide) toldP_ok
  rw [show (w.alloc (.cells #[.int .i64 1, .int .i64 7, .string ⟨#[]⟩, .int .i64 2, .int .i64 0, .string ⟨#[97]⟩] 54)).heap.size = w.heap.size + 1 by simp] at hP0
  have hT1 := hT0.below (below_alloc _ (.cells #[.int .i64 3, .int .i64 0, .string ⟨#[]⟩, .int .i64 2, .int .i64 0, .string ⟨#[97]⟩] 54))
  have hb := below_then (below_alloc w (.cells #[.int .i64 1, .int .i64 7, .string ⟨#[]⟩, .int .i64 2, .int .i64 0, .string ⟨#[97]⟩] 54)) (below_alloc _ (.cells #[.int .i64 3, .int .i64 0, .string ⟨#[]⟩, .int .i64 2, .int .i64 0, .string ⟨#[97]⟩] 54))
  have HRT := Lib.hid hT1
  have HRP := Lib.hid hP0
  have HB := Lib.hid hb
  clear hT1 hP0 hb
  clear hT0
  go_enter Try.func39, Try.ntmps39
  go_wp2_with fail
  refine (TPut_yes _ (fun _ => none) _ 2 2 toldT M6.out (Wf_none _) HRT.out).mono ?_
  rintro e w1 ⟨A1, n1, cp1, rfl, q_HO1, q_HB1⟩
  have HO1 := Lib.hid q_HO1
  have HB1 := Lib.hid q_HB1
  clear q_HO1 q_HB1
  have HX1 := Lib.hid (own_rd (c := fun _ => none) HO1.out (Wf_none _))
  have hn1 : n1 ≤ 1000000000000 := by have := own_len HO1.out; have := (tupB_len M6.out).2; omega
  go_wp2_with fail
  refine (TGet_yes w1 (fun _ => none) A1 n1 cp1 _ toldT M9.out (Wf_none _) hn1 HX1.out).mono ?_
  rintro e w2 ⟨A2, n2, cp2, rfl, q_HX2, q_HB2⟩
  have HX2 := Lib.hid q_HX2
  have HB2 := Lib.hid q_HB2
  clear q_HX2 q_HB2
  have HBB2 := Lib.hid (below_then HB1.out HB2.out)
  go_wp2_with fail
  refine (TPut_no w2 (fun _ => none) none 0 0 [] M8.out (Wf_none _) (Rd.nil _ _ _)).mono ?_
  rintro e w3 ⟨rfl, q_HB3⟩
  have HB3 := Lib.hid q_HB3
  clear q_HB3
  have HBB3 := Lib.hid (below_then HBB2.out HB3.out)
  go_wp2_with fail
  refine (bool_eq M1.out (Match_any w3 (fun _ => none) _ _ 2 2 2 2 toldP toldT (HRP.out.below HBB3.out) (HRT.out.below HBB3.out))).mono ?_
  rintro e w4 ⟨rfl, q_HB4⟩
  have HB4 := Lib.hid q_HB4
  clear q_HB4
  have HBB4 := Lib.hid (below_then HBB3.out HB4.out)
  go_wp2_with fail
  refine (bool_eq M2.out (Match_any w4 (fun _ => none) _ _ 2 2 2 2 toldT toldP (HRT.out.below HBB4.out) (HRP.out.below HBB4.out))).mono ?_
  rintro e w5 ⟨rfl, q_HB5⟩
  have HB5 := Lib.hid q_HB5
  clear q_HB5
  have HBB5 := Lib.hid (below_then HBB4.out HB5.out)
  go_wp2_with fail
  refine (bool_eq M3.out (May_any w5 (fun _ => none) _ 2 2 toldT (HRT.out.below HBB5.out))).mono ?_
  rintro e w6 ⟨rfl, q_HB6⟩
  have HB6 := Lib.hid q_HB6
  clear q_HB6
  have HBB6 := Lib.hid (below_then HBB5.out HB6.out)
  go_wp2_with fail
  refine (bool_eq M4.out (May_any w6 (fun _ => none) _ 2 2 toldP (HRP.out.below HBB6.out))).mono ?_
  rintro e w7 ⟨rfl, q_HB7⟩
  have HB7 := Lib.hid q_HB7
  clear q_HB7
  have HBB7 := Lib.hid (below_then HBB6.out HB7.out)
  go_wp2_with fail
  refine (bool_eq M5.out (MayT_any w7 (fun _ => none) _ 2 2 toldP (HRP.out.below HBB7.out))).mono ?_
  rintro e w8 ⟨rfl, q_HB8⟩
  have HB8 := Lib.hid q_HB8
  clear q_HB8
  have HBB8 := Lib.hid (below_then HBB7.out HB8.out)
  go_wp2_with fail
  refine (bool_eq M7.out (TSame_any w8 (fun _ => none) _ _ n2 cp2 2 2 toldT toldT (HX2.out.below (below_then (below_then (below_then (below_then (below_then HB3.out HB4.out) HB5.out) HB6.out) HB7.out) HB8.out)) (HRT.out.below HBB8.out))).mono ?_
  rintro e w9 ⟨rfl, q_HB9⟩
  have HB9 := Lib.hid q_HB9
  clear q_HB9
  have HBB9 := Lib.hid (below_then HBB8.out HB9.out)
  go_wp2_with fail
  go_ret
  exact ⟨rfl, below_then HB.out HBB9.out⟩
end Go.Proofs.Ytladpckbajnbeaa
