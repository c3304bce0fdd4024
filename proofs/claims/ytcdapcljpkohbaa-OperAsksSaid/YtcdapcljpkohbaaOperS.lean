/- oper.Same, ref6.SameRequest, law7's words. -/
import Derived.Test.YtcdapcljpkohbaaRefQ
set_option linter.unusedVariables false
set_option linter.unusedSimpArgs false
namespace Go.Proofs.Ytcdapcljpkohbaa
open Go.RowKit

def sameR (x y : Req) : Bool := x.client == y.client && (x.seq == y.seq && (x.kind == y.kind && (x.lease == y.lease && (sameL x.p y.p && sameL x.t y.t))))
theorem Req.ext' {x y : Req} (h1 : x.client = y.client) (h2 : x.seq = y.seq) (h3 : x.kind = y.kind) (h4 : x.p = y.p) (h5 : x.t = y.t) (h6 : x.lease = y.lease) : x = y := by
  cases x; cases y; simp at h1 h2 h3 h4 h5 h6; simp [h1, h2, h3, h4, h5, h6]
theorem sameR_iff {x y : Req} : sameR x y = true ↔ x = y := by
  unfold sameR
  simp only [Bool.and_eq_true, beq_iff_eq, sameL_iff]
  exact ⟨fun ⟨h1, h2, h3, h6, h4, h5⟩ => Req.ext' h1 h2 h3 h4 h5 h6, fun h => by subst h; exact ⟨rfl, rfl, rfl, rfl, rfl, rfl⟩⟩
theorem below_newcell2 {w w2 : World} {cs cs' : Array Value} {t t' : TypeId} (h : Below ((w.alloc (.cells cs t)).alloc (.cells cs' t')).heap.size ((w.alloc (.cells cs t)).alloc (.cells cs' t')) w2) (i : Nat) (u : Value) (hi : cs[i]? = some u) :
    w2.cell? ⟨w.heap.size, i, none⟩ = some u := by
  rw [h.cell (p := ⟨w.heap.size, i, none⟩) (by simp; omega), (below_alloc (w.alloc (.cells cs t)) (.cells cs' t')).cell (p := ⟨w.heap.size, i, none⟩) (by simp), cell_of_row _ _ _ cs t (0, 0) (heap_alloc_new w _)]
  exact hi
set_option maxRecDepth 100000 in
set_option maxHeartbeats 2000000 in
theorem OSame_any (w : World) (c : Col) (x y : Req) (A : Option Addr) (n cp : Nat) (B : Option Addr) (m cq : Nat) (C : Option Addr) (k ck : Nat) (D : Option Addr) (j cj : Nat)
    (hx : Rd kFld w c A n cp x.p) (hy : Rd kFld w c B m cq x.t) (hz : Rd kFld w c C k ck y.p) (hu : Rd kFld w c D j cj y.t) :
    Calls Try.prog 17 #[rV x A n cp B m cq, rV y C k ck D j cj] w (BoolPost w (sameR x y)) := by
  have HX := Lib.hid hx
  have HY := Lib.hid hy
  have HZ := Lib.hid hz
  have HU := Lib.hid hu
  clear hx hy hz hu
  obtain ⟨cl, sq, kd, p, t, ls⟩ := x
  obtain ⟨cl2, sq2, kd2, p2, t2, ls2⟩ := y
  have hb2 : Hid (∀ o1 o2, Below w.heap.size w ((w.alloc o1).alloc o2)) := fun o1 o2 => below_then (below_alloc w o1) (below_alloc _ o2)
  by_cases hN : cl = cl2 ∧ sq = sq2 ∧ kd = kd2 ∧ ls = ls2
  · obtain ⟨rfl, rfl, rfl, rfl⟩ := hN
    have HR : Hid (sameR ⟨cl, sq, kd, p, t, ls⟩ ⟨cl, sq, kd, p2, t2, ls⟩ = (sameL p p2 && sameL t t2)) := by show _ = _; unfold sameR; simp
    generalize sameR ⟨cl, sq, kd, p, t, ls⟩ ⟨cl, sq, kd, p2, t2, ls⟩ = r at HR
    cases hp : sameL p p2 with
    | false =>
      have HP := Lib.hid hp
      rw [hp, Bool.false_and] at HR
      clear hp
      go_enter Try.func17, Try.ntmps17
      go_wp2_with fail
      refine (bool_eq HP.out (TSame_any _ c A C n cp k ck p p2 (HX.out.below (hb2.out _ _)) (HZ.out.below (hb2.out _ _)))).mono ?_
      rintro e w1 ⟨rfl, q_HB1⟩
      have HB1 := Lib.hid q_HB1
      clear q_HB1
      go_wp2_with fail
      go_ret
      exact ⟨ret_bool HR.out.symm, below_then (hb2.out _ _) HB1.out⟩
    | true =>
      have HP := Lib.hid hp
      rw [hp, Bool.true_and] at HR
      clear hp
      go_enter Try.func17, Try.ntmps17
      go_wp2_with fail
      refine (bool_eq HP.out (TSame_any _ c A C n cp k ck p p2 (HX.out.below (hb2.out _ _)) (HZ.out.below (hb2.out _ _)))).mono ?_
      rintro e w1 ⟨rfl, q_HB1⟩
      have HB1 := Lib.hid q_HB1
      clear q_HB1
      have HC := Lib.hid (below_then (hb2.out _ _) HB1.out)
      have x4 := below_newcell2 HB1.out 4 _ rfl
      have y4 : w1.cell? ⟨w.heap.size + 1, 4, none⟩ = some (.slice D j cj) := by have := below_newcell HB1.out 4 _ rfl; simpa using this
      go_wp2_with fail
      refine (TSame_any _ c B D m cq j cj t t2 (HY.out.below HC.out) (HU.out.below HC.out)).mono ?_
      rintro e w2 ⟨rfl, q_HB2⟩
      have HB2 := Lib.hid q_HB2
      clear q_HB2
      go_wp2_with fail
      go_ret
      exact ⟨ret_bool HR.out.symm, below_then HC.out HB2.out⟩
  · have HR : Hid (sameR ⟨cl, sq, kd, p, t, ls⟩ ⟨cl2, sq2, kd2, p2, t2, ls2⟩ = false) := by
      show _ = _
      rw [← Bool.not_eq_true]
      intro e
      unfold sameR at e
      simp only [Bool.and_eq_true, beq_iff_eq] at e
      exact hN ⟨e.1, e.2.1, e.2.2.1, e.2.2.2.1⟩
    generalize sameR ⟨cl, sq, kd, p, t, ls⟩ ⟨cl2, sq2, kd2, p2, t2, ls2⟩ = r at HR
    have HN := Lib.hid hN
    clear hN
    go_enter Try.func17, Try.ntmps17
    go_wp2_with fail
    all_goals
      first
        | (exfalso; exact HN.out ⟨by first | rfl | assumption, by first | rfl | assumption, by first | rfl | assumption, by first | rfl | assumption⟩)
        | (go_ret; exact ⟨ret_bool HR.out.symm, hb2.out _ _⟩)
set_option maxRecDepth 100000 in
set_option maxHeartbeats 2000000 in
theorem r6SameR_any (w : World) (c : Col) (x y : Req) (A : Option Addr) (n cp : Nat) (B : Option Addr) (m cq : Nat) (C : Option Addr) (k ck : Nat) (D : Option Addr) (j cj : Nat)
    (hx : Rd kFld w c A n cp x.p) (hy : Rd kFld w c B m cq x.t) (hz : Rd kFld w c C k ck y.p) (hu : Rd kFld w c D j cj y.t) :
    Calls Try.prog 16 #[rV x A n cp B m cq, rV y C k ck D j cj] w (BoolPost w (sameR x y)) := by
  have HX := Lib.hid hx
  have HY := Lib.hid hy
  have HZ := Lib.hid hz
  have HU := Lib.hid hu
  clear hx hy hz hu
  obtain ⟨cl, sq, kd, p, t, ls⟩ := x
  obtain ⟨cl2, sq2, kd2, p2, t2, ls2⟩ := y
  have hb2 : Hid (∀ o1 o2, Below w.heap.size w ((w.alloc o1).alloc o2)) := fun o1 o2 => below_then (below_alloc w o1) (below_alloc _ o2)
  by_cases hN : cl = cl2 ∧ sq = sq2 ∧ kd = kd2 ∧ ls = ls2
  · obtain ⟨rfl, rfl, rfl, rfl⟩ := hN
    have HR : Hid (sameR ⟨cl, sq, kd, p, t, ls⟩ ⟨cl, sq, kd, p2, t2, ls⟩ = (sameL p p2 && sameL t t2)) := by show _ = _; unfold sameR; simp
    generalize sameR ⟨cl, sq, kd, p, t, ls⟩ ⟨cl, sq, kd, p2, t2, ls⟩ = r at HR
    cases hp : sameL p p2 with
    | false =>
      have HP := Lib.hid hp
      rw [hp, Bool.false_and] at HR
      clear hp
      go_enter Try.func16, Try.ntmps16
      go_wp2_with fail
      refine (bool_eq HP.out (r6Same_any _ c A C n cp k ck p p2 (HX.out.below (hb2.out _ _)) (HZ.out.below (hb2.out _ _)))).mono ?_
      rintro e w1 ⟨rfl, q_HB1⟩
      have HB1 := Lib.hid q_HB1
      clear q_HB1
      go_wp2_with fail
      go_ret
      exact ⟨ret_bool HR.out.symm, below_then (hb2.out _ _) HB1.out⟩
    | true =>
      have HP := Lib.hid hp
      rw [hp, Bool.true_and] at HR
      clear hp
      go_enter Try.func16, Try.ntmps16
      go_wp2_with fail
      refine (bool_eq HP.out (r6Same_any _ c A C n cp k ck p p2 (HX.out.below (hb2.out _ _)) (HZ.out.below (hb2.out _ _)))).mono ?_
      rintro e w1 ⟨rfl, q_HB1⟩
      have HB1 := Lib.hid q_HB1
      clear q_HB1
      have HC := Lib.hid (below_then (hb2.out _ _) HB1.out)
      have x4 := below_newcell2 HB1.out 4 _ rfl
      have y4 : w1.cell? ⟨w.heap.size + 1, 4, none⟩ = some (.slice D j cj) := by have := below_newcell HB1.out 4 _ rfl; simpa using this
      go_wp2_with fail
      refine (r6Same_any _ c B D m cq j cj t t2 (HY.out.below HC.out) (HU.out.below HC.out)).mono ?_
      rintro e w2 ⟨rfl, q_HB2⟩
      have HB2 := Lib.hid q_HB2
      clear q_HB2
      go_wp2_with fail
      go_ret
      exact ⟨ret_bool HR.out.symm, below_then HC.out HB2.out⟩
  · have HR : Hid (sameR ⟨cl, sq, kd, p, t, ls⟩ ⟨cl2, sq2, kd2, p2, t2, ls2⟩ = false) := by
      show _ = _
      rw [← Bool.not_eq_true]
      intro e
      unfold sameR at e
      simp only [Bool.and_eq_true, beq_iff_eq] at e
      exact hN ⟨e.1, e.2.1, e.2.2.1, e.2.2.2.1⟩
    generalize sameR ⟨cl, sq, kd, p, t, ls⟩ ⟨cl2, sq2, kd2, p2, t2, ls2⟩ = r at HR
    have HN := Lib.hid hN
    clear hN
    go_enter Try.func16, Try.ntmps16
    go_wp2_with fail
    all_goals
      first
        | (exfalso; exact HN.out ⟨by first | rfl | assumption, by first | rfl | assumption, by first | rfl | assumption, by first | rfl | assumption⟩)
        | (go_ret; exact ⟨ret_bool HR.out.symm, hb2.out _ _⟩)
def fewR (x : Req) : Bool := fewB x.p && fewB x.t
set_option maxHeartbeats 1000000 in
theorem l7Few_any (w : World) (c : Col) (x : Req) (A : Option Addr) (n cp : Nat) (B : Option Addr) (m cq : Nat) (hx : Rd kFld w c A n cp x.p) (hy : Rd kFld w c B m cq x.t) :
    Calls Try.prog 7 #[rV x A n cp B m cq] w (BoolPost w (fewR x)) := by
  have HX := Lib.hid hx
  have HY := Lib.hid hy
  clear hx hy
  obtain ⟨cl, sq, kd, p, t, ls⟩ := x
  have HR : Hid (fewR ⟨cl, sq, kd, p, t, ls⟩ = (fewB p && fewB t)) := rfl
  generalize fewR ⟨cl, sq, kd, p, t, ls⟩ = r at HR
  cases hp : fewB p with
  | false =>
    have HP := Lib.hid hp
    rw [hp, Bool.false_and] at HR
    clear hp
    go_enter Try.func7, Try.ntmps7
    go_wp2_with fail
    refine (bool_eq HP.out (l6Few_any _ c A n cp p (HX.out.below (below_alloc _ _)))).mono ?_
    rintro e w1 ⟨rfl, q_HB1⟩
    have HB1 := Lib.hid q_HB1
    clear q_HB1
    go_wp2_with fail
    go_ret
    exact ⟨ret_bool HR.out.symm, below_then (below_alloc _ _) HB1.out⟩
  | true =>
    have HP := Lib.hid hp
    rw [hp, Bool.true_and] at HR
    clear hp
    go_enter Try.func7, Try.ntmps7
    go_wp2_with fail
    refine (bool_eq HP.out (l6Few_any _ c A n cp p (HX.out.below (below_alloc _ _)))).mono ?_
    rintro e w1 ⟨rfl, q_HB1⟩
    have HB1 := Lib.hid q_HB1
    clear q_HB1
    have y4 := below_newcell HB1.out 4 _ rfl
    go_wp2_with fail
    refine (l6Few_any _ c B m cq t (HY.out.below (below_then (below_alloc _ _) HB1.out))).mono ?_
    rintro e w2 ⟨rfl, q_HB2⟩
    have HB2 := Lib.hid q_HB2
    clear q_HB2
    go_wp2_with fail
    go_ret
    exact ⟨ret_bool HR.out.symm, below_then (below_then (below_alloc _ _) HB1.out) HB2.out⟩
end Go.Proofs.Ytcdapcljpkohbaa
