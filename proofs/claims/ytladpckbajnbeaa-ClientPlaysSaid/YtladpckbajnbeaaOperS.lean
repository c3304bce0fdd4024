/- oper.Same, ref6.SameRequest, law7's words. -/
import Derived.Test.YtladpckbajnbeaaRefQ
set_option linter.unusedVariables false
set_option linter.unusedSimpArgs false
namespace Go.Proofs.Ytladpckbajnbeaa
open Go.RowKit

def sameR (x y : Req) : Bool := x.client == y.client && (x.seq == y.seq && (x.kind == y.kind && (x.lease == y.lease && (sameL x.p y.p && sameL x.t y.t))))
theorem Req.ext' {x y : Req} (h1 : x.client = y.client) (h2 : x.seq = y.seq) (h3 : x.kind = y.kind) (h4 : x.p = y.p) (h5 : x.t = y.t) (h6 : x.lease = y.lease) : x = y := by
  cases x; cases y; simp at h1 h2 h3 h4 h5 h6; simp [h1, h2, h3, h4, h5, h6]
theorem sameR_iff {x y : Req} : sameR x y = true ↔ x = y := by
  unfold sameR
  simp only [Bool.and_eq_true, beq_iff_eq, sameL_iff]
  exact ⟨fun ⟨h1, h2, h3, h6, h4, h5⟩ => Req.ext' h1 h2 h3 h4 h5 h6, fun h => by subst h; exact ⟨rfl, rfl, rfl, rfl, rfl, rfl⟩⟩
theorem below_newcell2 {w w2 : World} {cs cs' : Array Value} {t t' : TypeId} (h : Below ((w.alloc (.cells cs t)).alloc (.cells cs' t')).heap.size ((w.alloc (.cells cs t)).alloc (.cells cs' t')) w2) (i : Nat) (u : Value) (hi : cs[i]? = some u) :
    w2.cell? ⟨w.heap.size, i, none⟩ = some u := by
  rw [h.cell (p := ⟨w.heap.size, i, none⟩) (by simp; omega), (below_alloc (w.alloc (.cells cs t)) (.cells cs' t')).cell (p := ⟨w.heap.size, i, none⟩) (by simp), cell_of_row _ _ _ cs t (0, 0) (heap_alloc_new w _)]
  exact hi
def fewR (x : Req) : Bool := fewB x.p && fewB x.t
set_option maxHeartbeats 1000000 in
theorem l7Few_any (w : World) (c : Col) (x : Req) (A : Option Addr) (n cp : Nat) (B : Option Addr) (m cq : Nat) (hx : Rd kFld w c A n cp x.p) (hy : Rd kFld w c B m cq x.t) :
    Calls Try.prog 58 #[rV x A n cp B m cq] w (BoolPost w (fewR x)) := by
  have HX := Lib.hid hx
  have HY := Lib.hid hy
  clear hx hy
  obtain ⟨cl, sq, kd, p, t, ls⟩ := x
  have HR : Hid (fewR ⟨cl, sq, kd, p, t, ls⟩ = (fewB p && fewB t)) := rfl
  generalize fewR ⟨cl, sq, kd, p, t, ls⟩ = r at HR
  cases hp : fewB p with
  | false =>
    have HP := Lib.hid hp
    rw [hp, Bool.false_and] at HR
    clear hp
    go_enter Try.func58, Try.ntmps58
    go_wp2_with fail
    refine (bool_eq HP.out (l6Few_any _ c A n cp p (HX.out.below (below_alloc _ _)))).mono ?_
    rintro e w1 ⟨rfl, q_HB1⟩
    have HB1 := Lib.hid q_HB1
    clear q_HB1
    go_wp2_with fail
    go_ret
    exact ⟨ret_bool HR.out.symm, below_then (below_alloc _ _) HB1.out⟩
  | true =>
    have HP := Lib.hid hp
    rw [hp, Bool.true_and] at HR
    clear hp
    go_enter Try.func58, Try.ntmps58
    go_wp2_with fail
    refine (bool_eq HP.out (l6Few_any _ c A n cp p (HX.out.below (below_alloc _ _)))).mono ?_
    rintro e w1 ⟨rfl, q_HB1⟩
    have HB1 := Lib.hid q_HB1
    clear q_HB1
    have y4 := below_newcell HB1.out 4 _ rfl
    go_wp2_with fail
    refine (l6Few_any _ c B m cq t (HY.out.below (below_then (below_alloc _ _) HB1.out))).mono ?_
    rintro e w2 ⟨rfl, q_HB2⟩
    have HB2 := Lib.hid q_HB2
    clear q_HB2
    go_wp2_with fail
    go_ret
    exact ⟨ret_bool HR.out.symm, below_then (below_then (below_alloc _ _) HB1.out) HB2.out⟩
end Go.Proofs.Ytladpckbajnbeaa
