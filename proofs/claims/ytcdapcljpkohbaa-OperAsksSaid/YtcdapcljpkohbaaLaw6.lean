/- law6: told. -/
import Derived.Test.YtcdapcljpkohbaaTupP
import Derived.Test.YtcdapcljpkohbaaTupC
import Derived.Deep.RegionHeld3
set_option linter.unusedVariables false
set_option linter.unusedSimpArgs false
namespace Go.Proofs.Ytcdapcljpkohbaa
open Go.RowKit

/-- A literal of fields reads. -/
theorem Rd.flds {w : World} {c : Col} (hc : Wf c w) (l : List Fld) (cs : Array Value) (hcs : cs.toList = l.flatMap fCells) (hl : l.length ≤ 1000000000) (hok : ∀ x ∈ l, x.ok) :
    Rd kFld (w.alloc (.cells cs 40)) c (some ⟨w.heap.size, 0, none⟩) l.length l.length l := by
  have h := World.ownsRow_lit (base := w.heap.size) (e := 40) (size := 3) w cs l.length (Nat.le_refl _) (by simp only [maxLen]; omega) (by rw [← Array.length_toList, hcs, fCells_len])
  rw [hcs] at h
  obtain ⟨A, cp, he, hr⟩ := Rd.of_own (K := kFld) (c := c) h rfl (fun k hk => hc.fresh (h.lt k hk).1) (fun j x hj => flds_rep hok j x hj)
  cases he
  exact hr
def toldT : List Fld := [⟨1, 7, []⟩, ⟨2, 0, [97]⟩]
def toldP : List Fld := [⟨3, 0, []⟩, ⟨2, 0, [97]⟩]
theorem toldT_ok : ∀ x ∈ toldT, x.ok := by intro x hx; simp [toldT] at hx; rcases hx with rfl | rfl <;> (unfold Fld.ok; simp)
theorem toldP_ok : ∀ x ∈ toldP, x.ok := by intro x hx; simp [toldP] at hx; rcases hx with rfl | rfl <;> (unfold Fld.ok; simp)
theorem Wf_none (w : World) : Wf (fun _ => none) w := fun k g e => by cases e

theorem TPut_yes (w : World) (c : Col) (A : Option Addr) (n cp : Nat) (l : List Fld) (hm : mayTB l = true) (hw : Wf c w) (hx : Rd kFld w c A n cp l) :
    Calls Try.prog 50 #[.slice A n cp] w fun e w' => ∃ A' n' cp', e = .returned (.tuple #[.slice A' n' cp', .int .i64 0]) ∧ w'.ownsRow w.heap.size 5 1 (.slice A' n' cp') n' (bcells (tupB l)) ∧ Below w.heap.size w w' := by
  refine (TPut_any w c A n cp l hw hx).mono fun e w' h => ?_
  unfold PutPost at h
  rw [if_pos hm] at h
  obtain ⟨hb, A', n', cp', he, ho⟩ := h
  exact ⟨A', n', cp', he, ho, hb⟩
theorem TPut_no (w : World) (c : Col) (A : Option Addr) (n cp : Nat) (l : List Fld) (hm : mayTB l = false) (hw : Wf c w) (hx : Rd kFld w c A n cp l) :
    Calls Try.prog 50 #[.slice A n cp] w fun e w' => e = .returned (.tuple #[.slice none 0 0, .int .i64 1]) ∧ Below w.heap.size w w' := by
  refine (TPut_any w c A n cp l hw hx).mono fun e w' h => ?_
  unfold PutPost at h
  rw [if_neg (by simp [hm])] at h
  exact ⟨h.2, h.1⟩
def GetP (w : World) (c : Col) (l : List Fld) (v : Int) (e : Ending) (w' : World) : Prop :=
  ∃ A n cp, e = .returned (.tuple #[.slice A n cp, .int .i64 v]) ∧ Rd kFld w' c A n cp l ∧ Below w.heap.size w w'
theorem GetPost.yes {w : World} {c : Col} {r : List Fld × Bool} {l : List Fld} (hr : r = (l, true)) {e : Ending} {w' : World} (h : GetPost w c r e w') : GetP w c l 0 e w' := by
  subst hr
  obtain ⟨hb, A, n, cp, he, hx⟩ := h
  exact ⟨A, n, cp, he, hx, hb⟩
theorem GetPost.no {w : World} {c : Col} {r : List Fld × Bool} (hr : r = ([], false)) {e : Ending} {w' : World} (h : GetPost w c r e w') : GetP w c [] 2 e w' := by
  subst hr
  obtain ⟨hb, A, n, cp, he, hx⟩ := h
  exact ⟨A, n, cp, he, hx, hb⟩
theorem TGet_yes (w : World) (c : Col) (A : Option Addr) (n cp : Nat) (b : List UInt8) (l : List Fld) (hr : tupGet b = (l, true)) (hw : Wf c w) (hl : n ≤ 1000000000000) (hx : Rd kU8 w c A n cp b) :
    Calls Try.prog 38 #[.slice A n cp] w (GetP w c l 0) := (TGet_any w c A n cp b hw hl hx).mono fun e w' h => h.yes hr
theorem TGet_no (w : World) (c : Col) (A : Option Addr) (n cp : Nat) (b : List UInt8) (hr : tupGet b = ([], false)) (hw : Wf c w) (hl : n ≤ 1000000000000) (hx : Rd kU8 w c A n cp b) :
    Calls Try.prog 38 #[.slice A n cp] w (GetP w c [] 2) := (TGet_any w c A n cp b hw hl hx).mono fun e w' h => h.no hr
theorem bool_eq {w : World} {b b' : Bool} (h : b = b') {f : FuncId} {args : Array Value} (k : Calls Try.prog f args w (BoolPost w b)) : Calls Try.prog f args w (BoolPost w b') := h ▸ k

end Go.Proofs.Ytcdapcljpkohbaa
