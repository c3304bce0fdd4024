/- oper.Get. -/
import Derived.Test.YtladpckbajnbeaaOperP
import Derived.Test.YtladpckbajnbeaaTupD
set_option linter.unusedVariables false
set_option linter.unusedSimpArgs false
namespace Go.Proofs.Ytladpckbajnbeaa
open Go.RowKit

theorem set6_tr {M : Nat → Prop} {c c1 : Col} {w w1 : World} {b : Nat} (h : Tr M c c1 w w1) (hp : c1 b = some b) (hg : M b ∨ w.heap.size ≤ b) (u0 u1 u2 u3 u4 u5 : Value) :
    Tr M c c1 w ((((((w1.setCell ⟨b, 0, none⟩ u0).setCell ⟨b, 1, none⟩ u1).setCell ⟨b, 2, none⟩ u2).setCell ⟨b, 3, none⟩ u3).setCell ⟨b, 4, none⟩ u4).setCell ⟨b, 5, none⟩ u5) :=
  (((((h.setCell (p := ⟨b, 0, none⟩) hp hg u0).setCell (p := ⟨b, 1, none⟩) hp hg u1).setCell (p := ⟨b, 2, none⟩) hp hg u2).setCell (p := ⟨b, 3, none⟩) hp hg u3).setCell (p := ⟨b, 4, none⟩) hp hg u4).setCell (p := ⟨b, 5, none⟩) hp hg u5
def ReqPost (w : World) (c : Col) (x : Req) (v : Int) (e : Ending) (w' : World) : Prop :=
  ∃ A n cp B m cq, e = .returned (.tuple #[rV x A n cp B m cq, .int .i64 v]) ∧ Rd kFld w' c A n cp x.p ∧ Rd kFld w' c B m cq x.t ∧ Below w.heap.size w w'
end Go.Proofs.Ytladpckbajnbeaa
