/- ref6: requests read from their bytes. -/
import Derived.Test.YtladpckbajnbeaaOperG
import Derived.Test.YtladpckbajnbeaaRefG
set_option linter.unusedVariables false
set_option linter.unusedSimpArgs false
namespace Go.Proofs.Ytladpckbajnbeaa
open Go.RowKit

theorem ret_i64 {a b : Int} (h : a = b) : Ending.returned (.int .i64 a) = .returned (.int .i64 b) := by rw [h]
/-- Fields that were read by a reader. -/
def RlPost (w : World) (c : Col) (g : Nat) (l : List Fld) (r : RS) (e : Ending) (w' : World) : Prop :=
  ∃ A n cp, e = .returned (.slice A n cp) ∧ Tr (· = g) c c w w' ∧ Rf w' c g r ∧ Rd kFld w' c A n cp l
theorem numberS_le (r : RS) : (numberS r).2.xs.length ≤ r.xs.length := by
  have := RS.num_le r 8
  unfold numberS
  split <;> exact this
theorem someS_le (r : RS) : (someS r).2.xs.length ≤ r.xs.length := by
  have := RS.text_le' r 1000
  unfold someS
  dsimp only
  split
  · exact this
  · dsimp only
    split <;> exact this
end Go.Proofs.Ytladpckbajnbeaa
