/- More words. -/
import Derived.Test.YtladpckbajnbeaaLib
set_option linter.unusedVariables false
namespace Go.Proofs.Ytladpckbajnbeaa
open Go.RowKit
theorem Kp.cell {c c' : Col} {w w' : World} (h : Kp c c' w w') {b i : Nat} (hb : b < w.heap.size) (hc : c b = none) : w'.cell? ⟨b, i, none⟩ = w.cell? ⟨b, i, none⟩ :=
  World.cell?_of_block (a := ⟨b, i, none⟩) (h.cold b hb hc).2
end Go.Proofs.Ytladpckbajnbeaa
