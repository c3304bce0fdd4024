/- More words. -/
import Derived.Test.YtladpckbajnbeaaLib
set_option linter.unusedVariables false
namespace Go.Proofs.Ytladpckbajnbeaa
open Go.RowKit
theorem Kp.cell {c c' : Col} {w w' : World} (h : Kp c c' w w') {b i : Nat} (hb : b < w.heap.size) (hc : c b = none) : w'.cell? ⟨b, i, none⟩ = w.cell? ⟨b, i, none⟩ :=
  World.cell?_of_block (a := ⟨b, i, none⟩) (h.cold b hb hc).2
theorem own_weak {w : World} {b0 b1 : Nat} {e : TypeId} {sz n : Nat} {v : Value} {xs : List Value} (h : w.ownsRow b0 e sz v n xs) (hb : b1 ≤ b0) : w.ownsRow b1 e sz v n xs := by
  refine ⟨h.1, ?_⟩
  rcases h.2 with hn | ⟨g, cap, cur, rfl, h0, r⟩
  · exact .inl hn
  · exact .inr ⟨g, cap, cur, rfl, by omega, r⟩
end Go.Proofs.Ytladpckbajnbeaa
