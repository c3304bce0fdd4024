/- Fields that came in. -/
import Derived.Test.YtladpckbajnbeaaOpen
import Derived.Test.YtladpckbajnbeaaTupA
set_option linter.unusedVariables false
namespace Go.Proofs.Ytladpckbajnbeaa
open Go.ChangeShapes Go.WideShapes Go.ChangeAt Go.RowKit Go.Deep
theorem list_eq6 {α : Type} {cs : List α} {a b c d e f : α} (hl : cs.length = 6) (h0 : cs[0]? = some a) (h1 : cs[1]? = some b) (h2 : cs[2]? = some c) (h3 : cs[3]? = some d) (h4 : cs[4]? = some e) (h5 : cs[5]? = some f) : cs = [a, b, c, d, e, f] := by
  match cs, hl with
  | [x, y, z, t, u, v], _ => simp at h0 h1 h2 h3 h4 h5; simp [h0, h1, h2, h3, h4, h5]
theorem opens_fld : Opens Try.prog kFld 54 := by
  intro H enc w base spare held fuel cs y h
  obtain ⟨hl, n, hf⟩ := trod_cells Try.underlying54 (by kernel_rfl) (by kernel_rfl) h
  obtain ⟨v0, z0, hv0, h0⟩ := hf 0 _ rfl
  obtain ⟨v1, z1, hv1, h1⟩ := hf 1 _ rfl
  obtain ⟨v2, z2, hv2, h2⟩ := hf 2 _ rfl
  obtain ⟨a, e0, _, w0⟩ := DataW.trod_int Try.underlying3 h0
  obtain ⟨b, e1, _, w1⟩ := DataW.trod_int Try.underlying2 h1
  obtain ⟨s, e2, _, hs⟩ := DataW.trod_string Try.underlying9 h2
  cases e0; cases e1; cases e2
  refine ⟨⟨a, b, s.data.toList⟩, list_eq3 hl hv0 hv1 hv2, wf_i64 w0, wf_i64 w1, ?_⟩
  show s.data.toList.length ≤ 9223372036854775807
  rw [Array.length_toList]
  exact hs
end Go.Proofs.Ytladpckbajnbeaa
