/- Whole numbers and truths that came in, in rows. -/
import Derived.Test.YtalihocoekplgaaOpen
import Derived.Test.YtalihocoekplgaaDskB
set_option linter.unusedVariables false
namespace Go.Proofs.Ytalihocoekplgaa
open Go.ChangeShapes Go.WideShapes Go.ChangeAt Go.RowKit Go.Deep
theorem opens_int : Opens Try.prog kInt 3 := by
  intro H enc w base spare held fuel cs y h
  obtain ⟨n, rfl, rfl, hwf⟩ := DataW.trod_int Try.underlying3 h
  exact ⟨n, rfl⟩
def kBool : Kd Bool where
  sz := 1
  pos := by decide
  rep := fun _ _ x cs => cs = [.bool x]
  len := by intro w c x cs h; subst h; rfl
  one := by intro w c x cs h u hu; subst h; simp at hu; subst hu; rfl
  keep := fun h _ => h
theorem opens_bool : Opens Try.prog kBool 4 := by
  intro H enc w base spare held fuel cs y h
  obtain ⟨n, rfl, rfl⟩ := DataW.trod_bool Try.underlying4 h
  exact ⟨n, rfl⟩
theorem Rd.boolAt {w : World} {c : Col} {b off n cp : Nat} {l : List Bool} (h : Rd kBool w c (some ⟨b, off, none⟩) n cp l) {k : Nat} {x : Bool} (hx : l[k]? = some x) : w.cell? ⟨b, off + k, none⟩ = some (.bool x) := by
  obtain ⟨_, _, cs, hr, hc⟩ := h.elem hx
  have hr' : cs = [.bool x] := hr
  subst hr'
  simpa [kBool] using hc 0 _ rfl
end Go.Proofs.Ytalihocoekplgaa
