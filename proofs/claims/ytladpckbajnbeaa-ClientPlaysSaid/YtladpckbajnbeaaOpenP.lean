/- Replies, whole numbers and what was said, that came in. -/
import Derived.Test.YtladpckbajnbeaaOpenF
import Derived.Test.YtladpckbajnbeaaCliA
set_option linter.unusedVariables false
namespace Go.Proofs.Ytladpckbajnbeaa
open Go.ChangeShapes Go.WideShapes Go.ChangeAt Go.RowKit Go.Deep
set_option maxRecDepth 100000 in
theorem open_rep {r : Reach} {b0 : Nat} {H : Type} {enc : TypeId × Value → H} {w : World} {base : Nat} {spare : Nat → Bool} {held : Bool} {v : Value} {d : DataW H} {p : List MemPlace}
    (hv : Value.okWide Try.prog w r b0 52 v) (h : DataW.Trod enc Try.prog w base spare held 52 v d p) :
    ∃ (x : Rep) (A : Option Addr) (n cp : Nat), v = pV x A n cp ∧ Rd kFld w (fun _ => none) A n cp x.t := by
  obtain ⟨cs, rfl, hsz⟩ := okWide_struct Try.underlying52 hv
  obtain ⟨fuel, hf0⟩ := h
  have hf : DataW.trod enc Try.prog w base spare held fuel 52 cs.toList = some (d, p) := by simpa [Value.cells] using hf0
  obtain ⟨hl, n, hf⟩ := trod_cells Try.underlying52 (by kernel_rfl) (by kernel_rfl) hf
  obtain ⟨v0, z0, hv0, h0⟩ := hf 0 _ rfl
  obtain ⟨v1, z1, hv1, h1⟩ := hf 1 _ rfl
  obtain ⟨v2, z2, hv2, h2⟩ := hf 2 _ rfl
  obtain ⟨v3, z3, hv3, h3⟩ := hf 3 _ rfl
  obtain ⟨v4, z4, hv4, h4⟩ := hf 4 _ rfl
  obtain ⟨a0, e0, _, w0⟩ := DataW.trod_int Try.underlying3 h0
  obtain ⟨a1, e1, _, w1⟩ := DataW.trod_int Try.underlying3 h1
  obtain ⟨a2, e2, _, w2⟩ := DataW.trod_int Try.underlying3 h2
  obtain ⟨A, k, cp, xs, e3, R3, _⟩ := open_rd (K := kFld) Try.underlying50 (by kernel_rfl) opens_fld h3
  obtain ⟨a4, e4, _⟩ := DataW.trod_bool Try.underlying4 h4
  cases e0; cases e1; cases e2; cases e3; cases e4
  have hcs : cs.toList = [.int .i64 a0, .int .i64 a1, .int .i64 a2, .slice A k cp, .bool a4] := list_eq5 hl hv0 hv1 hv2 hv3 hv4
  refine ⟨⟨a0, a1, a2, xs, a4⟩, A, k, cp, ?_, R3⟩
  show Value.agg cs = _
  congr 1
  apply Array.ext'
  exact hcs
theorem opens_rep : Opens Try.prog kRep 52 := by
  intro H enc w base spare held fuel cs y h
  obtain ⟨hl, n, hf⟩ := trod_cells Try.underlying52 (by kernel_rfl) (by kernel_rfl) h
  obtain ⟨v0, z0, hv0, h0⟩ := hf 0 _ rfl
  obtain ⟨v1, z1, hv1, h1⟩ := hf 1 _ rfl
  obtain ⟨v2, z2, hv2, h2⟩ := hf 2 _ rfl
  obtain ⟨v3, z3, hv3, h3⟩ := hf 3 _ rfl
  obtain ⟨v4, z4, hv4, h4⟩ := hf 4 _ rfl
  obtain ⟨a0, e0, _, w0⟩ := DataW.trod_int Try.underlying3 h0
  obtain ⟨a1, e1, _, w1⟩ := DataW.trod_int Try.underlying3 h1
  obtain ⟨a2, e2, _, w2⟩ := DataW.trod_int Try.underlying3 h2
  obtain ⟨A, k, cp, xs, e3, R3, _⟩ := open_rd (K := kFld) Try.underlying50 (by kernel_rfl) opens_fld h3
  obtain ⟨a4, e4, _⟩ := DataW.trod_bool Try.underlying4 h4
  cases e0; cases e1; cases e2; cases e3; cases e4
  exact ⟨⟨a0, a1, a2, xs, a4⟩, A, k, cp, list_eq5 hl hv0 hv1 hv2 hv3 hv4, R3⟩
def kInt : Kd Int where
  sz := 1
  pos := by decide
  rep := fun _ _ x cs => cs = [.int .i64 x]
  len := by intro w c x cs h; subst h; rfl
  one := by intro w c x cs h u hu; subst h; simp at hu; subst hu; rfl
  keep := fun h _ => h
theorem opens_int : Opens Try.prog kInt 3 := by
  intro H enc w base spare held fuel cs y h
  obtain ⟨n, rfl, rfl, hwf⟩ := DataW.trod_int Try.underlying3 h
  exact ⟨n, rfl⟩
theorem Rd.int {w : World} {c : Col} {b off n cp : Nat} {l : List Int} (h : Rd kInt w c (some ⟨b, off, none⟩) n cp l) {k : Nat} {x : Int} (hx : l[k]? = some x) : w.cell? ⟨b, off + k, none⟩ = some (.int .i64 x) := by
  obtain ⟨_, _, cs, hr, hc⟩ := h.elem hx
  have hr' : cs = [.int .i64 x] := hr
  subst hr'
  simpa [kInt] using hc 0 _ rfl
structure Sdr where
  from_ : Int
  l : List Rep
def kSd : Kd Sdr where
  sz := 2
  pos := by decide
  rep := fun w c x cs => ∃ A n cp, cs = [.int .i64 x.from_, .slice A n cp] ∧ Rd kRep w c A n cp x.l
  len := by rintro w c x cs ⟨A, n, cp, rfl, _⟩; rfl
  one := by
    rintro w c x cs ⟨A, n, cp, rfl, _⟩ u hu
    simp at hu
    rcases hu with rfl | rfl <;> rfl
  keep := by
    rintro w w' c c' x cs ⟨A, n, cp, rfl, hr⟩ k
    exact ⟨A, n, cp, rfl, hr.kp k⟩
theorem opens_sd : Opens Try.prog kSd 66 := by
  intro H enc w base spare held fuel cs y h
  obtain ⟨hl, n, hf⟩ := trod_cells Try.underlying66 (by kernel_rfl) (by kernel_rfl) h
  obtain ⟨v0, z0, hv0, h0⟩ := hf 0 _ rfl
  obtain ⟨v1, z1, hv1, h1⟩ := hf 1 _ rfl
  obtain ⟨a0, e0, _, w0⟩ := DataW.trod_int Try.underlying3 h0
  obtain ⟨A, k, cp, xs, e1, R1, _⟩ := open_rd (K := kRep) Try.underlying55 (by kernel_rfl) opens_rep h1
  cases e0; cases e1
  exact ⟨⟨a0, xs⟩, A, k, cp, list_eq2 hl hv0 hv1, R1⟩
theorem Rd.sd {w : World} {c : Col} {b off n cp : Nat} {l : List Sdr} (h : Rd kSd w c (some ⟨b, off, none⟩) n cp l) {k : Nat} {x : Sdr} (hx : l[k]? = some x) :
    ∃ A m cq, Rd kRep w c A m cq x.l ∧ w.cell? ⟨b, off + k * 2, none⟩ = some (.int .i64 x.from_) ∧ w.cell? ⟨b, off + k * 2 + 1, none⟩ = some (.slice A m cq) := by
  obtain ⟨_, _, cs, ⟨A, m, cq, rfl, hR⟩, hc⟩ := h.elem hx
  refine ⟨A, m, cq, hR, ?_, ?_⟩
  · simpa [kSd] using hc 0 _ rfl
  · simpa [kSd, Nat.add_assoc] using hc 1 _ rfl
end Go.Proofs.Ytladpckbajnbeaa
