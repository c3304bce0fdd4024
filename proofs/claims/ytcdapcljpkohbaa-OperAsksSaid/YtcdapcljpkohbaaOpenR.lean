/- A request that came in. -/
import Derived.Test.YtcdapcljpkohbaaOpenF
import Derived.Test.YtcdapcljpkohbaaOperA
set_option linter.unusedVariables false
namespace Go.Proofs.Ytcdapcljpkohbaa
open Go.ChangeShapes Go.WideShapes Go.ChangeAt Go.RowKit Go.Deep
theorem open_req {r : Reach} {b0 : Nat} {H : Type} {enc : TypeId × Value → H} {w : World} {base : Nat} {spare : Nat → Bool} {held : Bool} {v : Value} {d : DataW H} {p : List MemPlace}
    (hv : Value.okWide Try.prog w r b0 24 v) (h : DataW.Trod enc Try.prog w base spare held 24 v d p) :
    ∃ (x : Req) (A : Option Addr) (n cp : Nat) (B : Option Addr) (m cq : Nat), v = rV x A n cp B m cq ∧ Rd kFld w (fun _ => none) A n cp x.p ∧ Rd kFld w (fun _ => none) B m cq x.t := by
  obtain ⟨cs, rfl, hsz⟩ := okWide_struct Try.underlying24 hv
  obtain ⟨fuel, hf0⟩ := h
  have hf : DataW.trod enc Try.prog w base spare held fuel 24 cs.toList = some (d, p) := by simpa [Value.cells] using hf0
  obtain ⟨hl, n, hf⟩ := trod_cells Try.underlying24 (by kernel_rfl) (by kernel_rfl) hf
  obtain ⟨v0, z0, hv0, h0⟩ := hf 0 _ rfl
  obtain ⟨v1, z1, hv1, h1⟩ := hf 1 _ rfl
  obtain ⟨v2, z2, hv2, h2⟩ := hf 2 _ rfl
  obtain ⟨v3, z3, hv3, h3⟩ := hf 3 _ rfl
  obtain ⟨v4, z4, hv4, h4⟩ := hf 4 _ rfl
  obtain ⟨v5, z5, hv5, h5⟩ := hf 5 _ rfl
  obtain ⟨a0, e0, _, w0⟩ := DataW.trod_int Try.underlying3 h0
  obtain ⟨a1, e1, _, w1⟩ := DataW.trod_int Try.underlying3 h1
  obtain ⟨a2, e2, _, w2⟩ := DataW.trod_int Try.underlying3 h2
  obtain ⟨A, k, cp, xs, e3, R3, _⟩ := open_rd (K := kFld) Try.underlying22 (by kernel_rfl) opens_fld h3
  obtain ⟨B, m, cq, ys, e4, R4, _⟩ := open_rd (K := kFld) Try.underlying22 (by kernel_rfl) opens_fld h4
  obtain ⟨a5, e5, _, w5⟩ := DataW.trod_int Try.underlying3 h5
  cases e0; cases e1; cases e2; cases e3; cases e4; cases e5
  have hcs : cs.toList = [.int .i64 a0, .int .i64 a1, .int .i64 a2, .slice A k cp, .slice B m cq, .int .i64 a5] := list_eq6 hl hv0 hv1 hv2 hv3 hv4 hv5
  refine ⟨⟨a0, a1, a2, xs, ys, a5⟩, A, k, cp, B, m, cq, ?_, R3, R4⟩
  show Value.agg cs = _
  congr 1
  apply Array.ext'
  exact hcs
end Go.Proofs.Ytcdapcljpkohbaa
