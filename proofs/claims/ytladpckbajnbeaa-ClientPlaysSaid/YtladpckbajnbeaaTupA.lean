/- tuple: fields, and what may stand where. -/
import Derived.Test.YtladpckbajnbeaaPackB
import Derived.Test.YtladpckbajnbeaaLib2
import Derived.Laws.StructEq
import Derived.Laws.EntriesVeiled
set_option linter.unusedVariables false
set_option linter.unusedSimpArgs false
namespace Go.Proofs.Ytladpckbajnbeaa
open Go.RowKit

structure Fld where
  kind : Int
  n : Int
  s : List UInt8
theorem Fld.ext' {a b : Fld} (h1 : a.kind = b.kind) (h2 : a.n = b.n) (h3 : a.s = b.s) : a = b := by
  cases a; cases b; simp at h1 h2 h3; simp [h1, h2, h3]
def fdEq (x y : Fld) : Bool := x.kind == y.kind && (x.n == y.n && x.s == y.s)
theorem fdEq_iff (x y : Fld) : fdEq x y = true ↔ x = y := by
  unfold fdEq
  simp only [Bool.and_eq_true, beq_iff_eq]
  exact ⟨fun ⟨h1, h2, h3⟩ => Fld.ext' h1 h2 h3, fun h => by subst h; exact ⟨rfl, rfl, rfl⟩⟩
theorem fdEq_refl (x : Fld) : fdEq x x = true := (fdEq_iff x x).2 rfl
theorem fdEq_false {x y : Fld} (h : x ≠ y) : fdEq x y = false := by
  rw [← Bool.not_eq_true]
  exact fun e => h ((fdEq_iff x y).1 e)
/-- Its numbers lie where ints do. -/
def Fld.ok (x : Fld) : Prop := (-9223372036854775808 ≤ x.kind ∧ x.kind ≤ 9223372036854775807) ∧ (-9223372036854775808 ≤ x.n ∧ x.n ≤ 9223372036854775807) ∧ x.s.length ≤ 9223372036854775807
def fCells (x : Fld) : List Value := [.int .i64 x.kind, .int .i64 x.n, .string ⟨x.s.toArray⟩]
def kFld : Kd Fld where
  sz := 3
  pos := by decide
  rep := fun w c x cs => cs = fCells x ∧ x.ok
  len := by rintro w c x cs ⟨rfl, _⟩; rfl
  one := by
    rintro w c x cs ⟨rfl, _⟩ u hu
    simp [fCells] at hu
    rcases hu with rfl | rfl | rfl <;> rfl
  keep := by
    rintro w w' c c' x cs h k
    exact h
/-- Element k of a slice of fields, as the walk loads it. -/
theorem Rd.fld {w : World} {c : Col} {b off n cp : Nat} {l : List Fld} (h : Rd kFld w c (some ⟨b, off, none⟩) n cp l) {k : Nat} {x : Fld} (hx : l[k]? = some x) :
    x.ok ∧ w.cell? ⟨b, off + k * 3, none⟩ = some (.int .i64 x.kind) ∧ w.cell? ⟨b, off + k * 3 + 1, none⟩ = some (.int .i64 x.n) ∧ w.cell? ⟨b, off + k * 3 + 2, none⟩ = some (.string ⟨x.s.toArray⟩) := by
  obtain ⟨_, _, cs, ⟨rfl, hok⟩, hcs⟩ := h.elem hx
  have h0 := hcs 0 _ rfl
  have h1 := hcs 1 _ rfl
  have h2 := hcs 2 _ rfl
  simp only [kFld, Nat.add_zero, ← Nat.add_assoc] at h0 h1 h2
  exact ⟨hok, h0, h1, h2⟩
theorem fld_info : (Try.prog.info? 54).map (fun i => (i.zero, i.size, i.bytes)) = some (some (.agg #[.int .i64 0, .int .i64 0, .string ⟨#[]⟩]), 3, 32) := by kernel_rfl

/-! ### '==' of two fields -/
section
variable {P : Program} {d : Nat} {xs ys : Array Value} {f : Go.Field} {fs : List Go.Field} {a b : Value} {r s : Bool} {w : World}
theorem eqf_last (hn : (f.name == "_") = false) (ha : (part f.type xs f.offset).run P w = .ok a w) (hb : (part f.type ys f.offset).run P w = .ok b w) (he : (Op.equalIn d f.type a b).run P w = .ok r w) : (Op.eqFields d xs ys [f]).run P w = .ok r w := by
  have hn' : f.name ≠ "_" := by simpa using hn
  simp only [Op.eqFields, if_pos hn', Sem.run_bind, ha, hb, he, Result.andThen_ok]
  cases r <;> simp
theorem eqf_cons (hn : (f.name == "_") = false) (ha : (part f.type xs f.offset).run P w = .ok a w) (hb : (part f.type ys f.offset).run P w = .ok b w) (he : (Op.equalIn d f.type a b).run P w = .ok r w) (hr : (Op.eqFields d xs ys fs).run P w = .ok s w) : (Op.eqFields d xs ys (f :: fs)).run P w = .ok (r && s) w := by
  have hn' : f.name ≠ "_" := by simpa using hn
  rw [Op.eqFields]
  simp only [if_pos hn', Sem.run_bind, ha, hb, he, Result.andThen_ok]
  cases r
  · simp
  · simpa using hr
theorem eqA_of {t : TypeId} {fs : Array Go.Field} (hu : P.underlying t = some (.struct fs)) (hp : P.stoodInHeld t = false) (h : (Op.eqFields d xs ys fs.toList).run P w = .ok r w) : (Op.equalIn (d + 1) t (.agg xs) (.agg ys)).run P w = .ok r w := by
  have hf : P.fieldsOf t = fs := by simp [Program.fieldsOf, hu]
  rw [run_equalIn_struct (P := P) w d t xs ys (by rw [hf]; exact hu) hp, hf]
  exact h
end
theorem eq_fld (d : Nat) (w : World) (x y : Fld) : (Op.equalIn (d + 2) 54 (.agg (fCells x).toArray) (.agg (fCells y).toArray)).run Try.prog w = .ok (fdEq x y) w := by
  unfold fCells fdEq
  refine eqA_of Try.underlying54 (by kernel_rfl) ?_
  refine eqf_cons (by rfl) (by go_simp; rfl) (by go_simp; rfl) (by go_simp) ?_
  refine eqf_cons (by rfl) (by go_simp; rfl) (by go_simp; rfl) (by go_simp) ?_
  refine eqf_last (by rfl) (by go_simp; rfl) (by go_simp; rfl) ?_
  go_simp
theorem run_eq_fld (w : World) (x y : Fld) : (binOp .eql 54 (.agg #[.int .i64 x.kind, .int .i64 x.n, .string ⟨x.s.toArray⟩]) (.agg #[.int .i64 y.kind, .int .i64 y.n, .string ⟨y.s.toArray⟩])).run Try.prog w = .ok (.bool (fdEq x y)) w := by
  have h := eq_fld 9998 w x y
  simp only [binOp]
  simp only [fCells] at h
  simp [Op.equal, Op.maxDepth, h]
theorem run_neq_fld (w : World) (x y : Fld) : (binOp .neq 54 (.agg #[.int .i64 x.kind, .int .i64 x.n, .string ⟨x.s.toArray⟩]) (.agg #[.int .i64 y.kind, .int .i64 y.n, .string ⟨y.s.toArray⟩])).run Try.prog w = .ok (.bool (!fdEq x y)) w := by
  have h := eq_fld 9998 w x y
  simp only [binOp]
  simp only [fCells] at h
  simp [Op.equal, Op.maxDepth, h]
end Go.Proofs.Ytladpckbajnbeaa
