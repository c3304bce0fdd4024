/- From the arguments as data to the words of this proof: what a slice that came in reads as. -/
import Derived.Test.YtalihocoekplgaaLib2
import Derived.Test.YtalihocoekplgaaRows
import Derived.ProofKit
import Derived.OpenShut
import Derived.ShutString
import Derived.ChangeOld
import Derived.Below
import Derived.JoinedCond
import Derived.Deep.Slices
import Derived.Deep.Fields
set_option linter.unusedVariables false
namespace Go.Proofs.Ytalihocoekplgaa
open Go.ChangeShapes Go.WideShapes Go.ChangeAt Go.RowKit Go.Deep

/-- A slice of such, as one cell. -/
def kSl {α : Type} (K : Kd α) : Kd (List α) where
  sz := 1
  pos := by decide
  rep := fun w c x cs => ∃ A n cp, cs = [.slice A n cp] ∧ Rd K w c A n cp x
  len := by rintro w c x cs ⟨A, n, cp, rfl, _⟩; rfl
  one := by
    rintro w c x cs ⟨A, n, cp, rfl, _⟩ u hu
    simp at hu
    subst hu
    rfl
  keep := by
    rintro w w' c c' x cs ⟨A, n, cp, rfl, hr⟩ k
    exact ⟨A, n, cp, rfl, hr.kp k⟩
/-- An element of a slice of slices, at the address that the walk has. -/
theorem Rd.row {α : Type} {K : Kd α} {w : World} {c : Col} {b off n cp : Nat} {l : List (List α)} (h : Rd (kSl K) w c (some ⟨b, off, none⟩) n cp l) {k : Nat} {x : List α} (hx : l[k]? = some x) :
    ∃ A m cq, w.cell? ⟨b, off + k, none⟩ = some (.slice A m cq) ∧ Rd K w c A m cq x := by
  obtain ⟨_, _, cs, ⟨A, m, cq, rfl, hr⟩, hcs⟩ := h.elem hx
  have := hcs 0 _ rfl
  exact ⟨A, m, cq, by simpa [kSl] using this, hr⟩

/-- Whatever cells of type t read as data, they read as a K. -/
def Opens {α : Type} (P : Program) (K : Kd α) (t : TypeId) : Prop :=
  ∀ (H : Type) (enc : TypeId × Value → H) (w : World) (base : Nat) (spare : Nat → Bool) (held : Bool) (fuel : Nat) (cs : List Value) (y : DataW H × List MemPlace),
    DataW.trod enc P w base spare held fuel t cs = some y → ∃ x, K.rep w (fun _ => none) x cs

theorem uptoBulk_pos {H : Type} (d : DataW H) : 1 ≤ Rows.uptoBulk d := by
  cases d with
  | lit l => cases l <;> simp [Rows.uptoBulk]
  | nil => simp [Rows.uptoBulk]
  | ptr d => simp [Rows.uptoBulk]
  | slice elems spare => simp [Rows.uptoBulk]
  | agg parts => simp [Rows.uptoBulk]
  | iface t d => simp [Rows.uptoBulk]
  | map entries => simp [Rows.uptoBulk]
  | held h => simp [Rows.uptoBulk]
theorem uptoBulk_length {H : Type} (l : List (DataW H)) : l.length ≤ Rows.uptoBulkAll l := by
  induction l with
  | nil => simp [Rows.uptoBulkAll]
  | cons x r ih => have := uptoBulk_pos x; simp only [Rows.uptoBulkAll, List.length_cons]; omega

/-- A slice that came in. -/
theorem open_rd {α : Type} {P : Program} {K : Kd α} {t e : TypeId} (ht : P.underlying t = some (.slice e)) (hC : P.cellsOf e = K.sz) (hK : Opens P K e)
    {H : Type} {enc : TypeId × Value → H} {w : World} {base : Nat} {spare : Nat → Bool} {held : Bool} {fuel : Nat} {cs : List Value} {y : DataW H × List MemPlace}
    (h : DataW.trod enc P w base spare held fuel t cs = some y) : ∃ A n cp xs, cs = [.slice A n cp] ∧ Rd K w (fun _ => none) A n cp xs ∧ n ≤ Rows.uptoBulk y.1 := by
  rcases open_slice ht h with ⟨rfl, rfl⟩ | ⟨a, len, cap, m, n, D, Pl, rfl, hb, hl, hm, hmm, rfl, hx⟩
  · exact ⟨none, 0, 0, [], rfl, Rd.nil K w _, Nat.zero_le _⟩
  · have hmlen : len ≤ m := by rw [hmm]; split <;> omega
    rw [hC] at hx
    have key : ∀ i, i < len → ∃ x cs', K.rep w (fun _ => none) x cs' ∧ ∀ j u, cs'[j]? = some u → w.cell? ((a.add (i * K.sz)).add j) = some u := by
      intro i hi
      obtain ⟨cs', hc, htr⟩ := hx i (by omega)
      obtain ⟨_, hcl, hat⟩ := World.cells?_some hc
      obtain ⟨x, hrep⟩ := hK H enc w base spare held n cs' _ htr
      refine ⟨x, cs', hrep, fun j u hj => ?_⟩
      have hjl := (List.getElem?_eq_some_iff.1 hj).1
      rw [hat j (by omega)]
      exact hj
    -- the elements, as one list
    have hlist : ∀ k, k ≤ len → ∃ xs : List α, xs.length = k ∧ ∀ j x, xs[j]? = some x → ∃ cs', K.rep w (fun _ => none) x cs' ∧ ∀ i u, cs'[i]? = some u → w.cell? ((a.add (j * K.sz)).add i) = some u := by
      intro k
      induction k with
      | zero => exact fun _ => ⟨[], rfl, fun j x hj => by simp at hj⟩
      | succ k ih =>
        intro hk
        obtain ⟨xs, hxl, hxs⟩ := ih (by omega)
        obtain ⟨x, cs', hrep, hcs⟩ := key k (by omega)
        refine ⟨xs ++ [x], by simp [hxl], fun j z hj => ?_⟩
        rcases Nat.lt_or_ge j xs.length with h1 | h1
        · rw [List.getElem?_append_left h1] at hj
          exact hxs j z hj
        · have hj2 : j = xs.length := by
            have := (List.getElem?_eq_some_iff.1 hj).1
            simp at this
            omega
          subst hj2
          simp at hj
          subst hj
          rw [hxl]
          exact ⟨cs', hrep, hcs⟩
    obtain ⟨xs, hxl, hxs⟩ := hlist len (Nat.le_refl _)
    refine ⟨some a, len, cap, xs, rfl, ⟨hxl, hl, hm, fun hp => ?_⟩, ?_⟩
    · have h0 : xs[0]? = some (xs[0]'(by omega)) := List.getElem?_eq_getElem (by omega)
      obtain ⟨cs0, hr0, hc0⟩ := hxs 0 _ h0
      have hcl := K.len hr0
      have hpos := K.pos
      have hu : cs0[0]? = some (cs0[0]'(by omega)) := List.getElem?_eq_getElem (by omega)
      have hcell := hc0 0 _ hu
      obtain ⟨b, off, spot⟩ := a
      have hcell2 : w.cell? ⟨b, off, spot⟩ = some (cs0[0]'(by omega)) := by simpa [Addr.add] using hcell
      have hspot : spot = none := by simpa using World.cell?_spot hcell2
      subst hspot
      refine ⟨b, off, rfl, World.block_lt_of_cell? w _ hcell2, rfl, fun j x hj => ?_⟩
      obtain ⟨cs', hrep, hcs⟩ := hxs j x hj
      refine ⟨cs', hrep, fun i u hi => ?_⟩
      have := hcs i u hi
      rw [addr_add, addr_add, Nat.add_assoc] at this
      exact this
    · have h1 := uptoBulk_length ((List.range len).map D)
      simp only [Rows.uptoBulk]
      simp at h1
      omega
theorem opens_slice {α : Type} {P : Program} {K : Kd α} {t e : TypeId} (ht : P.underlying t = some (.slice e)) (hC : P.cellsOf e = K.sz) (hK : Opens P K e) : Opens P (kSl K) t := by
  intro H enc w base spare held fuel cs y h
  obtain ⟨A, n, cp, xs, rfl, hr, _⟩ := open_rd ht hC hK h
  exact ⟨xs, A, n, cp, rfl, hr⟩
theorem opens_u8 {P : Program} {t : TypeId} (ht : P.underlying t = some (.int .u8)) : Opens P kU8 t := by
  intro H enc w base spare held fuel cs y h
  obtain ⟨n, rfl, rfl, hwf⟩ := DataW.trod_int ht h
  have hb : 0 ≤ n ∧ n ≤ 255 := by simpa [Lit.wf, IntKind.min, IntKind.max, IntKind.signed, IntKind.bits] using hwf
  refine ⟨UInt8.ofNat n.toNat, ?_⟩
  show _ = _
  rw [UInt8.toNat_ofNat']
  congr 2
  omega
/-- A struct whose fields have one cell each: its cells, field by field. -/
theorem trod_cells {P : Program} {t : TypeId} {fs : Array Go.Field} (he : P.underlying t = some (.struct fs)) (hone : oneCellFields P fs = true) (hC : P.cellsOf t = fs.size)
    {H : Type} {enc : TypeId × Value → H} {w : World} {base : Nat} {spare : Nat → Bool} {held : Bool} {fuel : Nat} {cs : List Value} {y : DataW H × List MemPlace}
    (h : DataW.trod enc P w base spare held fuel t cs = some y) :
    cs.length = fs.size ∧ ∃ n, ∀ (j : Nat) (f : Go.Field), fs[j]? = some f → ∃ v z, cs[j]? = some v ∧ DataW.trod enc P w base spare held n f.type [v] = some z := by
  obtain ⟨ys, n, _, _, hlen, hyl, hf⟩ := DataW.trod_struct he h
  refine ⟨hlen.trans hC, n, fun j f hj => ?_⟩
  obtain ⟨ho, hk⟩ := hone_of hone j f hj
  have hjl : j < fs.size := (Array.getElem?_eq_some_iff.1 hj).1
  have h1 := hf j f hj
  rw [ho, hk] at h1
  have hv : cs[j]? = some (cs[j]'(by omega)) := List.getElem?_eq_getElem (by omega)
  have hone' : (cs.drop j).take 1 = [cs[j]'(by omega)] := by
    rw [List.drop_eq_getElem_cons (by omega)]
    rfl
  rw [hone'] at h1
  have hys : ys[j]? = some (ys[j]'(by omega)) := List.getElem?_eq_getElem (by omega)
  exact ⟨_, _, hv, h1.trans hys⟩
theorem list_eq1 {α : Type} {cs : List α} {a : α} (hl : cs.length = 1) (h0 : cs[0]? = some a) : cs = [a] := by
  match cs, hl with
  | [x], _ => simp at h0; simp [h0]
theorem list_eq2 {α : Type} {cs : List α} {a b : α} (hl : cs.length = 2) (h0 : cs[0]? = some a) (h1 : cs[1]? = some b) : cs = [a, b] := by
  match cs, hl with
  | [x, y], _ => simp at h0 h1; simp [h0, h1]
theorem list_eq3 {α : Type} {cs : List α} {a b c : α} (hl : cs.length = 3) (h0 : cs[0]? = some a) (h1 : cs[1]? = some b) (h2 : cs[2]? = some c) : cs = [a, b, c] := by
  match cs, hl with
  | [x, y, z], _ => simp at h0 h1 h2; simp [h0, h1, h2]
theorem list_eq4 {α : Type} {cs : List α} {a b c d : α} (hl : cs.length = 4) (h0 : cs[0]? = some a) (h1 : cs[1]? = some b) (h2 : cs[2]? = some c) (h3 : cs[3]? = some d) : cs = [a, b, c, d] := by
  match cs, hl with
  | [x, y, z, t], _ => simp at h0 h1 h2 h3; simp [h0, h1, h2, h3]
theorem list_eq5 {α : Type} {cs : List α} {a b c d e : α} (hl : cs.length = 5) (h0 : cs[0]? = some a) (h1 : cs[1]? = some b) (h2 : cs[2]? = some c) (h3 : cs[3]? = some d) (h4 : cs[4]? = some e) : cs = [a, b, c, d, e] := by
  match cs, hl with
  | [x, y, z, t, u], _ => simp at h0 h1 h2 h3 h4; simp [h0, h1, h2, h3, h4]
/-- The argument at place j. -/
theorem open_arg {α : Type} {P : Program} {K : Kd α} {t e : TypeId} (ht : P.underlying t = some (.slice e)) (hC : P.cellsOf e = K.sz) (hK : Opens P K e) {r : Reach} {b0 : Nat}
    {H : Type} {enc : TypeId × Value → H} {w : World} {base : Nat} {spare : Nat → Bool} {held : Bool} {v : Value} {d : DataW H} {p : List MemPlace}
    (hv : Value.okWide P w r b0 t v) (h : DataW.Trod enc P w base spare held t v d p) : ∃ A n cp xs, v = .slice A n cp ∧ Rd K w (fun _ => none) A n cp xs ∧ n ≤ Rows.uptoBulk d := by
  obtain ⟨a, len, cap, rfl⟩ := okWide_slice ht hv
  obtain ⟨fuel, hf⟩ := h
  obtain ⟨A, n, cp, xs, he, hr, hn⟩ := open_rd ht hC hK hf
  simp [Value.cells] at he
  obtain ⟨rfl, rfl, rfl⟩ := he
  exact ⟨_, _, _, xs, rfl, hr, hn⟩
theorem wf_i64 {x : Int} (h : (Lit.int .i64 x).wf = true) : -9223372036854775808 ≤ x ∧ x ≤ 9223372036854775807 := by
  simpa [Lit.wf, IntKind.min, IntKind.max, IntKind.signed, IntKind.bits] using h
theorem wf_u64 {x : Int} (h : (Lit.int .u64 x).wf = true) : 0 ≤ x ∧ x ≤ 18446744073709551615 := by
  simpa [Lit.wf, IntKind.min, IntKind.max, IntKind.signed, IntKind.bits] using h
theorem wf_u8 {x : Int} (h : (Lit.int .u8 x).wf = true) : 0 ≤ x ∧ x ≤ 255 := by
  simpa [Lit.wf, IntKind.min, IntKind.max, IntKind.signed, IntKind.bits] using h
end Go.Proofs.Ytalihocoekplgaa
