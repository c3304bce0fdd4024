/- client: replies, a map from texts to pointers, a desk. -/
import Derived.Test.YtladpckbajnbeaaOperS
import Derived.Maps.Own
import Derived.Maps.Views
import Derived.StringKeys
set_option linter.unusedVariables false
set_option linter.unusedSimpArgs false
namespace Go.Proofs.Ytladpckbajnbeaa
open Go.RowKit

structure Rep where
  client : Int
  seq : Int
  kind : Int
  t : List Fld
  late : Bool
abbrev pV (x : Rep) (A : Option Addr) (n cp : Nat) : Value := .agg #[.int .i64 x.client, .int .i64 x.seq, .int .i64 x.kind, .slice A n cp, .bool x.late]
theorem Rep.ext' {a b : Rep} (h1 : a.client = b.client) (h2 : a.seq = b.seq) (h3 : a.kind = b.kind) (h4 : a.t = b.t) (h5 : a.late = b.late) : a = b := by
  cases a; cases b; simp at h1 h2 h3 h4 h5; simp [h1, h2, h3, h4, h5]
def pCells (x : Rep) (A : Option Addr) (n cp : Nat) : List Value := [.int .i64 x.client, .int .i64 x.seq, .int .i64 x.kind, .slice A n cp, .bool x.late]
def kRep : Kd Rep where
  sz := 5
  pos := by decide
  rep := fun w c x cs => ∃ A n cp, cs = pCells x A n cp ∧ Rd kFld w c A n cp x.t
  len := by rintro w c x cs ⟨A, n, cp, rfl, _⟩; rfl
  one := by
    rintro w c x cs ⟨A, n, cp, rfl, _⟩ u hu
    simp [pCells] at hu
    rcases hu with rfl | rfl | rfl | rfl | rfl <;> rfl
  keep := by
    rintro w w' c c' x cs ⟨A, n, cp, rfl, hr⟩ k
    exact ⟨A, n, cp, rfl, hr.kp k⟩
theorem Rd.rep {w : World} {c : Col} {b off n cp : Nat} {l : List Rep} (h : Rd kRep w c (some ⟨b, off, none⟩) n cp l) {k : Nat} {x : Rep} (hx : l[k]? = some x) :
    ∃ A m cq, Rd kFld w c A m cq x.t ∧ w.cell? ⟨b, off + k * 5, none⟩ = some (.int .i64 x.client) ∧ w.cell? ⟨b, off + k * 5 + 1, none⟩ = some (.int .i64 x.seq) ∧ w.cell? ⟨b, off + k * 5 + 2, none⟩ = some (.int .i64 x.kind) ∧
      w.cell? ⟨b, off + k * 5 + 3, none⟩ = some (.slice A m cq) ∧ w.cell? ⟨b, off + k * 5 + 4, none⟩ = some (.bool x.late) := by
  obtain ⟨_, _, cs, ⟨A, m, cq, rfl, hR⟩, hc⟩ := h.elem hx
  refine ⟨A, m, cq, hR, ?_, ?_, ?_, ?_, ?_⟩
  · simpa [kRep] using hc 0 _ rfl
  · simpa [kRep, Nat.add_assoc] using hc 1 _ rfl
  · simpa [kRep, Nat.add_assoc] using hc 2 _ rfl
  · simpa [kRep, Nat.add_assoc] using hc 3 _ rfl
  · simpa [kRep, Nat.add_assoc] using hc 4 _ rfl

/-- A map from texts to pointers: what lies at each text, nil where nothing does. -/
abbrev rawE : Value → Option (DataW Value × List MemPlace) := fun v => some (.held v, [])
def MapP (w : World) (m N : Nat) (φ : List UInt8 → Option Addr) : Prop :=
  ∃ D, w.ownsMap Try.prog 9 rawE m N D ∧ Maps.IsMap D ∧ ∀ k : List UInt8, D.atKey (.string k) (.held (.pointer none)) = .held (.pointer (φ k))
theorem str_keyed : Maps.Keyed Try.prog 9 := Maps.string_keyed Try.underlying9
theorem str_key (k : List UInt8) (h : k.length ≤ 9223372036854775807) : keyOf Try.prog 9 (.string ⟨k.toArray⟩) = some (.string k) := by
  have := WideMaps.keyOf_string_mk (P := Try.prog) (k := 9) Try.underlying9 (s := ⟨k.toArray⟩) (by show k.toArray.size ≤ _; simpa [maxLen] using h)
  simpa using this
theorem MapP.made (w : World) : MapP (w.alloc (.map #[] 0)) w.heap.size 0 (fun _ => none) :=
  ⟨_, World.ownsMap_made _ _ _ _, Maps.isMap_empty, fun k => rfl⟩
theorem MapP.kept {w w' : World} {m N : Nat} {φ : List UInt8 → Option Addr} {row : Option Nat} (h : MapP w m N φ) (hg : w.grownBy w' row) (hne : some m ≠ row) : MapP w' m N φ := by
  obtain ⟨D, h1, h2, h3⟩ := h
  exact ⟨D, h1.kept hg hne, h2, h3⟩
theorem MapP.lt {w : World} {m N : Nat} {φ : List UInt8 → Option Addr} (h : MapP w m N φ) : m < w.heap.size := by
  obtain ⟨D, h1, h2, h3⟩ := h
  exact h1.lt
theorem MapP.same {w w' : World} {m N : Nat} {φ : List UInt8 → Option Addr} (h : MapP w m N φ) (hw : w'.heap[m]? = w.heap[m]?) : MapP w' m N φ := by
  obtain ⟨D, ⟨es, clock, hb, F⟩, h2, h3⟩ := h
  exact ⟨D, ⟨es, clock, by rw [hw]; exact hb, F⟩, h2, h3⟩
theorem MapP.isMap {w : World} {m N : Nat} {φ : List UInt8 → Option Addr} (h : MapP w m N φ) : ∃ es clock, w.heap[m]? = some (.map es clock) := by
  obtain ⟨D, ⟨es, clock, hb, F⟩, h2, h3⟩ := h
  exact ⟨es, clock, hb⟩
theorem zero_said (w : World) : (zeroValue 111).run Try.prog w = .ok (.pointer none) w := by kernel_rfl
theorem MapP.look {w : World} {m N : Nat} {φ : List UInt8 → Option Addr} (h : MapP w m N φ) (k : List UInt8) (hk : k.length ≤ 9223372036854775807) :
    (Instr.lookup 92 (.map (some m)) (.string ⟨k.toArray⟩) false).run Try.prog w = .ok (.pointer (φ k)) w := by
  obtain ⟨D, h1, h2, h3⟩ := h
  obtain ⟨v, ps, hr, hv⟩ := h1.lookup (t := 92) (e := 111) str_keyed Try.underlying92 (z := .pointer none) (zero_said w) (zd := .held (.pointer none)) (zp := []) rfl (str_key k hk)
  rw [h3] at hv
  simp [rawE] at hv
  rw [hr, hv.1]
theorem MapP.put {w : World} {m N : Nat} {φ : List UInt8 → Option Addr} (h : MapP w m N φ) (hN : N < 9223372036854775807) (k : List UInt8) (hk : k.length ≤ 9223372036854775807) (p : Option Addr) :
    ∃ w', (Instr.mapUpdate 92 (.map (some m)) (.string ⟨k.toArray⟩) (.pointer p)).run Try.prog w = .ok () w' ∧ MapP w' m (N + 1) (fun k' => if k' = k then p else φ k') ∧ w.grownBy w' (some m) := by
  obtain ⟨D, h1, h2, h3⟩ := h
  obtain ⟨w', hr, ho, hg⟩ := h1.update (t := 92) (e := 111) str_keyed Try.underlying92 (by simpa [maxLen] using hN) (str_key k hk) (val := .pointer p) (d := .held (.pointer p)) (ps := []) rfl
  refine ⟨w', hr, ⟨_, ho, h2.put _ _, fun k' => ?_⟩, hg⟩
  show _ = DataW.held (Value.pointer (if k' = k then p else φ k'))
  by_cases he : k' = k
  · subst he
    rw [Maps.atKey_put_same h2 (str_keyed.key (str_key k' hk)), if_pos rfl]
  · rw [Maps.atKey_put_other (by simpa using he), if_neg he]
    exact h3 k'

/-- Who said what, by a reply's text: seven places each. -/
abbrev Sd := List UInt8 → List Bool
def allF : List Bool := [false, false, false, false, false, false, false]
def sCells (l : List Bool) : List Value := l.map .bool ++ [.int .i64 ((l.count true : Nat) : Int)]
def Boxes (w : World) (c : Col) (g : Nat) (φ : List UInt8 → Option Addr) (S : Sd) : Prop :=
  ∀ k, (S k).length = 7 ∧ ((φ k = none ∧ S k = allF) ∨ ∃ b, φ k = some ⟨b, 0, none⟩ ∧ c b = some g ∧ w.heap[b]? = some (.cells (sCells (S k)).toArray 114 (0, 0)) ∧ ∀ k', φ k' = some ⟨b, 0, none⟩ → k' = k)
def Dsk (w : World) (c : Col) (g : Nat) (f : Int) (S : Sd) (T : List Rep) (N : Nat) : Prop :=
  c g = some g ∧ ∃ m A n cp φ cells, w.heap[g]? = some (.cells #[.int .i64 f, .map (some m), .slice A n cp] 94 (0, 0)) ∧ c m = some g ∧ MapP w m N φ ∧ Boxes w c g φ S ∧
    OwnB w c g 52 5 (.slice A n cp) n cells ∧ Reps kRep w c T cells ∧ T.length = n ∧ n ≤ N
theorem Tr.at_ {M : Nat → Prop} {c c' : Col} {w w' : World} (k : Tr M c c' w w') {i g : Nat} (hi : c i = some g) (hM : ¬ M g) : c' i = some g ∧ w'.heap[i]? = w.heap[i]? := by
  have hl := (k.wf0 i g hi).1
  refine ⟨by rw [k.col i hl]; exact hi, k.cold i hl fun g' h => ?_⟩
  rw [hi] at h
  cases h
  exact hM
theorem Boxes.tr {M : Nat → Prop} {w w' : World} {c c' : Col} {g : Nat} {φ : List UInt8 → Option Addr} {S : Sd} (h : Boxes w c g φ S) (k : Tr M c c' w w') (hM : ¬ M g) : Boxes w' c' g φ S := by
  intro x
  obtain ⟨hl, h⟩ := h x
  refine ⟨hl, ?_⟩
  rcases h with h | ⟨b, h1, h2, h3, h4⟩
  · exact .inl h
  · obtain ⟨k1, k2⟩ := k.at_ h2 hM
    exact .inr ⟨b, h1, k1, by rw [k2]; exact h3, h4⟩
theorem Dsk.tr {M : Nat → Prop} {w w' : World} {c c' : Col} {g : Nat} {f : Int} {S : Sd} {T : List Rep} {N : Nat} (h : Dsk w c g f S T N) (k : Tr M c c' w w') (hM : ¬ M g) : Dsk w' c' g f S T N := by
  obtain ⟨hg, m, A, n, cp, φ, cells, h1, h2, h3, h4, h5, h6, h7, h8⟩ := h
  obtain ⟨a1, a2⟩ := k.at_ hg hM
  obtain ⟨b1, b2⟩ := k.at_ h2 hM
  exact ⟨a1, m, A, n, cp, φ, cells, by rw [a2]; exact h1, b1, h3.same b2, h4.tr k hM, h5.tr k hM, h6.keep k.kp, h7, h8⟩
theorem Dsk.lt {w : World} {c : Col} {g : Nat} {f : Int} {S : Sd} {T : List Rep} {N : Nat} (h : Dsk w c g f S T N) : g < w.heap.size := by
  obtain ⟨hg, m, A, n, cp, φ, cells, h1, _⟩ := h
  exact blk_lt h1
theorem count_set {l : List Bool} {i : Nat} (h : l[i]? = some false) : (l.set i true).count true = l.count true + 1 := by
  induction l generalizing i with
  | nil => simp at h
  | cons a l ih =>
    cases i with
    | zero => simp at h; subst h; simp
    | succ i =>
      simp at h
      rw [List.set_cons_succ, List.count_cons, List.count_cons, ih h]
      omega
theorem set_same {α : Type} {l : List α} {i : Nat} {a : α} (h : l[i]? = some a) : l.set i a = l := by
  apply List.ext_getElem?
  intro j
  rw [List.getElem?_set]
  split
  · rename_i e
    subst e
    split
    · exact h.symm
    · rw [h]; rename_i hl; have := (List.getElem?_eq_some_iff.1 h).1; omega
  · rfl
theorem count_le7 {l : List Bool} (h : l.length = 7) : l.count true ≤ 7 := by have := List.count_le_length (a := true) (l := l); omega
end Go.Proofs.Ytladpckbajnbeaa
