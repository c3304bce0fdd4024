/- More words. -/
import Derived.Test.YtalihocoekplgaaLib
set_option linter.unusedVariables false
namespace Go.Proofs.Ytalihocoekplgaa
open Go.RowKit
theorem Kp.cell {c c' : Col} {w w' : World} (h : Kp c c' w w') {b i : Nat} (hb : b < w.heap.size) (hc : c b = none) : w'.cell? ⟨b, i, none⟩ = w.cell? ⟨b, i, none⟩ :=
  World.cell?_of_block (a := ⟨b, i, none⟩) (h.cold b hb hc).2
theorem own_weak {w : World} {b0 b1 : Nat} {e : TypeId} {sz n : Nat} {v : Value} {xs : List Value} (h : w.ownsRow b0 e sz v n xs) (hb : b1 ≤ b0) : w.ownsRow b1 e sz v n xs := by
  refine ⟨h.1, ?_⟩
  rcases h.2 with hn | ⟨g, cap, cur, rfl, h0, r⟩
  · exact .inl hn
  · exact .inr ⟨g, cap, cur, rfl, by omega, r⟩
/-- Two rows, element by element. -/
def all2 {α β : Type} (f : α → β → Bool) : List α → List β → Bool
  | [], [] => true
  | x :: xs, y :: ys => f x y && all2 f xs ys
  | _, _ => false
theorem all2_iff {α β : Type} (f : α → β → Bool) : ∀ (xs : List α) (ys : List β), all2 f xs ys = true ↔ (xs.length = ys.length ∧ ∀ (k : Nat) (x : α) (y : β), xs[k]? = some x → ys[k]? = some y → f x y = true)
  | [], [] => by simp [all2]
  | [], y :: ys => by simp [all2]
  | x :: xs, [] => by simp [all2]
  | x :: xs, y :: ys => by
    have ih := all2_iff f xs ys
    simp only [all2, Bool.and_eq_true, ih, List.length_cons]
    constructor
    · rintro ⟨h1, h2, h3⟩
      refine ⟨by omega, fun k a b ha hb => ?_⟩
      cases k with
      | zero => simp at ha hb; subst ha; subst hb; exact h1
      | succ k => exact h3 k a b (by simpa using ha) (by simpa using hb)
    · rintro ⟨h1, h2⟩
      exact ⟨h2 0 x y rfl rfl, by omega, fun k a b ha hb => h2 (k + 1) a b (by simpa using ha) (by simpa using hb)⟩
theorem all2_false {α β : Type} {f : α → β → Bool} {xs : List α} {ys : List β} {k : Nat} {x : α} {y : β} (hx : xs[k]? = some x) (hy : ys[k]? = some y) (h : f x y = false) : all2 f xs ys = false := by
  rw [← Bool.not_eq_true]
  intro e
  have := ((all2_iff f xs ys).1 e).2 k x y hx hy
  rw [h] at this
  cases this
theorem all2_len_ne {α β : Type} {f : α → β → Bool} {xs : List α} {ys : List β} (h : xs.length ≠ ys.length) : all2 f xs ys = false := by
  rw [← Bool.not_eq_true]
  exact fun e => h ((all2_iff f xs ys).1 e).1
theorem all2_refl {α : Type} {f : α → α → Bool} (hf : ∀ x, f x x = true) (xs : List α) : all2 f xs xs = true :=
  (all2_iff f xs xs).2 ⟨rfl, fun k x y hx hy => by rw [hx] at hy; cases hy; exact hf x⟩
theorem all2_eq {α : Type} {f : α → α → Bool} (hf : ∀ x y, f x y = true ↔ x = y) (xs ys : List α) : all2 f xs ys = true ↔ xs = ys := by
  constructor
  · intro h
    obtain ⟨hl, h⟩ := (all2_iff f xs ys).1 h
    apply List.ext_getElem? 
    intro k
    rcases Nat.lt_or_ge k xs.length with hk | hk
    · have h1 : xs[k]? = some (xs[k]'hk) := List.getElem?_eq_getElem hk
      have h2 : ys[k]? = some (ys[k]'(by omega)) := List.getElem?_eq_getElem (by omega)
      rw [h1, h2, (hf _ _).1 (h k _ _ h1 h2)]
    · rw [List.getElem?_eq_none hk, List.getElem?_eq_none (by omega)]
  · rintro rfl
    exact all2_refl (fun x => (hf x x).2 rfl) xs
theorem Drew.below {B : Nat} {w W : World} (h : Below B w W) (n : Nat) : Below B w (W.drewN n) := ⟨h.os, h.tape, h.output, h.size, h.block⟩
/-- A block that was just made (and has no owner) reads as it was laid, behind a call. -/
theorem Tr.newcell {M : Nat → Prop} {c1 c2 : Col} {wr w2 : World} {cs : Array Value} {t : TypeId} (hw : Wf c1 wr) (h : Tr M c1 c2 (wr.alloc (.cells cs t)) w2) (i : Nat) (u : Value) (hi : cs[i]? = some u) :
    w2.cell? ⟨wr.heap.size, i, none⟩ = some u := by
  rw [h.kp.cell (b := wr.heap.size) (i := i) (by simp) (hw.fresh (Nat.le_refl _)), cell_of_row _ _ _ cs t (0, 0) (heap_alloc_new wr _)]
  exact hi
theorem below_newcell {wr w2 : World} {cs : Array Value} {t : TypeId} (h : Below (wr.alloc (.cells cs t)).heap.size (wr.alloc (.cells cs t)) w2) (i : Nat) (u : Value) (hi : cs[i]? = some u) :
    w2.cell? ⟨wr.heap.size, i, none⟩ = some u := by
  rw [h.cell (p := ⟨wr.heap.size, i, none⟩) (by simp), cell_of_row _ _ _ cs t (0, 0) (heap_alloc_new wr _)]
  exact hi

/-! ### A row of the call's own that is a root of its own: it lives beside states -/
def OwnR (w : World) (c : Col) (lo : Nat) (e : TypeId) (sz : Nat) (A : Option Addr) (n cp : Nat) (cells : List Value) : Prop :=
  w.ownsRow lo e sz (.slice A n cp) n cells ∧ ∀ k, (Value.slice A n cp).ownBlock = some k → c k = some k
theorem OwnR.nil (w : World) (c : Col) (lo : Nat) (e : TypeId) (sz : Nat) : OwnR w c lo e sz none 0 0 [] := ⟨World.ownsRow_nil w lo e sz, fun k hk => by cases hk⟩
theorem OwnR.keep {M : Nat → Prop} {w w' : World} {c c' : Col} {lo : Nat} {e : TypeId} {sz : Nat} {A : Option Addr} {n cp : Nat} {cells : List Value} (h : OwnR w c lo e sz A n cp cells) (t : Tr M c c' w w')
    (hM : ∀ k, (Value.slice A n cp).ownBlock = some k → ¬ M k) : OwnR w' c' lo e sz A n cp cells := by
  have hlt : ∀ i, (Value.slice A n cp).ownBlock = some i → i < w.heap.size := fun i hi => (h.1.lt i hi).2
  refine ⟨⟨h.1.1, ?_⟩, fun i hi => by rw [t.col i (hlt i hi)]; exact h.2 i hi⟩
  rcases h.1.2 with hn | ⟨b, cap, cur, hv, hb, hh, r⟩
  · exact .inl hn
  · refine .inr ⟨b, cap, cur, hv, hb, ?_, r⟩
    have hb' : (Value.slice A n cp).ownBlock = some b := by rw [hv]; rfl
    rw [t.cold b (hlt b hb')]
    · exact hh
    · intro g' hg'
      rw [h.2 b hb'] at hg'
      cases hg'
      exact hM b hb'
/-- Beside a state whose root is of another type. -/
theorem OwnR.tr {g : Nat} {w w' : World} {c c' : Col} {lo : Nat} {e t' : TypeId} {sz : Nat} {A : Option Addr} {n cp : Nat} {cells : List Value} {cs : Array Value} {fr : Nat × Nat} (h : OwnR w c lo e sz A n cp cells) (t : Tr (· = g) c c' w w')
    (hg : w.heap[g]? = some (.cells cs t' fr)) (hne : t' ≠ e) : OwnR w' c' lo e sz A n cp cells :=
  h.keep t fun k hk hkg => by subst hkg; exact own_block_ne h.1 hg hne hk.symm
theorem OwnR.pure {w w' : World} {c c' : Col} {lo : Nat} {e : TypeId} {sz : Nat} {A : Option Addr} {n cp : Nat} {cells : List Value} (h : OwnR w c lo e sz A n cp cells) (t : Tr (fun _ => False) c c' w w') : OwnR w' c' lo e sz A n cp cells := h.keep t fun _ _ h => h
theorem OwnR.len {w : World} {c : Col} {lo : Nat} {e : TypeId} {sz : Nat} {A : Option Addr} {n cp : Nat} {cells : List Value} (h : OwnR w c lo e sz A n cp cells) : cells.length = n * sz := h.1.1

section
variable {P : Program} {ops : Array Oper} {rest : List Oper} {o : Oper} {a : Act} {Q : Exit → Act → World → Prop}
/-- append(v, y) to such a row. -/
theorem app_one_self {W w : World} {c c1 : Col} {M : Nat → Prop} {lo : Nat} (s x : Operand) (t e : TypeId) (z : Value) (sz bytes : Nat) (hgd : o.guard = none)
    (ho : o.op = .call { callee := .builtin .append, args := #[s, x], argTypes := #[t, t] })
    (ht : P.underlying t = some (.slice e)) (hinfo : (P.info? e).map (fun i => (i.zero, i.size, i.bytes)) = some (some z, sz, bytes)) (hz : z.cells.size = sz) (hsz : 0 < sz) (hb0 : 0 < bytes)
    {A : Option Addr} {n cp : Nat} (cells : List Value) (ys : Array Value) (hys : ys.size = sz) (hs : a.eval s = .slice A n cp) (hx : a.eval x = .slice (some ⟨W.heap.size, 0, none⟩) 1 1) (h1 : ∀ u ∈ ys, u.oneCell' = true)
    (HT : Tr M c c1 w W) (HO : OwnR W c1 lo e sz A n cp cells) (hlo : w.heap.size ≤ lo) (hlo2 : lo ≤ W.heap.size) (hl : (n + 1) * bytes ≤ 140737488355328)
    (h : ∀ A1 cp1 w1 c2, Tr M c c2 w w1 → OwnR w1 c2 lo e sz A1 (n + 1) cp1 (cells ++ ys.toList) →
      (∀ (b : Nat) (t' : TypeId) (cs : Array Value) (fr : Nat × Nat), t' ≠ e → W.heap[b]? = some (.cells cs t' fr) → w1.heap[b]? = some (.cells cs t' fr)) → Kp c1 c2 W w1 → (∀ k, k < W.heap.size → c2 k = c1 k) → wpList P ops Q rest (a.put o.dst (.slice A1 (n + 1) cp1)) w1) :
    wpList P ops Q (o :: rest) a (W.alloc (.cells ys e)) := by
  obtain ⟨i0, hi, hzz⟩ := Option.map_eq_some_iff.1 hinfo
  simp only [Prod.mk.injEq] at hzz
  obtain ⟨hz0, hz1, hz2⟩ := hzz
  have hlen : n + 1 ≤ 140737488355328 := Nat.le_trans (Nat.le_mul_of_pos_right _ hb0) hl
  refine wpList_append_own_at (W.alloc (.cells ys e)) hgd s x t ho lo e i0 z sz bytes ht hi hz0 hz1 hz2 hz hsz (.slice A n cp) n cells hs (HO.1.alloc _) ⟨W.heap.size, 0, none⟩ 1 1 ys.toList hx
    (by simp [hys]) (World.news_of_block (cs := ys) (t := e) (fr := (0, 0)) (heap_alloc_new W _)) (by simpa using h1) (by simp only [maxLen]; omega) hl (by simp; omega) ?_
  intro v1 w1 hown hgr _ hat
  obtain ⟨A1, cp1, rfl⟩ := own_form hown
  have HT' := HT.alloc (Obj.cells ys e)
  have h2 := HT'.grown hgr fun k hk => ⟨k, HO.2 k hk, .inr (by have := (HO.1.lt k hk).1; omega)⟩
  have hkeep : ∀ (b : Nat) (t' : TypeId) (cs : Array Value) (fr : Nat × Nat), t' ≠ e → W.heap[b]? = some (.cells cs t' fr) → w1.heap[b]? = some (.cells cs t' fr) := by
    intro b t' cs fr hne hb
    have hlt : b < W.heap.size := (Array.getElem?_eq_some_iff.1 hb).1
    have hb' : (W.alloc (.cells ys e)).heap[b]? = some (.cells cs t' fr) := (Below.heap_alloc W _ b hlt).trans hb
    rw [hgr.block b (by simp; omega) (own_block_ne (HO.1.alloc _) hb' hne)]
    exact hb'
  have hkp : ∀ c2 : Col, (∀ k, k < W.heap.size → c2 k = c1 k) → Kp c1 c2 W w1 := by
    intro c2 hc2
    refine ⟨by have := hgr.size; simp at this; omega, fun k hk hck => ⟨by rw [hc2 k hk]; exact hck, ?_⟩⟩
    rw [hgr.block k (by simp; omega) (fun e => by have := HO.2 k e.symm; rw [hck] at this; cases this)]
    exact Below.heap_alloc W _ k hk
  rcases hat with hat | hat
  · exact h A1 cp1 w1 c1 h2 ⟨hown, fun k hk => HO.2 k (by rw [← hat]; exact hk)⟩ hkeep (hkp c1 fun _ _ => rfl) fun _ _ => rfl
  · have hlt := (hown.lt _ hat).2
    have hsz2 : (W.alloc (.cells ys e)).heap.size = W.heap.size + 1 := by simp
    have hc2 : ∀ k, k < W.heap.size → (c1.set (W.alloc (.cells ys e)).heap.size (W.alloc (.cells ys e)).heap.size) k = c1 k := fun k hk => Col.set_ne _ (by rw [hsz2]; omega)
    refine h A1 cp1 w1 (c1.set (W.alloc (.cells ys e)).heap.size (W.alloc (.cells ys e)).heap.size) (h2.hot HT'.size hlt hlt (.inr HT'.size)) ⟨hown, fun k hk => ?_⟩ hkeep (hkp _ hc2) hc2
    rw [hat] at hk
    cases hk
    exact Col.set_same _ _ _
end
/-- Behind such an append: a slice that is read still reads. -/
theorem Rd.app {α : Type} {K : Kd α} {c1 c2 : Col} {W w1 : World} {A : Option Addr} {n cp : Nat} {xs : List α} (h : Rd K W c1 A n cp xs) (k : Kp c1 c2 W w1) : Rd K w1 c2 A n cp xs := h.kp k
/-- When the state that stood beside it is let go, such a row reads. -/
theorem OwnR.rd {α : Type} {K : Kd α} {w : World} {c c0 : Col} {lo : Nat} {e : TypeId} {A : Option Addr} {n cp : Nat} {cells : List Value} {xs : List α} (h : OwnR w c lo e K.sz A n cp cells) (hn : xs.length = n) (hf : ∀ k, lo ≤ k → c0 k = none)
    (hx : ∀ j x, xs[j]? = some x → K.rep w c0 x ((cells.drop (j * K.sz)).take K.sz)) : Rd K w c0 A n cp xs := by
  obtain ⟨A', cp', he, hr⟩ := Rd.of_own (K := K) (c := c0) h.1 hn (fun k hk => hf k (h.1.lt k hk).1) hx
  cases he
  exact hr
theorem drop_take_flat {α β : Type} (f : α → List β) (sz : Nat) (hf : ∀ x, (f x).length = sz) : ∀ (xs : List α) (j : Nat) (x : α), xs[j]? = some x → ((xs.flatMap f).drop (j * sz)).take sz = f x
  | [], j, x, h => by simp at h
  | y :: ys, 0, x, h => by
    simp at h
    subst h
    rw [Nat.zero_mul, List.drop_zero, List.flatMap_cons, List.take_append_of_le_length (by rw [hf]; omega), List.take_of_length_le (by rw [hf]; omega)]
  | y :: ys, j + 1, x, h => by
    have ih := drop_take_flat f sz hf ys j x (by simpa using h)
    have h1 : (j + 1) * sz - (f y).length = j * sz := by rw [hf, Nat.succ_mul]; omega
    rw [List.flatMap_cons, List.drop_append, List.drop_of_length_le (by rw [hf, Nat.succ_mul]; omega), List.nil_append, h1]
    exact ih
end Go.Proofs.Ytalihocoekplgaa
