/- Words of this proof: who owns a block, what a call may turn, what a slice reads as. Over any program. -/
import Derived.WalkKit
import Derived.WalkSpells
import Derived.WalkLawsBesides
import Derived.Lib.Hide
import Derived.Lib.SlBytesConst
import Derived.Lib.ConvBytes
import Derived.Laws.BytesArg
import Derived.Laws.BitsAllLaws
import Derived.Maps.AppendAt
import Derived.Deep.AppendLies
import Derived.Deep.Draws
namespace Go.Proofs.Ytalihocoekplgaa
open Go.RowKit

/-- The root of the state that owns a block; 'none': nobody writes it any more. -/
abbrev Col := Nat → Option Nat
def Col.set (c : Col) (k g : Nat) : Col := fun i => if i = k then some g else c i
theorem Col.set_same (c : Col) (k g : Nat) : c.set k g k = some g := by simp [Col.set]
theorem Col.set_ne (c : Col) {k g i : Nat} (h : i ≠ k) : c.set k g i = c i := by simp [Col.set, h]

/-- Nothing beyond the heap has an owner, and owners lie in it. -/
def Wf (c : Col) (w : World) : Prop := ∀ k g, c k = some g → k < w.heap.size ∧ g < w.heap.size
theorem Wf.none (w : World) : Wf (fun _ => Option.none) w := fun _ _ h => by cases h
theorem Wf.fresh {c : Col} {w : World} (h : Wf c w) {k : Nat} (hk : w.heap.size ≤ k) : c k = Option.none := by
  cases e : c k with
  | none => rfl
  | some g => have := (h k g e).1; omega

theorem Wf.below {c : Col} {w w' : World} (h : Wf c w) (hb : Below w.heap.size w w') : Wf c w' := fun k g e => by
  obtain ⟨h1, h2⟩ := h k g e
  have := hb.size
  exact ⟨by omega, by omega⟩
/-- From w to w' only what states rooted in M own has turned; the rest has grown. -/
structure Tr (M : Nat → Prop) (c c' : Col) (w w' : World) : Prop where
  os : w'.os = w.os
  tape : w'.tape = w.tape
  output : w'.output = w.output
  size : w.heap.size ≤ w'.heap.size
  wf0 : Wf c w
  wf : Wf c' w'
  col : ∀ k, k < w.heap.size → c' k = c k
  own : ∀ k g, w.heap.size ≤ k → c' k = some g → M g ∨ w.heap.size ≤ g
  cold : ∀ k, k < w.heap.size → (∀ g, c k = some g → ¬ M g) → w'.heap[k]? = w.heap[k]?

section
variable {M M' : Nat → Prop} {c c' c1 c2 : Col} {w w' w1 w2 : World}

theorem Tr.refl (M : Nat → Prop) (h : Wf c w) : Tr M c c w w :=
  ⟨rfl, rfl, rfl, Nat.le_refl _, h, h, fun _ _ => rfl, fun k g hk hg => by have := (h k g hg).1; omega, fun _ _ _ => rfl⟩

theorem Tr.trans (h : Tr M c c1 w w1) (k : Tr M' c1 c2 w1 w2) (hM : ∀ r, r < w.heap.size → M' r → M r) : Tr M c c2 w w2 := by
  refine ⟨k.os.trans h.os, k.tape.trans h.tape, k.output.trans h.output, Nat.le_trans h.size k.size, h.wf0, k.wf, fun i hi => ?_, fun i g hi hg => ?_, fun i hi hn => ?_⟩
  · rw [k.col i (by have := h.size; omega), h.col i hi]
  · rcases Nat.lt_or_ge i w1.heap.size with hlt | hge
    · rw [k.col i hlt] at hg
      exact h.own i g hi hg
    · rcases k.own i g hge hg with h1 | h1
      · rcases Nat.lt_or_ge g w.heap.size with h2 | h2
        · exact .inl (hM g h2 h1)
        · exact .inr h2
      · have := h.size
        exact .inr (by omega)
  · rw [k.cold i (by have := h.size; omega), h.cold i hi hn]
    intro g hg hmg
    rw [h.col i hi] at hg
    exact hn g hg (hM g (h.wf0 i g hg).2 hmg)

theorem Tr.mono (h : Tr M c c' w w') (hM : ∀ r, r < w.heap.size → M r → M' r) : Tr M' c c' w w' :=
  ⟨h.os, h.tape, h.output, h.size, h.wf0, h.wf, h.col, fun k g hk hg => by
    rcases h.own k g hk hg with h1 | h1
    · rcases Nat.lt_or_ge g w.heap.size with h2 | h2
      · exact .inl (hM g h2 h1)
      · exact .inr h2
    · exact .inr h1, fun k hk hn => h.cold k hk fun g hg hm => hn g hg (hM g (h.wf0 k g hg).2 hm)⟩

theorem Tr.then (h : Tr M c c1 w w1) (k : Tr M c1 c2 w1 w2) : Tr M c c2 w w2 := h.trans k fun _ _ h => h

/-- A call that turned nothing that was there. -/
theorem Tr.of_below (h : Wf c w) (hb : Below w.heap.size w w') : Tr M c c w w' :=
  ⟨hb.os, hb.tape, hb.output, hb.size, h, fun k g hg => by
    obtain ⟨h1, h2⟩ := h k g hg
    have := hb.size
    exact ⟨by omega, by omega⟩, fun _ _ => rfl, fun k g hk hg => by have := (h k g hg).1; omega, fun k hk _ => hb.block k hk⟩

theorem Tr.below (h : Tr M c c' w w') (hM : ∀ r, r < w.heap.size → ¬ M r) : Below w.heap.size w w' :=
  ⟨h.os, h.tape, h.output, h.size, fun k hk => h.cold k hk fun g hg => hM g (h.wf0 k g hg).2⟩

theorem Tr.alloc (h : Tr M c c1 w w1) (o : Obj) : Tr M c c1 w (w1.alloc o) :=
  h.trans (M' := M) (Tr.of_below h.wf ((Below.refl _ _).alloc (Nat.le_refl _) o)) fun _ _ h => h

theorem Tr.drew (h : Tr M c c1 w w1) : Tr M c c1 w w1.drew := ⟨h.os, h.tape, h.output, h.size, h.wf0, h.wf, h.col, h.own, h.cold⟩
theorem Tr.drewN (h : Tr M c c1 w w1) (n : Nat) : Tr M c c1 w (w1.drewN n) := ⟨h.os, h.tape, h.output, h.size, h.wf0, h.wf, h.col, h.own, h.cold⟩

theorem Tr.new {c : Col} {w : World} (hw : Wf c w) (o : Obj) : Tr (fun _ => False) c c w (w.alloc o) := (Tr.refl _ hw).alloc o
/-- A block that is new gets an owner. -/
theorem Tr.hot (h : Tr M c c1 w w1) {k g : Nat} (hk : w.heap.size ≤ k) (hk1 : k < w1.heap.size) (hg1 : g < w1.heap.size) (hg : M g ∨ w.heap.size ≤ g) : Tr M c (c1.set k g) w w1 := by
  refine ⟨h.os, h.tape, h.output, h.size, h.wf0, fun i r hr => ?_, fun i hi => ?_, fun i r hi hr => ?_, h.cold⟩
  · by_cases e : i = k
    · subst e; rw [Col.set_same] at hr; cases hr; exact ⟨hk1, hg1⟩
    · rw [Col.set_ne _ e] at hr; exact h.wf i r hr
  · rw [Col.set_ne _ (by omega)]; exact h.col i hi
  · by_cases e : i = k
    · subst e; rw [Col.set_same] at hr; cases hr; exact hg
    · rw [Col.set_ne _ e] at hr; exact h.own i r hi hr

theorem heap_of_setCell (w : World) (p : Addr) (u : Value) (k : Nat) (h : k ≠ p.block) : (w.setCell p u).heap[k]? = w.heap[k]? := Below.heap_setCell w p u k h

/-- A store into a block that one of M's states owns, or a new one. -/
theorem Tr.setCell (h : Tr M c c1 w w1) {p : Addr} {g : Nat} (hp : c1 p.block = some g) (hg : M g ∨ w.heap.size ≤ g) (u : Value) : Tr M c c1 w (w1.setCell p u) := by
  have hs : (w1.setCell p u).heap.size = w1.heap.size := by simp [World.setCell]
  refine ⟨h.os, h.tape, h.output, by rw [hs]; exact h.size, h.wf0, fun i r hr => by rw [hs]; exact h.wf i r hr, h.col, h.own, fun k hk hn => ?_⟩
  rw [heap_of_setCell _ _ _ _ ?_]
  · exact h.cold k hk hn
  · rintro rfl
    rw [h.col _ hk] at hp
    rcases hg with hg | hg
    · exact hn g hp hg
    · have := (h.wf0 _ g hp).2; omega

/-- The row that an append may have written is owned by one of M's states, or new. -/
theorem Tr.grown (h : Tr M c c1 w w1) {row : Option Nat} (hgr : w1.grownBy w2 row) (hr : ∀ k, row = some k → ∃ g, c1 k = some g ∧ (M g ∨ w.heap.size ≤ g)) : Tr M c c1 w w2 := by
  refine ⟨hgr.os.trans h.os, hgr.tape.trans h.tape, hgr.output.trans h.output, Nat.le_trans h.size hgr.size, h.wf0, fun i r hr => ?_, h.col, h.own, fun k hk hn => ?_⟩
  · obtain ⟨h1, h2⟩ := h.wf i r hr
    have := hgr.size
    exact ⟨by omega, by omega⟩
  · rw [hgr.block k (by have := h.size; omega) ?_, h.cold k hk hn]
    intro e
    obtain ⟨g, h1, h2⟩ := hr k e.symm
    rw [h.col k hk] at h1
    rcases h2 with h2 | h2
    · exact hn g h1 h2
    · have := (h.wf0 _ g h1).2; omega

theorem Tr.low (h : Tr M c c1 w w1) {g : Nat} (k : Tr (· = g) c1 c2 w1 w2) (hg : w.heap.size ≤ g) : Tr M c c2 w w2 := h.trans k fun r hr e => by omega
/-- A block of one's own, whole. -/
def Loc (w : World) (c : Col) (b : Nat) (t : TypeId) (cs : Array Value) : Prop := c b = some b ∧ w.heap[b]? = some (.cells cs t (0, 0))
theorem Loc.lt {b : Nat} {t : TypeId} {cs : Array Value} (h : Loc w c b t cs) : b < w.heap.size := (Array.getElem?_eq_some_iff.1 h.2).1
theorem Loc.tr {b : Nat} {t : TypeId} {cs : Array Value} (h : Loc w c b t cs) (k : Tr M c c' w w') (hM : ¬ M b) : Loc w' c' b t cs :=
  ⟨by rw [k.col b h.lt]; exact h.1, by rw [k.cold b h.lt]; exact h.2; intro g hg; rw [h.1] at hg; cases hg; exact hM⟩
theorem Loc.cell {b : Nat} {t : TypeId} {cs : Array Value} (h : Loc w c b t cs) (i : Nat) : w.cell? ⟨b, i, none⟩ = cs[i]? := cell_of_row w b i cs t (0, 0) h.2
theorem Loc.frozen {b : Nat} {t : TypeId} {cs : Array Value} (h : Loc w c b t cs) (i : Nat) : w.frozen? ⟨b, i, none⟩ = false := by simp [World.frozen?, h.2]
theorem Loc.new (c : Col) (w : World) (t : TypeId) (cs : Array Value) : Loc (w.alloc (.cells cs t)) (c.set w.heap.size w.heap.size) w.heap.size t cs := ⟨Col.set_same _ _ _, heap_alloc_new w _⟩
theorem Loc.set_ {b : Nat} {t : TypeId} {cs : Array Value} (h : Loc w c b t cs) (i : Nat) (u : Value) : Loc (w.setCell ⟨b, i, none⟩ u) c b t (cs.setIfInBounds i u) :=
  ⟨h.1, by simp [World.setCell, Array.getElem?_modify, h.2]⟩

/-- A row that the state rooted in g owns. -/
def OwnB (w : World) (c : Col) (g : Nat) (e : TypeId) (sz : Nat) (v : Value) (n : Nat) (xs : List Value) : Prop :=
  w.ownsRow 0 e sz v n xs ∧ ∀ k, v.ownBlock = some k → c k = some g
theorem OwnB.tr {g : Nat} {e : TypeId} {sz : Nat} {v : Value} {n : Nat} {xs : List Value} (h : OwnB w c g e sz v n xs) (k : Tr M c c' w w') (hM : ¬ M g) : OwnB w' c' g e sz v n xs := by
  have hlt : ∀ i, v.ownBlock = some i → i < w.heap.size := fun i hi => (h.1.lt i hi).2
  refine ⟨⟨h.1.1, ?_⟩, fun i hi => by rw [k.col i (hlt i hi)]; exact h.2 i hi⟩
  rcases h.1.2 with hn | ⟨b, cap, cur, rfl, hb, hh, r⟩
  · exact .inl hn
  · refine .inr ⟨b, cap, cur, rfl, hb, ?_, r⟩
    have hb' : Value.ownBlock (.slice (some ⟨b, 0, Option.none⟩) n cap) = some b := rfl
    rw [k.cold b (hlt b hb')]
    · exact hh
    · intro g' hg'
      rw [h.2 b hb'] at hg'
      cases hg'
      exact hM

/-- Behind an append to a row that the state g owns: its new block, if it has one, is the state's, too. -/
theorem grown_col {v v' : Value} {g : Nat} {e : TypeId} {sz n m : Nat} {xs ys : List Value} (h : Tr M c c1 w w1) (ho : OwnB w1 c1 g e sz v n xs) (hg : M g ∨ w.heap.size ≤ g) (hg1 : g < w1.heap.size)
    (hgr : w1.grownBy w2 v.ownBlock) (hown : w2.ownsRow 0 e sz v' m ys) (hat : v'.ownBlock = v.ownBlock ∨ v'.ownBlock = some w1.heap.size) :
    ∃ c2, Tr M c c2 w w2 ∧ OwnB w2 c2 g e sz v' m ys ∧ ∀ k, k < w1.heap.size → c2 k = c1 k := by
  have h2 := h.grown hgr fun k hk => ⟨g, ho.2 k hk, hg⟩
  rcases hat with hat | hat
  · exact ⟨c1, h2, ⟨hown, fun k hk => ho.2 k (by rw [← hat]; exact hk)⟩, fun _ _ => rfl⟩
  · have hlt := (hown.lt _ hat).2
    refine ⟨c1.set w1.heap.size g, h2.hot h.size hlt (by have := hgr.size; omega) hg, ⟨hown, fun k hk => ?_⟩, fun k hk => Col.set_ne _ (by omega)⟩
    rw [hat] at hk
    cases hk
    exact Col.set_same _ _ _
end

/-! ### What cells say -/
/-- What nobody may write is as it was, and nobody may write it yet. -/
structure Kp (c c' : Col) (w w' : World) : Prop where
  size : w.heap.size ≤ w'.heap.size
  cold : ∀ k, k < w.heap.size → c k = none → c' k = none ∧ w'.heap[k]? = w.heap[k]?
theorem Tr.kp {M : Nat → Prop} {c c' : Col} {w w' : World} (h : Tr M c c' w w') : Kp c c' w w' :=
  ⟨h.size, fun k hk hc => ⟨by rw [h.col k hk]; exact hc, h.cold k hk fun g hg => by rw [hc] at hg; cases hg⟩⟩
theorem Kp.of_below {c : Col} {w w' : World} (h : Below w.heap.size w w') : Kp c c w w' := ⟨h.size, fun k hk hc => ⟨hc, h.block k hk⟩⟩
theorem Kp.of_col {c c' : Col} (w : World) (h : ∀ k, k < w.heap.size → c k = none → c' k = none) : Kp c c' w w := ⟨Nat.le_refl _, fun k hk hc => ⟨h k hk hc, rfl⟩⟩
theorem Kp.trans {c c1 c2 : Col} {w w1 w2 : World} (h : Kp c c1 w w1) (k : Kp c1 c2 w1 w2) : Kp c c2 w w2 :=
  ⟨Nat.le_trans h.size k.size, fun i hi hc => by
    obtain ⟨h1, h2⟩ := h.cold i hi hc
    obtain ⟨h3, h4⟩ := k.cold i (Nat.lt_of_lt_of_le hi h.size) h1
    exact ⟨h3, h4.trans h2⟩⟩
theorem addr_add (b off j : Nat) : (⟨b, off, none⟩ : Addr).add j = ⟨b, off + j, none⟩ := by
  unfold Addr.add
  split
  · rename_i h; subst h; rfl
  · rfl
theorem getD_at {α : Type} (xs : List α) (d : α) {k : Nat} (h : k < xs.length) : xs[k]? = some (xs.getD k d) := by
  rw [List.getD_eq_getElem?_getD, List.getElem?_eq_getElem h]; rfl
structure Kd (α : Type) where
  sz : Nat
  pos : 0 < sz
  rep : World → Col → α → List Value → Prop
  len : ∀ {w : World} {c : Col} {x : α} {cs : List Value}, rep w c x cs → cs.length = sz
  one : ∀ {w : World} {c : Col} {x : α} {cs : List Value}, rep w c x cs → ∀ u ∈ cs, u.oneCell' = true
  keep : ∀ {w w' : World} {c c' : Col} {x : α} {cs : List Value}, rep w c x cs → Kp c c' w w' → rep w' c' x cs

/-- The slice (A, n, cp) reads as xs; nobody writes what it leads to. -/
def Rd {α : Type} (K : Kd α) (w : World) (c : Col) (A : Option Addr) (n cp : Nat) (xs : List α) : Prop :=
  xs.length = n ∧ n ≤ cp ∧ cp ≤ maxLen ∧
  (0 < n → ∃ b off, A = some ⟨b, off, none⟩ ∧ b < w.heap.size ∧ c b = none ∧
    ∀ j x, xs[j]? = some x → ∃ cs, K.rep w c x cs ∧ ∀ i u, cs[i]? = some u → w.cell? ⟨b, off + (j * K.sz + i), none⟩ = some u)

section
variable {α : Type} {K : Kd α} {M : Nat → Prop} {c c' : Col} {w w' : World} {A : Option Addr} {n cp : Nat} {xs : List α}
theorem Rd.kp (h : Rd K w c A n cp xs) (k : Kp c c' w w') : Rd K w' c' A n cp xs := by
  refine ⟨h.1, h.2.1, h.2.2.1, fun hn => ?_⟩
  obtain ⟨b, off, hA, hb, hc, hx⟩ := h.2.2.2 hn
  obtain ⟨hc', hblk⟩ := k.cold b hb hc
  refine ⟨b, off, hA, by have := k.size; omega, hc', fun j x hj => ?_⟩
  obtain ⟨cs, hr, hcs⟩ := hx j x hj
  refine ⟨cs, K.keep hr k, fun i u hi => ?_⟩
  have := World.cell?_of_block (a := ⟨b, off + (j * K.sz + i), none⟩) hblk
  rw [this]
  exact hcs i u hi
theorem Rd.tr (h : Rd K w c A n cp xs) (k : Tr M c c' w w') : Rd K w' c' A n cp xs := h.kp k.kp
theorem Rd.below (h : Rd K w c A n cp xs) (hb : Below w.heap.size w w') : Rd K w' c A n cp xs := h.kp (.of_below hb)
theorem Rd.cool (h : Rd K w c A n cp xs) (hc : ∀ k, k < w.heap.size → c k = none → c' k = none) : Rd K w c' A n cp xs := h.kp (.of_col w hc)
/-- What a function of its own hands back reads so under the caller's owners. -/
theorem Tr.back {w0 : World} {c0 : Col} (k : Tr M c0 c w0 w) : ∀ i, i < w.heap.size → c i = none → c0 i = none := by
  intro i _ hi
  rcases Nat.lt_or_ge i w0.heap.size with h | h
  · rw [← k.col i h]; exact hi
  · exact k.wf0.fresh h
theorem Rd.back {w0 : World} {c0 : Col} (h : Rd K w c A n cp xs) (k : Tr M c0 c w0 w) : Rd K w c0 A n cp xs := h.cool k.back
/-- A new block has been given an owner. -/
theorem Kp.hot_new (c : Col) (w : World) (o : Obj) (g : Nat) : Kp c (c.set w.heap.size g) w (w.alloc o) :=
  (Kp.of_col (c' := c.set w.heap.size g) w fun k hk hk0 => by rw [Col.set_ne _ (by omega)]; exact hk0).trans (.of_below ((Below.refl _ _).alloc (Nat.le_refl _) o))
theorem Rd.hot_new (h : Rd K w c A n cp xs) (o : Obj) (g : Nat) : Rd K (w.alloc o) (c.set w.heap.size g) A n cp xs := h.kp (.hot_new c w o g)
theorem Rd.nil (K : Kd α) (w : World) (c : Col) : Rd K w c none 0 0 [] := ⟨rfl, Nat.le_refl _, by simp [maxLen], fun h => absurd h (Nat.lt_irrefl 0)⟩
theorem Rd.len (h : Rd K w c A n cp xs) : xs.length = n := h.1
theorem Rd.max (h : Rd K w c A n cp xs) : n ≤ 9223372036854775807 := by
  have h1 := h.2.1
  have h2 := h.2.2.1
  simp only [maxLen] at h2
  omega
theorem Rd.addr (h : Rd K w c A n cp xs) (hn : 0 < n) : ∃ b off, A = some ⟨b, off, none⟩ := by
  obtain ⟨b, off, hA, _⟩ := h.2.2.2 hn
  exact ⟨b, off, hA⟩
/-- Element k. -/
theorem Rd.elem {b off : Nat} (h : Rd K w c (some ⟨b, off, none⟩) n cp xs) {k : Nat} {x : α} (hx : xs[k]? = some x) :
    b < w.heap.size ∧ c b = none ∧ ∃ cs, K.rep w c x cs ∧ ∀ i u, cs[i]? = some u → w.cell? ⟨b, off + (k * K.sz + i), none⟩ = some u := by
  have hk : k < xs.length := (List.getElem?_eq_some_iff.1 hx).1
  obtain ⟨b', off', hA, hb, hc, hel⟩ := h.2.2.2 (by have := h.1; omega)
  cases hA
  exact ⟨hb, hc, hel k x hx⟩
theorem Rd.take (h : Rd K w c A n cp xs) {m : Nat} (hm : m ≤ n) : Rd K w c A m cp (xs.take m) := by
  refine ⟨by rw [List.length_take, h.1]; omega, by have := h.2.1; omega, h.2.2.1, fun hp => ?_⟩
  obtain ⟨b, off, hA, hb, hc, hel⟩ := h.2.2.2 (by omega)
  refine ⟨b, off, hA, hb, hc, fun j x hj => hel j x ?_⟩
  rw [List.getElem?_take] at hj
  split at hj
  · exact hj
  · cases hj
theorem Rd.drop (h : Rd K w c A n cp xs) {m : Nat} (hm : m ≤ n) : Rd K w c (if cp = m then A else A.map (·.add (m * K.sz))) (n - m) (cp - m) (xs.drop m) := by
  refine ⟨by rw [List.length_drop, h.1], by have := h.2.1; omega, by have := h.2.2.1; omega, fun hp => ?_⟩
  obtain ⟨b, off, rfl, hb, hc, hel⟩ := h.2.2.2 (by omega)
  rw [if_neg (by have := h.2.1; omega)]
  refine ⟨b, off + m * K.sz, ?_, hb, hc, fun j x hj => ?_⟩
  · simp only [Option.map_some, Addr.add]
    split
    · rename_i h0
      rw [h0]; rfl
    · rfl
  · rw [List.getElem?_drop] at hj
    obtain ⟨cs, hr, hcs⟩ := hel (m + j) x hj
    refine ⟨cs, hr, fun i u hi => ?_⟩
    have := hcs i u hi
    rw [Nat.add_mul] at this
    rw [show off + m * K.sz + (j * K.sz + i) = off + (m * K.sz + j * K.sz + i) by omega]
    exact this
end

/-- Rows that are owned read, when their owner lets them go (c' has them free). -/
theorem Rd.of_own {α : Type} {K : Kd α} {w : World} {c : Col} {b0 : Nat} {e : TypeId} {v : Value} {n : Nat} {cells : List Value} {xs : List α} (h : w.ownsRow b0 e K.sz v n cells) (hn : xs.length = n)
    (hf : ∀ k, v.ownBlock = some k → c k = none) (hx : ∀ j x, xs[j]? = some x → K.rep w c x ((cells.drop (j * K.sz)).take K.sz)) : ∃ A cp, v = .slice A n cp ∧ Rd K w c A n cp xs := by
  rcases h.2 with ⟨rfl, h0⟩ | ⟨g, cap, cur, rfl, _, hh, hnc, hcm, hsz, htk⟩
  · subst h0
    exact ⟨none, 0, rfl, hn, Nat.le_refl _, by simp [maxLen], fun h => absurd h (Nat.lt_irrefl 0)⟩
  · refine ⟨_, cap, rfl, hn, hnc, hcm, fun hp => ⟨g, 0, rfl, (Array.getElem?_eq_some_iff.1 hh).1, hf g rfl, fun j x hj => ⟨_, hx j x hj, fun i u hi => ?_⟩⟩⟩
    rw [List.getElem?_take] at hi
    split at hi
    · rw [List.getElem?_drop] at hi
      have := h.cells (g := g) rfl (j * K.sz + i) u hi
      rwa [addr_add] at this
    · cases hi

theorem getD_at' {α : Type} (xs : List α) (d : α) {k : Nat} (h : k < xs.length) : xs[k]? = some (xs[k]?.getD d) := by
  rw [List.getElem?_eq_getElem h]; rfl
theorem take_snoc {α : Type} (l : List α) (d : α) {k : Nat} (h : k < l.length) : l.take (k + 1) = l.take k ++ [l[k]?.getD d] := by
  rw [List.take_add_one, List.getElem?_eq_getElem h]; rfl
theorem take_snoc' {α : Type} {l : List α} {k : Nat} {x : α} (h : l[k]? = some x) : l.take (k + 1) = l.take k ++ [x] := by
  rw [List.take_add_one, h]; rfl
/-! ### Kinds -/
def kU8 : Kd UInt8 where
  sz := 1
  pos := by decide
  rep := fun _ _ x cs => cs = [.int .u8 (x.toNat : Int)]
  len := by intro w c x cs h; subst h; rfl
  one := by intro w c x cs h u hu; subst h; simp at hu; subst hu; rfl
  keep := fun h _ => h

/-- The cells of bytes. -/
def bcells (xs : List UInt8) : List Value := xs.map fun x => .int .u8 (x.toNat : Int)
theorem bcells_length (xs : List UInt8) : (bcells xs).length = xs.length := by simp [bcells]
theorem bcells_append (xs ys : List UInt8) : bcells (xs ++ ys) = bcells xs ++ bcells ys := by simp [bcells]
theorem bcells_at (xs : List UInt8) (j : Nat) (x : UInt8) (h : xs[j]? = some x) : (bcells xs)[j]? = some (.int .u8 (x.toNat : Int)) := by
  unfold bcells
  rw [List.getElem?_map, h]
  rfl

/-- A byte of a slice that is read, at the address that the walk has. -/
theorem Rd.byte {w : World} {c : Col} {b off n cp : Nat} {xs : List UInt8} (h : Rd kU8 w c (some ⟨b, off, none⟩) n cp xs) {k : Nat} (hk : k < n) :
    w.cell? ⟨b, off + k, none⟩ = some (.int .u8 (((xs[k]?.getD 0).toNat : Nat) : Int)) := by
  have hl := h.1
  have hx : xs[k]? = some (xs[k]?.getD 0) := getD_at' xs 0 (by omega)
  obtain ⟨_, _, cs, hr, hcs⟩ := h.elem hx
  obtain rfl : cs = [.int .u8 ((xs[k]?.getD 0).toNat : Int)] := hr
  have := hcs 0 _ rfl
  simpa [kU8] using this
theorem Rd.news {w : World} {c : Col} {b off n cp : Nat} {xs : List UInt8} (h : Rd kU8 w c (some ⟨b, off, none⟩) n cp xs) : ∀ j u, (bcells xs)[j]? = some u → w.cell? ((⟨b, off, none⟩ : Addr).add j) = some u := by
  intro j u hu
  have hj : j < n := by
    have := (List.getElem?_eq_some_iff.1 hu).1
    rw [bcells_length, h.1] at this
    exact this
  have h1 := h.byte hj
  have hx : xs[j]? = some (xs[j]?.getD 0) := getD_at' xs 0 (by have := h.1; omega)
  rw [bcells_at _ _ _ hx] at hu
  cases hu
  rw [addr_add]
  exact h1
theorem Rd.of_own_bytes {w : World} {c : Col} {b0 : Nat} {e : TypeId} {v : Value} {n : Nat} {xs : List UInt8} (h : w.ownsRow b0 e 1 v n (bcells xs)) (hf : ∀ k, v.ownBlock = some k → c k = none) :
    ∃ A cp, v = .slice A n cp ∧ Rd kU8 w c A n cp xs := by
  have hn : xs.length = n := by have := h.1; rw [bcells_length] at this; omega
  refine Rd.of_own (K := kU8) h hn hf fun j x hj => ?_
  show ((bcells xs).drop (j * 1)).take 1 = _
  have h1 := bcells_at xs j x hj
  have hlt : j < (bcells xs).length := (List.getElem?_eq_some_iff.1 h1).1
  rw [Nat.mul_one, List.drop_eq_getElem_cons hlt]
  simp only [List.take_succ_cons, List.take_zero]
  rw [List.getElem?_eq_getElem hlt] at h1
  injection h1 with h1
  rw [h1]
/-! ### append: to a row that a state owns -/
theorem one_cell {u : Value} (h : u.oneCell' = true) : ∀ x ∈ #[u], x.oneCell' = true := by
  intro x hx
  simp at hx
  subst hx
  exact h
theorem own_form {w : World} {b0 : Nat} {e : TypeId} {sz n : Nat} {v : Value} {xs : List Value} (h : w.ownsRow b0 e sz v n xs) : ∃ A cp, v = .slice A n cp := by
  rcases h.2 with ⟨rfl, rfl⟩ | ⟨g, cap, cur, rfl, _⟩
  · exact ⟨none, 0, rfl⟩
  · exact ⟨_, cap, rfl⟩

section
variable {P : Program} {ops : Array Oper} {rest : List Oper} {o : Oper} {a : Act} {Q : Exit → Act → World → Prop}

/-- append(v, y), y of one cell or several (a struct): behind 'at_builtin'; the world is 'W.alloc' of the box. -/
theorem app_one {W : World} (s x : Operand) (t e : TypeId) (z : Value) (sz bytes : Nat) (hgd : o.guard = none)
    (ho : o.op = .call { callee := .builtin .append, args := #[s, x], argTypes := #[t, t] })
    (ht : P.underlying t = some (.slice e)) (hinfo : (P.info? e).map (fun i => (i.zero, i.size, i.bytes)) = some (some z, sz, bytes)) (hz : z.cells.size = sz) (hsz : 0 < sz) (hb0 : 0 < bytes)
    {A : Option Addr} {n cp : Nat} (cells : List Value) (ys : Array Value) (hys : ys.size = sz) (hs : a.eval s = .slice A n cp) (hx : a.eval x = .slice (some ⟨W.heap.size, 0, none⟩) 1 1) (h1 : ∀ u ∈ ys, u.oneCell' = true)
    (HO : W.ownsRow 0 e sz (.slice A n cp) n cells) (hl : (n + 1) * bytes ≤ 140737488355328)
    (h : ∀ A1 cp1 w1, w1.ownsRow 0 e sz (.slice A1 (n + 1) cp1) (n + 1) (cells ++ ys.toList) → (W.alloc (.cells ys e)).grownBy w1 (Value.slice A n cp).ownBlock →
      ((Value.slice A1 (n + 1) cp1).ownBlock = (Value.slice A n cp).ownBlock ∨ (Value.slice A1 (n + 1) cp1).ownBlock = some (W.alloc (.cells ys e)).heap.size) → wpList P ops Q rest (a.put o.dst (.slice A1 (n + 1) cp1)) w1) :
    wpList P ops Q (o :: rest) a (W.alloc (.cells ys e)) := by
  obtain ⟨i0, hi, hzz⟩ := Option.map_eq_some_iff.1 hinfo
  simp only [Prod.mk.injEq] at hzz
  obtain ⟨hz0, hz1, hz2⟩ := hzz
  have hlen : n + 1 ≤ 140737488355328 := Nat.le_trans (Nat.le_mul_of_pos_right _ hb0) hl
  refine wpList_append_own_at (W.alloc (.cells ys e)) hgd s x t ho 0 e i0 z sz bytes ht hi hz0 hz1 hz2 hz hsz (.slice A n cp) n cells hs (HO.alloc _) ⟨W.heap.size, 0, none⟩ 1 1 ys.toList hx
    (by simp [hys]) (World.news_of_block (cs := ys) (t := e) (fr := (0, 0)) (heap_alloc_new W _)) (by simpa using h1) (by simp only [maxLen]; omega) hl (Nat.zero_le _) ?_
  intro v1 w1 hown hg _ hat
  obtain ⟨A1, cp1, rfl⟩ := own_form hown
  exact h A1 cp1 w1 hown hg hat

/-- append(v, ys...), ys a slice of bytes that is read. -/
theorem app_bytes {W : World} {c : Col} (s x : Operand) (t e : TypeId) (hgd : o.guard = none)
    (ho : o.op = .call { callee := .builtin .append, args := #[s, x], argTypes := #[t, t] })
    (ht : P.underlying t = some (.slice e)) (hinfo : (P.info? e).map (fun i => (i.zero, i.size, i.bytes)) = some (some (.int .u8 0), 1, 1))
    {A B : Option Addr} {n cp m cq : Nat} (xs ys : List UInt8) (hs : a.eval s = .slice A n cp) (hx : a.eval x = .slice B m cq)
    {b0 : Nat} (hb0 : b0 ≤ W.heap.size) (HO : W.ownsRow b0 e 1 (.slice A n cp) n (bcells xs)) (HR : Rd kU8 W c B m cq ys) (hl : n + m ≤ 140737488355328)
    (h : ∀ A1 cp1 w1, w1.ownsRow b0 e 1 (.slice A1 (n + m) cp1) (n + m) (bcells (xs ++ ys)) → W.grownBy w1 (Value.slice A n cp).ownBlock →
      ((Value.slice A1 (n + m) cp1).ownBlock = (Value.slice A n cp).ownBlock ∨ (Value.slice A1 (n + m) cp1).ownBlock = some W.heap.size) → wpList P ops Q rest (a.put o.dst (.slice A1 (n + m) cp1)) w1) :
    wpList P ops Q (o :: rest) a W := by
  obtain ⟨i0, hi, hzz⟩ := Option.map_eq_some_iff.1 hinfo
  simp only [Prod.mk.injEq] at hzz
  obtain ⟨hz0, hz1, hz2⟩ := hzz
  rcases B with _ | ad
  · have h0 : m = 0 := by
      rcases Nat.eq_zero_or_pos m with h0 | h0
      · exact h0
      · obtain ⟨b, off, e⟩ := HR.addr h0; cases e
    subst h0
    obtain rfl : ys = [] := List.eq_nil_of_length_eq_zero HR.1
    refine wpList_plain hgd fun K hK => ?_
    have hr : (Builtin.append_ #[t, t] o.type #[.slice A n cp, .slice none 0 cq]).run P W = .ok (.slice A n cp) W := by
      rcases HO.2 with ⟨hv, hn⟩ | ⟨g, cap, cur, hv, _, _, hnc, _⟩
      · cases hv; simp [Builtin.append_, run_underlying ht, sizeOf, typeInfo, hi, Builtin.lenOf, Builtin.firstCells]
      · cases hv; simp [Builtin.append_, run_underlying ht, sizeOf, typeInfo, hi, Builtin.lenOf, Builtin.firstCells, hnc, storeCells]
    unfold Oper.wp execOp
    simp only [ho, resolve, invoke, builtin, Sem.run_bind, Sem.run_pure, Result.andThen_ok, List.map_toArray, List.map_cons, List.map_nil, hs, hx, hr]
    exact hK _ _ (h A cp W (by simpa using HO) (World.grownBy.refl W _) (.inl rfl))
  · have hnews : ∀ j u, (bcells ys)[j]? = some u → W.cell? (ad.add j) = some u := by
      intro j u hu
      have hj : j < m := by
        have := (List.getElem?_eq_some_iff.1 hu).1
        rw [bcells_length, HR.1] at this
        exact this
      obtain ⟨b, off, e⟩ := HR.addr (by omega)
      cases e
      exact HR.news j u hu
    refine wpList_append_own_at W hgd s x t ho b0 e i0 (.int .u8 0) 1 1 ht hi hz0 hz1 hz2 rfl (by omega) (.slice A n cp) n (bcells xs) hs HO ad m cq (bcells ys) hx
      (by rw [bcells_length, HR.1]; omega) hnews (by intro u hu; simp only [bcells, List.mem_map] at hu; obtain ⟨q, _, rfl⟩ := hu; rfl) (by simp only [maxLen]; omega) (by omega) hb0 ?_
    intro v1 w1 hown hg _ hat
    obtain ⟨A1, cp1, rfl⟩ := own_form hown
    exact h A1 cp1 w1 (by rw [bcells_append]; exact hown) hg hat

/-- append(v, y) to a row of the call's own from 'base' on. -/
theorem app_one_own {W w : World} {base : Nat} (s x : Operand) (t e : TypeId) (z : Value) (sz bytes : Nat) (hgd : o.guard = none)
    (ho : o.op = .call { callee := .builtin .append, args := #[s, x], argTypes := #[t, t] })
    (ht : P.underlying t = some (.slice e)) (hinfo : (P.info? e).map (fun i => (i.zero, i.size, i.bytes)) = some (some z, sz, bytes)) (hz : z.cells.size = sz) (hsz : 0 < sz) (hb0 : 0 < bytes)
    {A : Option Addr} {n cp : Nat} (cells : List Value) (ys : Array Value) (hys : ys.size = sz) (hs : a.eval s = .slice A n cp) (hx : a.eval x = .slice (some ⟨W.heap.size, 0, none⟩) 1 1) (h1 : ∀ u ∈ ys, u.oneCell' = true)
    (hbase : base ≤ W.heap.size) (HB : Below base w W) (HO : W.ownsRow base e sz (.slice A n cp) n cells) (hl : (n + 1) * bytes ≤ 140737488355328)
    (h : ∀ A1 cp1 w1, Below base w w1 → w1.ownsRow base e sz (.slice A1 (n + 1) cp1) (n + 1) (cells ++ ys.toList) → W.heap.size < w1.heap.size → wpList P ops Q rest (a.put o.dst (.slice A1 (n + 1) cp1)) w1) :
    wpList P ops Q (o :: rest) a (W.alloc (.cells ys e)) := by
  obtain ⟨i0, hi, hzz⟩ := Option.map_eq_some_iff.1 hinfo
  simp only [Prod.mk.injEq] at hzz
  obtain ⟨hz0, hz1, hz2⟩ := hzz
  have hlen : n + 1 ≤ 140737488355328 := Nat.le_trans (Nat.le_mul_of_pos_right _ hb0) hl
  refine wpList_append_own_at (W.alloc (.cells ys e)) hgd s x t ho base e i0 z sz bytes ht hi hz0 hz1 hz2 hz hsz (.slice A n cp) n cells hs (HO.alloc _) ⟨W.heap.size, 0, none⟩ 1 1 ys.toList hx
    (by simp [hys]) (World.news_of_block (cs := ys) (t := e) (fr := (0, 0)) (heap_alloc_new W _)) (by simpa using h1) (by simp only [maxLen]; omega) hl (by simp; omega) ?_
  intro v1 w1 hown hg _ hat
  obtain ⟨A1, cp1, rfl⟩ := own_form hown
  refine h A1 cp1 w1 ((HB.alloc hbase _).grown hg (by simp; omega) fun k hk => (HO.lt k hk).1) hown ?_
  have := hg.size
  simp at this
  omega

theorem own_block_ne {w : World} {b0 : Nat} {e t : TypeId} {sz n : Nat} {v : Value} {xs : List Value} {b : Nat} {cs : Array Value} {fr : Nat × Nat} (h : w.ownsRow b0 e sz v n xs) (hb : w.heap[b]? = some (.cells cs t fr)) (hne : t ≠ e) : some b ≠ v.ownBlock := by
  intro hk
  rcases h.2 with ⟨rfl, _⟩ | ⟨g, cap, cur, rfl, _, hh, _⟩
  · simp [Value.ownBlock] at hk
  · have : b = g := by simpa [Value.ownBlock] using hk
    subst this
    rw [hh] at hb
    injection hb with hb
    injection hb with _ ht
    exact hne ht.symm

/-- The same for a row that the state g owns, told by owners. -/
theorem app_one_st {W w : World} {c c1 : Col} {M : Nat → Prop} {g : Nat} (s x : Operand) (t e : TypeId) (z : Value) (sz bytes : Nat) (hgd : o.guard = none)
    (ho : o.op = .call { callee := .builtin .append, args := #[s, x], argTypes := #[t, t] })
    (ht : P.underlying t = some (.slice e)) (hinfo : (P.info? e).map (fun i => (i.zero, i.size, i.bytes)) = some (some z, sz, bytes)) (hz : z.cells.size = sz) (hsz : 0 < sz) (hb0 : 0 < bytes)
    {A : Option Addr} {n cp : Nat} (cells : List Value) (ys : Array Value) (hys : ys.size = sz) (hs : a.eval s = .slice A n cp) (hx : a.eval x = .slice (some ⟨W.heap.size, 0, none⟩) 1 1) (h1 : ∀ u ∈ ys, u.oneCell' = true)
    (HT : Tr M c c1 w W) (HO : OwnB W c1 g e sz (.slice A n cp) n cells) (hg : M g ∨ w.heap.size ≤ g) (hgW : g < W.heap.size) (hl : (n + 1) * bytes ≤ 140737488355328)
    (h : ∀ A1 cp1 w1 c2, Tr M c c2 w w1 → OwnB w1 c2 g e sz (.slice A1 (n + 1) cp1) (n + 1) (cells ++ ys.toList) →
      (∀ (b : Nat) (t' : TypeId) (cs : Array Value) (fr : Nat × Nat), t' ≠ e → W.heap[b]? = some (.cells cs t' fr) → w1.heap[b]? = some (.cells cs t' fr)) → (∀ k, k < W.heap.size → c2 k = c1 k) → wpList P ops Q rest (a.put o.dst (.slice A1 (n + 1) cp1)) w1) :
    wpList P ops Q (o :: rest) a (W.alloc (.cells ys e)) := by
  refine app_one s x t e z sz bytes hgd ho ht hinfo hz hsz hb0 cells ys hys hs hx h1 HO.1 hl fun A1 cp1 w1 hown hgr hat => ?_
  have HO' : OwnB (W.alloc (.cells ys e)) c1 g e sz (.slice A n cp) n cells := ⟨HO.1.alloc _, HO.2⟩
  obtain ⟨c2, h2, h3, h4⟩ := grown_col (HT.alloc (Obj.cells ys e)) HO' hg (by simp; omega) hgr hown hat
  refine h A1 cp1 w1 c2 h2 h3 (fun b t' cs fr hne hb => ?_) (fun k hk => h4 k (by simp; omega))
  have hlt : b < W.heap.size := (Array.getElem?_eq_some_iff.1 hb).1
  have hb' : (W.alloc (.cells ys e)).heap[b]? = some (.cells cs t' fr) := (Below.heap_alloc W _ b hlt).trans hb
  rw [hgr.block b (by simp; omega) (own_block_ne HO'.1 hb' hne)]
  exact hb'

theorem app_bytes_st {W w : World} {c c1 : Col} {M : Nat → Prop} {g : Nat} (s x : Operand) (t e : TypeId) (hgd : o.guard = none)
    (ho : o.op = .call { callee := .builtin .append, args := #[s, x], argTypes := #[t, t] })
    (ht : P.underlying t = some (.slice e)) (hinfo : (P.info? e).map (fun i => (i.zero, i.size, i.bytes)) = some (some (.int .u8 0), 1, 1))
    {A B : Option Addr} {n cp m cq : Nat} (xs ys : List UInt8) (hs : a.eval s = .slice A n cp) (hx : a.eval x = .slice B m cq)
    (HT : Tr M c c1 w W) (HO : OwnB W c1 g e 1 (.slice A n cp) n (bcells xs)) (hg : M g ∨ w.heap.size ≤ g) (hgW : g < W.heap.size) (HR : Rd kU8 W c1 B m cq ys) (hl : n + m ≤ 140737488355328)
    (h : ∀ A1 cp1 w1 c2, Tr M c c2 w w1 → OwnB w1 c2 g e 1 (.slice A1 (n + m) cp1) (n + m) (bcells (xs ++ ys)) →
      (∀ (b : Nat) (t' : TypeId) (cs : Array Value) (fr : Nat × Nat), t' ≠ e → W.heap[b]? = some (.cells cs t' fr) → w1.heap[b]? = some (.cells cs t' fr)) → (∀ k, k < W.heap.size → c2 k = c1 k) → wpList P ops Q rest (a.put o.dst (.slice A1 (n + m) cp1)) w1) :
    wpList P ops Q (o :: rest) a W := by
  refine app_bytes (c := c1) s x t e hgd ho ht hinfo xs ys hs hx (Nat.zero_le _) HO.1 HR hl fun A1 cp1 w1 hown hgr hat => ?_
  obtain ⟨c2, h2, h3, h4⟩ := grown_col HT HO hg hgW hgr hown hat
  refine h A1 cp1 w1 c2 h2 h3 (fun b t' cs fr hne hb => ?_) h4
  rw [hgr.block b (Array.getElem?_eq_some_iff.1 hb).1 (own_block_ne HO.1 hb hne)]
  exact hb

/-- append to a row of the call's own that nobody else will write: what comes out reads, whoever owns what. -/
theorem app_bytes_new {w0 W : World} {c : Col} (s x : Operand) (t e : TypeId) (hgd : o.guard = none)
    (ho : o.op = .call { callee := .builtin .append, args := #[s, x], argTypes := #[t, t] })
    (ht : P.underlying t = some (.slice e)) (hinfo : (P.info? e).map (fun i => (i.zero, i.size, i.bytes)) = some (some (.int .u8 0), 1, 1))
    {A B : Option Addr} {n cp m cq : Nat} (xs ys : List UInt8) (hs : a.eval s = .slice A n cp) (hx : a.eval x = .slice B m cq)
    (HB : Below w0.heap.size w0 W) (HO : W.ownsRow w0.heap.size e 1 (.slice A n cp) n (bcells xs)) (HR : Rd kU8 W c B m cq ys) (hl : n + m ≤ 140737488355328)
    (h : ∀ A1 cp1 w1, Below w0.heap.size w0 w1 → (∀ c0, Wf c0 w0 → Rd kU8 w1 c0 A1 (n + m) cp1 (xs ++ ys)) → w1.ownsRow w0.heap.size e 1 (.slice A1 (n + m) cp1) (n + m) (bcells (xs ++ ys)) →
      W.heap.size ≤ w1.heap.size → wpList P ops Q rest (a.put o.dst (.slice A1 (n + m) cp1)) w1) :
    wpList P ops Q (o :: rest) a W := by
  refine app_bytes (c := c) s x t e hgd ho ht hinfo xs ys hs hx HB.size HO HR hl fun A1 cp1 w1 hown hgr hat => ?_
  refine h A1 cp1 w1 (HB.grown hgr HB.size fun k hk => (HO.lt k hk).1) (fun c0 hc0 => ?_) hown hgr.size
  obtain ⟨A2, cp2, he, hr⟩ := Rd.of_own_bytes (c := c0) hown fun k hk => hc0.fresh (hown.lt k hk).1
  cases he
  exact hr
/-- An empty row, just made. -/
theorem own_empty (w0 W : World) (e : TypeId) (h : w0.heap.size ≤ W.heap.size) : (W.alloc (.cells #[] e)).ownsRow w0.heap.size e 1 (.slice (some ⟨W.heap.size, 0, none⟩) 0 0) 0 (bcells []) :=
  World.ownsRow_lit (base := w0.heap.size) (e := e) (size := 1) W #[] 0 h (by simp [maxLen]) rfl
theorem own_none (w0 W : World) (e : TypeId) : W.ownsRow w0.heap.size e 1 (.slice none 0 0) 0 (bcells []) := World.ownsRow_nil W _ e 1
end
theorem blk_cell {w : World} {g : Nat} {t : TypeId} {cs : Array Value} (h : w.heap[g]? = some (.cells cs t (0, 0))) (i : Nat) : w.cell? ⟨g, i, none⟩ = cs[i]? := cell_of_row w g i cs t (0, 0) h
theorem blk_cell0 {w : World} {g : Nat} {t : TypeId} {u : Value} {cs : List Value} (h : w.heap[g]? = some (.cells ⟨u :: cs⟩ t (0, 0))) : w.cell? ⟨g, 0, none⟩ = some u := blk_cell h 0
theorem blk_cell1 {w : World} {g : Nat} {t : TypeId} {u0 u : Value} {cs : List Value} (h : w.heap[g]? = some (.cells ⟨u0 :: u :: cs⟩ t (0, 0))) : w.cell? ⟨g, 1, none⟩ = some u := blk_cell h 1
theorem blk_cell2 {w : World} {g : Nat} {t : TypeId} {u0 u1 u : Value} {cs : List Value} (h : w.heap[g]? = some (.cells ⟨u0 :: u1 :: u :: cs⟩ t (0, 0))) : w.cell? ⟨g, 2, none⟩ = some u := blk_cell h 2
theorem blk_free {w : World} {g : Nat} {t : TypeId} {cs : Array Value} (h : w.heap[g]? = some (.cells cs t (0, 0))) (i : Nat) : w.frozen? ⟨g, i, none⟩ = false := by simp [World.frozen?, h]
theorem blk_lt {w : World} {g : Nat} {o : Obj} (h : w.heap[g]? = some o) : g < w.heap.size := (Array.getElem?_eq_some_iff.1 h).1
theorem blk_set {w : World} {g : Nat} {t : TypeId} {cs : Array Value} (h : w.heap[g]? = some (.cells cs t (0, 0))) (i : Nat) (u : Value) : (w.setCell ⟨g, i, none⟩ u).heap[g]? = some (.cells (cs.setIfInBounds i u) t (0, 0)) := by
  simp [World.setCell, Array.getElem?_modify, h]
/-- A row that is owned is kept where another block is written. -/
theorem OwnB.far {w : World} {c : Col} {g : Nat} {e t : TypeId} {sz n : Nat} {v : Value} {xs : List Value} {b : Nat} {cs : Array Value} {fr : Nat × Nat} (h : OwnB w c g e sz v n xs) (hb : w.heap[b]? = some (.cells cs t fr)) (hne : t ≠ e) (i : Nat) (u : Value) :
    OwnB (w.setCell ⟨b, i, none⟩ u) c g e sz v n xs := by
  have hk := own_block_ne h.1 hb hne
  refine ⟨⟨h.1.1, ?_⟩, h.2⟩
  rcases h.1.2 with hn | ⟨g', cap, cur, rfl, h0, hh, r⟩
  · exact .inl hn
  · refine .inr ⟨g', cap, cur, rfl, h0, ?_, r⟩
    rw [heap_of_setCell _ _ _ _ (by intro e; subst e; exact hk rfl)]
    exact hh

/-- 'xs[m:]' without a case on the capacity: the equation is laid ahead of the walk. -/
theorem cut_low {P : Program} {α : Type} (K : Kd α) (t e : TypeId) (kl : IntKind) (ht : P.underlying t = some (.slice e)) {z : Value} {by_ : Nat} (hinfo : (P.info? e).map (fun i => (i.zero, i.size, i.bytes)) = some (some z, K.sz, by_))
    (A : Option Addr) (n cp m : Nat) (hm : m ≤ n) :
    ∃ A' : Option Addr, (∀ W : World, (Instr.slice t (.slice A n cp) (some (.int kl (m : Int))) none none).run P W = .ok (.slice A' (n - m) (cp - m)) W) ∧
      ∀ (w : World) (c : Col) (xs : List α), Rd K w c A n cp xs → Rd K w c A' (n - m) (cp - m) (xs.drop m) := by
  obtain ⟨i, hi, hzz⟩ := Option.map_eq_some_iff.1 hinfo
  simp only [Prod.mk.injEq] at hzz
  refine ⟨if cp = m then A else A.map (·.add (m * K.sz)), fun W => ?_, fun w c xs h => h.drop hm⟩
  have hel : P.elem t = e := by simp [Program.elem, ht]
  have hu : P.underlying t = some (.slice (P.elem t)) := by rw [hel]; exact ht
  rw [run_slice_l W t A n cp hu kl (m : Int) (Int.natCast_nonneg _) (by omega), hel]
  simp [sizeOf, typeInfo, hi, hzz.2.1, sliced, Result.andThen]

/-! ### bytes and strings -/
theorem str_of_nums (xs : List UInt8) : strOfNums (xs.map fun x => (x.toNat : Int)) = ⟨xs.toArray⟩ := by
  unfold strOfNums
  congr 2
  rw [List.map_map]
  conv => rhs; rw [← List.map_id xs]
  apply List.map_congr_left
  intro x _
  simp
/-- string(b): the equation that is laid ahead of the walk, at this world. -/
theorem conv_str {P : Program} {w : World} {c : Col} {A : Option Addr} {n cp : Nat} {xs : List UInt8} (src dst e : TypeId) (hs : P.underlying src = some (.slice e)) (he : P.underlying e = some (.int .u8)) (hd : P.underlying dst = some .string)
    (h : Rd kU8 w c A n cp xs) : (convert src dst (.slice A n cp)).run P w = .ok (.string ⟨xs.toArray⟩) w := by
  rcases Nat.eq_zero_or_pos n with h0 | h0
  · subst h0
    obtain rfl : xs = [] := List.eq_nil_of_length_eq_zero h.1
    rcases A with _ | ad
    · exact run_convert_bytes_nil w src e hs he 0 cp dst hd
    · have := run_convert_bytes_string w src dst e (some ad) 0 cp hs he hd
      rw [this]
      rfl
  · obtain ⟨b, off, rfl⟩ := h.addr h0
    have := run_convert_bytes_arg w src e hs he b off n cp (xs.map fun x => (x.toNat : Int)) (by rw [List.length_map, h.1]) (fun i hi => by
      have h1 := h.byte hi
      have hx : xs[i]? = some (xs[i]?.getD 0) := getD_at' xs 0 (by have := h.1; omega)
      rw [h1, List.getD_eq_getElem?_getD, List.getElem?_map, hx]
      rfl) dst hd
    rw [str_of_nums] at this
    exact this
theorem size_mk (xs : List UInt8) : (⟨xs.toArray⟩ : ByteArray).size = xs.length := rfl
/-- []byte(s): the world behind it, and what it reads. -/
theorem conv_bytes {P : Program} (src dst e : TypeId) {u : TypeDesc} (hs : P.underlying src = some u) (hu : u = .string) (hd : P.underlying dst = some (.slice e)) (he : P.underlying e = some (.int .u8)) (w : World) (xs : List UInt8) (hl : xs.length ≤ 9223372036854775807) :
    ∃ cp w', (convert src dst (.string ⟨xs.toArray⟩)).run P w = .ok (.slice (some ⟨w.heap.size, 0, none⟩) xs.length cp) w' ∧ Below w.heap.size w w' ∧ w.heap.size < w'.heap.size ∧
      ∀ c, Wf c w → Rd kU8 w' c (some ⟨w.heap.size, 0, none⟩) xs.length cp xs := by
  subst hu
  have hrun := Lib.run_convert_string_bytes (P := P) w src dst e ⟨xs.toArray⟩ hs hd he
  rw [size_mk] at hrun
  refine ⟨_, _, hrun, ⟨rfl, rfl, rfl, by rw [Lib.bytesWorld_size]; omega, fun i hi => Lib.bytesWorld_at_old w e _ i hi⟩, by rw [Lib.bytesWorld_size]; omega, fun c hc => ⟨rfl, grownCap_ge _ _ _ _, grownCap_le_maxLen _ _ _ _ (by simpa [maxLen] using hl), fun hp => ⟨_, 0, rfl, by rw [Lib.bytesWorld_size]; omega, hc.fresh (Nat.le_refl _), fun j x hj => ⟨_, rfl, fun i u hi => ?_⟩⟩⟩⟩
  have hi0 : i = 0 := by
    have := (List.getElem?_eq_some_iff.1 hi).1
    simp at this
    exact this
  subst hi0
  have hjl : j < xs.length := (List.getElem?_eq_some_iff.1 hj).1
  have hcell := Lib.bytesWorld_cell w e ⟨xs.toArray⟩ j hjl
  have : (0 + (j * kU8.sz + 0)) = j := by simp [kU8]
  rw [this, hcell]
  simp at hi
  subst hi
  simp [List.getD_eq_getElem?_getD, hj]
/-- A literal of bytes, just made (a conversion has put its mark on it, or not). -/
theorem Rd.lit (w : World) (c : Col) (hc : Wf c w) (e : TypeId) (xs : List UInt8) (fr : Nat × Nat) (hl : xs.length ≤ 9223372036854775807) : Rd kU8 (w.alloc (.cells (bcells xs).toArray e fr)) c (some ⟨w.heap.size, 0, none⟩) xs.length xs.length xs := by
  refine ⟨rfl, Nat.le_refl _, by simpa [maxLen] using hl, fun hp => ⟨_, 0, rfl, by simp, hc.fresh (Nat.le_refl _), fun j x hj => ⟨_, rfl, fun i u hi => ?_⟩⟩⟩
  have hi0 : i = 0 := by
    have := (List.getElem?_eq_some_iff.1 hi).1
    simp at this
    exact this
  subst hi0
  have h1 := bcells_at xs j x hj
  have h2 : (w.alloc (.cells (bcells xs).toArray e fr)).cell? ⟨w.heap.size, j, none⟩ = (bcells xs).toArray[j]? := cell_of_row _ _ _ _ _ fr (heap_alloc_new w _)
  have : (0 + (j * kU8.sz + 0)) = j := by simp [kU8]
  rw [this, h2]
  simp at hi
  subst hi
  simpa using h1
/-- A row that is owned lives on where nothing that was there has turned. -/
theorem own_below {w w1 : World} {b0 : Nat} {e : TypeId} {sz n : Nat} {v : Value} {xs : List Value} (h : w.ownsRow b0 e sz v n xs) (hb : Below w.heap.size w w1) : w1.ownsRow b0 e sz v n xs := by
  refine ⟨h.1, ?_⟩
  rcases h.2 with hn | ⟨g, cap, cur, rfl, h0, hh, r⟩
  · exact .inl hn
  · exact .inr ⟨g, cap, cur, rfl, h0, (hb.block g (Array.getElem?_eq_some_iff.1 hh).1).trans hh, r⟩
theorem own_len {w : World} {b0 : Nat} {e : TypeId} {n : Nat} {v : Value} {xs : List UInt8} (h : w.ownsRow b0 e 1 v n (bcells xs)) : xs.length = n := by
  have := h.1
  rw [bcells_length] at this
  omega
/-- One call behind another. -/
theorem below_then {w w1 w2 : World} (h : Below w.heap.size w w1) (k : Below w1.heap.size w1 w2) : Below w.heap.size w w2 := h.trans (k.mono h.size)
theorem below_then' {w w1 w2 : World} (h : Below w.heap.size w w1) (k : Below w1.heap.size w1 w2) : Below w.heap.size w w2 := below_then h k
theorem below_alloc (w : World) (o : Obj) : Below w.heap.size w (w.alloc o) := (Below.refl _ _).alloc (Nat.le_refl _) o

/-- 'int(uint(x) % m)', m small. -/
theorem small_mod (x m : Int) (h0 : 1 ≤ m) (hm : m ≤ 9223372036854775807) : 0 ≤ wrap64 ((IntKind.u64.wrap x).tmod m) ∧ wrap64 ((IntKind.u64.wrap x).tmod m) < m := by
  have h1 : IntKind.u64.wrap x = x % 18446744073709551616 := rfl
  have h2 : 0 ≤ IntKind.u64.wrap x := by rw [h1]; omega
  rw [Int.tmod_eq_emod_of_nonneg h2]
  have h3 := Int.emod_nonneg (IntKind.u64.wrap x) (show m ≠ 0 by omega)
  have h4 := Int.emod_lt_of_pos (IntKind.u64.wrap x) (show 0 < m by omega)
  have h5 : wrap64 (IntKind.u64.wrap x % m) = IntKind.u64.wrap x % m := by unfold wrap64; omega
  rw [h5]
  exact ⟨h3, h4⟩
end Go.Proofs.Ytalihocoekplgaa
