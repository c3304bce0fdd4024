/- client: the document's desk hears. -/
import Derived.Test.YtladpckbajnbeaaCliJ
set_option linter.unusedVariables false
set_option linter.unusedSimpArgs false
namespace Go.Proofs.Ytladpckbajnbeaa
open Go.RowKit

theorem own_blk {w : World} {b0 : Nat} {e : TypeId} {sz n cp b : Nat} {xs : List Value} (h : w.ownsRow b0 e sz (.slice (some ⟨b, 0, none⟩) n cp) n xs) : ∃ cur, w.heap[b]? = some (.cells cur e (0, 0)) := by
  rcases h.2 with ⟨he, _⟩ | ⟨g', cap, cur, he, _, hh, _⟩
  · cases he
  · cases he
    exact ⟨cur, hh⟩
theorem OwnB.far2 {w w' : World} {c c' : Col} {g : Nat} {e : TypeId} {sz n : Nat} {v : Value} {xs : List Value} (h : OwnB w c g e sz v n xs) (hs : ∀ k, v.ownBlock = some k → w'.heap[k]? = w.heap[k]?) (hc : ∀ k, v.ownBlock = some k → c' k = c k) : OwnB w' c' g e sz v n xs :=
  ⟨own_same h.1 hs, fun k hk => by rw [hc k hk]; exact h.2 k hk⟩
/-- A cell of the row of entries is written. -/
theorem Rst.poke {w : World} {c : Col} {g n cp n' cp' b N : Nat} {f : Int} {L' : List Ent} {T : List Rep} {A' : Option Addr} {cells cells' : List Value} (hg : c g = some g)
    (h1 : w.heap[g]? = some (.cells #[.int .i64 f, .slice (some ⟨b, 0, none⟩) n cp, .slice A' n' cp'] 63 (0, 0))) (h2 : OwnB w c g 102 13 (.slice (some ⟨b, 0, none⟩) n cp) n cells) (h5 : OwnB w c g 52 5 (.slice A' n' cp') n' cells') (h6 : Reps kRep w c T cells') (h7 : T.length = n') (h8 : n ≤ N) (h9 : n' ≤ N)
    (hw : Wf c w) (j : Nat) (v : Value) (hL : Reps kEnt w c L' (cells.set j v)) (hl : L'.length = n) :
    Tr (· = g) c c w (w.setCell ⟨b, j, none⟩ v) ∧ (w.setCell ⟨b, j, none⟩ v).heap[g]? = some (.cells #[.int .i64 f, .slice (some ⟨b, 0, none⟩) n cp, .slice A' n' cp'] 63 (0, 0)) ∧ OwnB (w.setCell ⟨b, j, none⟩ v) c g 102 13 (.slice (some ⟨b, 0, none⟩) n cp) n (cells.set j v) ∧
      Reps kEnt (w.setCell ⟨b, j, none⟩ v) c L' (cells.set j v) ∧ OwnB (w.setCell ⟨b, j, none⟩ v) c g 52 5 (.slice A' n' cp') n' cells' ∧ Reps kRep (w.setCell ⟨b, j, none⟩ v) c T cells' := by
  have hcb := h2.2 b rfl
  have t1 := (Tr.refl (· = g) hw).setCell (p := ⟨b, j, none⟩) hcb (.inl rfl) v
  obtain ⟨cur, hb⟩ := own_blk h2.1
  have hgb : g ≠ b := by
    intro e
    subst e
    rw [h1] at hb
    simp at hb
  have hst := h2.1.stored j v
  have ho : OwnB (w.setCell ⟨b, j, none⟩ v) c g 102 13 (.slice (some ⟨b, 0, none⟩) n cp) n (cells.set j v) := ⟨hst.1, h2.2⟩
  have hg1 : (w.setCell ⟨b, j, none⟩ v).heap[g]? = some (.cells #[.int .i64 f, .slice (some ⟨b, 0, none⟩) n cp, .slice A' n' cp'] 63 (0, 0)) := by rw [heap_of_setCell _ _ _ _ hgb]; exact h1
  exact ⟨t1, hg1, ho, hL.keep t1.kp, h5.far hb (by decide) j v, h6.keep t1.kp⟩
/-- The row of entries has grown. -/
theorem Rst.grewL {w w1 : World} {c c1 : Col} {g n cp cp1 n' cp' N : Nat} {f : Int} {L : List Ent} {T : List Rep} {A A1 A' : Option Addr} {cells cells' ys : List Value} {e : Ent} (hg : c g = some g)
    (h1 : w.heap[g]? = some (.cells #[.int .i64 f, .slice A n cp, .slice A' n' cp'] 63 (0, 0))) (h2 : OwnB w c g 102 13 (.slice A n cp) n cells) (h3 : Reps kEnt w c L cells) (h4 : L.length = n) (h5 : OwnB w c g 52 5 (.slice A' n' cp') n' cells') (h6 : Reps kRep w c T cells') (h7 : T.length = n') (h8 : n + 1 ≤ N) (h9 : n' ≤ N)
    (k1 : Tr (· = g) c c1 w w1) (k2 : OwnB w1 c1 g 102 13 (.slice A1 (n + 1) cp1) (n + 1) (cells ++ ys)) (k3 : ∀ j, j < w.heap.size → c1 j = c j) (k4 : ∀ j, j < w.heap.size → some j ≠ (Value.slice A n cp).ownBlock → w1.heap[j]? = w.heap[j]?) (hx : kEnt.rep w c e ys) :
    Tr (· = g) c c1 w (w1.setCell ⟨g, 1, none⟩ (.slice A1 (n + 1) cp1)) ∧ Rst (w1.setCell ⟨g, 1, none⟩ (.slice A1 (n + 1) cp1)) c1 g f (L ++ [e]) T N := by
  have hgl := blk_lt h1
  have hg1 : w1.heap[g]? = some (.cells #[.int .i64 f, .slice A n cp, .slice A' n' cp'] 63 (0, 0)) := by rw [k4 g hgl (own_block_ne h2.1 h1 (by decide))]; exact h1
  have hcg : c1 g = some g := by rw [k3 g hgl]; exact hg
  have t1 := k1.setCell (p := ⟨g, 1, none⟩) hcg (.inl rfl) (.slice A1 (n + 1) cp1)
  refine ⟨t1, hcg, A1, n + 1, cp1, cells ++ ys, A', n', cp', cells', blk_set hg1 1 _, k2.far hg1 (by decide) 1 _, (h3.keep t1.kp).append (Reps.one (kEnt.keep hx t1.kp)), by simp [h4], ?_, h6.keep t1.kp, h7, h8, h9⟩
  refine h5.far2 (fun k hk => ?_) (fun k hk => k3 k (h5.1.lt k hk).2)
  have hkg : k ≠ g := by
    intro e
    subst e
    exact own_block_ne h5.1 h1 (by decide) hk.symm
  have hkA : some k ≠ (Value.slice A n cp).ownBlock := by
    intro e
    rcases h5.1.2 with ⟨he, _⟩ | ⟨b', cap, cur, he, _, hh, _⟩
    · rw [he] at hk; cases hk
    · rw [he] at hk
      cases hk
      exact own_block_ne h2.1 hh (by decide) e
  rw [heap_of_setCell _ _ _ _ hkg, k4 k (h5.1.lt k hk).2 hkA]
/-- The row of taken replies has grown. -/
theorem Rst.grewT {w w1 : World} {c c1 : Col} {g n cp cp1 n' cp' N : Nat} {f : Int} {L : List Ent} {T : List Rep} {A A1 A' : Option Addr} {cells cells' ys : List Value} {x : Rep} (hg : c g = some g)
    (h1 : w.heap[g]? = some (.cells #[.int .i64 f, .slice A n cp, .slice A' n' cp'] 63 (0, 0))) (h2 : OwnB w c g 102 13 (.slice A n cp) n cells) (h3 : Reps kEnt w c L cells) (h4 : L.length = n) (h5 : OwnB w c g 52 5 (.slice A' n' cp') n' cells') (h6 : Reps kRep w c T cells') (h7 : T.length = n') (h8 : n ≤ N) (h9 : n' + 1 ≤ N)
    (k1 : Tr (· = g) c c1 w w1) (k2 : OwnB w1 c1 g 52 5 (.slice A1 (n' + 1) cp1) (n' + 1) (cells' ++ ys)) (k3 : ∀ j, j < w.heap.size → c1 j = c j) (k4 : ∀ j, j < w.heap.size → some j ≠ (Value.slice A' n' cp').ownBlock → w1.heap[j]? = w.heap[j]?) (hx : kRep.rep w c x ys) :
    Tr (· = g) c c1 w (w1.setCell ⟨g, 2, none⟩ (.slice A1 (n' + 1) cp1)) ∧ Rst (w1.setCell ⟨g, 2, none⟩ (.slice A1 (n' + 1) cp1)) c1 g f L (T ++ [x]) N := by
  have hgl := blk_lt h1
  have hg1 : w1.heap[g]? = some (.cells #[.int .i64 f, .slice A n cp, .slice A' n' cp'] 63 (0, 0)) := by rw [k4 g hgl (own_block_ne h5.1 h1 (by decide))]; exact h1
  have hcg : c1 g = some g := by rw [k3 g hgl]; exact hg
  have t1 := k1.setCell (p := ⟨g, 2, none⟩) hcg (.inl rfl) (.slice A1 (n' + 1) cp1)
  refine ⟨t1, hcg, A, n, cp, cells, A1, n' + 1, cp1, cells' ++ ys, blk_set hg1 2 _, ?_, h3.keep t1.kp, h4, k2.far hg1 (by decide) 2 _, (h6.keep t1.kp).append (Reps.one (kRep.keep hx t1.kp)), by simp [h7], h8, h9⟩
  refine h2.far2 (fun k hk => ?_) (fun k hk => k3 k (h2.1.lt k hk).2)
  have hkg : k ≠ g := by
    intro e
    subst e
    exact own_block_ne h2.1 h1 (by decide) hk.symm
  have hkA : some k ≠ (Value.slice A' n' cp').ownBlock := by
    intro e
    rcases h2.1.2 with ⟨he, _⟩ | ⟨b', cap, cur, he, _, hh, _⟩
    · rw [he] at hk; cases hk
    · rw [he] at hk
      cases hk
      exact own_block_ne h5.1 hh (by decide) e
  rw [heap_of_setCell _ _ _ _ hkg, k4 k (h2.1.lt k hk).2 hkA]
theorem Rst.taken {w : World} {c : Col} {g : Nat} {f : Int} {L : List Ent} {T : List Rep} {N : Nat} (h : Rst w c g f L T N) : T.length ≤ N := by
  obtain ⟨hg, A, n, cp, cells, A', n', cp', cells', h1, h2, h3, h4, h5, h6, h7, h8, h9⟩ := h
  omega
theorem Rst.fewer {w : World} {c : Col} {g : Nat} {f : Int} {L : List Ent} {T : List Rep} {N : Nat} (h : Rst w c g f L T N) : L.length ≤ N := by
  obtain ⟨hg, A, n, cp, cells, A', n', cp', cells', h1, h2, h3, h4, h5, h6, h7, h8, h9⟩ := h
  omega
theorem refOne_yes {f : Int} {i p nn : Nat} {q : RS2} {x : Rep} {L1 : List Ent} {e : Ent} {bs : List Bool} (hm : mayP x = true) (hp : place q.L x = p) (hw : withNew q.L x = L1) (he : L1[p]? = some e) (hb : e.by_.set i true = bs) (hc : bs.count true = nn)
    (h1 : f < (nn : Int)) (h2 : e.tk = false) : refOne f i q x = ⟨L1.set p ⟨e.r, bs, true⟩, q.T ++ [x], q.out ++ [x]⟩ := by
  unfold refOne
  simp only [hm, if_true, hw, hp, he, hb, hc]
  rw [if_pos ⟨h1, h2⟩]
theorem refOne_no {f : Int} {i p nn : Nat} {q : RS2} {x : Rep} {L1 : List Ent} {e : Ent} {bs : List Bool} (hm : mayP x = true) (hp : place q.L x = p) (hw : withNew q.L x = L1) (he : L1[p]? = some e) (hb : e.by_.set i true = bs) (hc : bs.count true = nn)
    (h : ¬ (f < (nn : Int) ∧ e.tk = false)) : refOne f i q x = ⟨L1.set p ⟨e.r, bs, e.tk⟩, q.T, q.out⟩ := by
  unfold refOne
  simp only [hm, if_true, hw, hp, he, hb, hc]
  rw [if_neg h]
end Go.Proofs.Ytladpckbajnbeaa
