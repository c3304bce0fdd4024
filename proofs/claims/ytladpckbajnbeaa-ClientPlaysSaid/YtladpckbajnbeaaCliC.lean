/- client: New, say. -/
import Derived.Test.YtladpckbajnbeaaCliB
set_option linter.unusedVariables false
set_option linter.unusedSimpArgs false
namespace Go.Proofs.Ytladpckbajnbeaa
open Go.RowKit

theorem i64_in (n : Int) (h : -9223372036854775808 ≤ n ∧ n ≤ 9223372036854775807) : IntKind.i64.wrap n = n := (IntWalk.i64_left n).trans (IntWalk.wrap64_in n h)
theorem own_none5 (W : World) (e : TypeId) (sz : Nat) : W.ownsRow 0 e sz (.slice none 0 0) 0 [] := World.ownsRow_nil _ _ _ _
theorem CNew_bad (w : World) (f : Int) (h : f < 0 ∨ 2 < f) : Calls Try.prog 28 #[.int .i64 f] w fun e w' => e = .returned (.tuple #[.pointer none, .int .i64 1]) ∧ w = w' := by
  have HB := Lib.hid h
  clear h
  go_enter Try.func28, Try.ntmps28
  go_wp2_with fail
  all_goals
    first
      | (exfalso; have := HB.out; omega)
      | (refine bodyPost_ret (results_tmp2 rfl _ _ _) rfl ?_; exact ⟨rfl, rfl⟩)
theorem CNew_ok (w : World) (c : Col) (f : Int) (hf0 : 0 ≤ f) (hf2 : f ≤ 2) (hw : Wf c w) : Calls Try.prog 28 #[.int .i64 f] w fun e w' =>
    ∃ g c', e = .returned (.tuple #[.pointer (some ⟨g, 0, none⟩), .int .i64 0]) ∧ Tr (fun _ => False) c c' w w' ∧ w.heap.size ≤ g ∧ Dsk w' c' g f (fun _ => allF) [] 0 := by
  have HW := Lib.hid hw
  clear hw
  have hmm := @run_makeMap Try.prog
  go_enter Try.func28, Try.ntmps28
  go_wp2_with fail
  refine bodyPost_ret (results_tmp2 rfl _ _ _) rfl ?_
  have t0 := ((Tr.refl (fun _ => False) HW.out).alloc (.map #[] 0)).alloc (.cells #[.int .i64 f, .map (some w.heap.size), .slice none 0 0] 94)
  have t1 := t0.hot (k := w.heap.size) (g := w.heap.size + 1) (by simp) (by simp; try omega) (by simp; try omega) (.inr (by simp))
  have t2 := t1.hot (k := w.heap.size + 1) (g := w.heap.size + 1) (by simp) (by simp; try omega) (by simp; try omega) (.inr (by simp))
  refine ⟨w.heap.size + 1, _, by simp, t2, by omega, Col.set_same _ _ _, w.heap.size, none, 0, 0, fun _ => none, [], ?_, ?_, ?_, ?_, ?_, ?_, rfl, Nat.le_refl _⟩
  · have := heap_alloc_new (w.alloc (.map #[] 0)) (.cells #[.int .i64 f, .map (some w.heap.size), .slice none 0 0] 94)
    simpa using this
  · rw [Col.set_ne _ (by omega)]; exact Col.set_same _ _ _
  · exact (MapP.made w).kept (World.grownBy_alloc _ _ none) (by simp)
  · exact fun k => ⟨rfl, .inl ⟨rfl, rfl⟩⟩
  · exact ⟨own_none5 _ _ _, fun k hk => by cases hk⟩
  · exact Reps.nil _ _ _

def sayR (f : Int) (l : List Bool) (i : Nat) : Bool := !(l[i]?.getD false) && decide ((((l.set i true).count true : Nat) : Int) = f + 1)
def Sd.put (S : Sd) (k : List UInt8) (i : Nat) : Sd := fun k' => if k' = k then (S k).set i true else S k'
theorem say_keep {w w' : World} {g b : Nat} {u v0 v1 v2 v3 v4 : Value} (hb : Below w.heap.size w w')
    (h : w.cell? ⟨g, 1, none⟩ = some u ∧ w.cell? ⟨b, 0, none⟩ = some v0 ∧ w.cell? ⟨b, 1, none⟩ = some v1 ∧ w.cell? ⟨b, 2, none⟩ = some v2 ∧ w.cell? ⟨b, 3, none⟩ = some v3 ∧ w.cell? ⟨b, 4, none⟩ = some v4) :
    w'.cell? ⟨g, 1, none⟩ = some u ∧ w'.cell? ⟨b, 0, none⟩ = some v0 ∧ w'.cell? ⟨b, 1, none⟩ = some v1 ∧ w'.cell? ⟨b, 2, none⟩ = some v2 ∧ w'.cell? ⟨b, 3, none⟩ = some v3 ∧ w'.cell? ⟨b, 4, none⟩ = some v4 := by
  obtain ⟨a, a0, a1, a2, a3, a4⟩ := h
  exact ⟨by rw [hb.cell (block_lt_of_cell a)]; exact a, by rw [hb.cell (block_lt_of_cell a0)]; exact a0, by rw [hb.cell (block_lt_of_cell a1)]; exact a1, by rw [hb.cell (block_lt_of_cell a2)]; exact a2, by rw [hb.cell (block_lt_of_cell a3)]; exact a3, by rw [hb.cell (block_lt_of_cell a4)]; exact a4⟩
theorem say_keepg {w w' : World} {g b m : Nat} {u v0 v1 v2 v3 v4 : Value} (hb : w.grownBy w' (some m)) (hg : g ≠ m) (hbm : b ≠ m)
    (h : w.cell? ⟨g, 1, none⟩ = some u ∧ w.cell? ⟨b, 0, none⟩ = some v0 ∧ w.cell? ⟨b, 1, none⟩ = some v1 ∧ w.cell? ⟨b, 2, none⟩ = some v2 ∧ w.cell? ⟨b, 3, none⟩ = some v3 ∧ w.cell? ⟨b, 4, none⟩ = some v4) :
    w'.cell? ⟨g, 1, none⟩ = some u ∧ w'.cell? ⟨b, 0, none⟩ = some v0 ∧ w'.cell? ⟨b, 1, none⟩ = some v1 ∧ w'.cell? ⟨b, 2, none⟩ = some v2 ∧ w'.cell? ⟨b, 3, none⟩ = some v3 ∧ w'.cell? ⟨b, 4, none⟩ = some v4 := by
  obtain ⟨a, a0, a1, a2, a3, a4⟩ := h
  have e1 := hb.block g (block_lt_of_cell a) (by simpa using hg)
  have e2 := hb.block b (block_lt_of_cell a0) (by simpa using hbm)
  simp only [World.cell?] at *
  rw [e1, e2]
  exact ⟨a, a0, a1, a2, a3, a4⟩
/-- A seat of the table is taken: what is left of it. -/
theorem Boxes.hit {w w' : World} {c c' : Col} {g : Nat} {φ : List UInt8 → Option Addr} {S : Sd} (h : Boxes w c g φ S) {k : List UInt8} {b i : Nat} (hk : φ k = some ⟨b, 0, none⟩)
    (hb : w'.heap[b]? = some (.cells (sCells ((S k).set i true)).toArray 114 (0, 0))) (hc : ∀ j, j < w.heap.size → c' j = c j) (ho : ∀ j, j ≠ b → w'.heap[j]? = w.heap[j]?) (hwf : Wf c w) : Boxes w' c' g φ (S.put k i) := by
  intro x
  obtain ⟨hl, hx⟩ := h x
  by_cases he : x = k
  · subst he
    refine ⟨by simp [Sd.put, hl], .inr ?_⟩
    rcases hx with ⟨h1, h2⟩ | ⟨b', h1, h2, h3, h4⟩
    · rw [h1] at hk; cases hk
    · rw [h1] at hk
      cases hk
      exact ⟨b, h1, by rw [hc b (blk_lt h3)]; exact h2, by simpa [Sd.put] using hb, h4⟩
  · have e1 : S.put k i x = S x := by simp [Sd.put, he]
    rw [e1]
    refine ⟨hl, ?_⟩
    rcases hx with hx | ⟨b', h1, h2, h3, h4⟩
    · exact .inl hx
    · have hne : b' ≠ b := by
        intro e
        subst e
        exact he (h4 k hk).symm
      exact .inr ⟨b', h1, by rw [hc b' (blk_lt h3)]; exact h2, by rw [ho b' hne]; exact h3, h4⟩
theorem sCells_at {l : List Bool} (hl : l.length = 7) {i : Nat} {v : Bool} (h : l[i]? = some v) : (sCells l)[i]? = some (.bool v) := by
  have := (List.getElem?_eq_some_iff.1 h).1
  rw [sCells, List.getElem?_append_left (by simpa using this), List.getElem?_map, h]
  rfl
theorem sCells_n {l : List Bool} (hl : l.length = 7) : (sCells l)[7]? = some (.int .i64 ((l.count true : Nat) : Int)) := by
  rw [sCells, List.getElem?_append_right (by simp [hl])]
  simp [hl]
theorem sCells_set {l : List Bool} (hl : l.length = 7) {i : Nat} (h : l[i]? = some false) :
    ((sCells l).toArray.setIfInBounds i (.bool true)).setIfInBounds 7 (.int .i64 (((l.count true : Nat) : Int) + 1)) = (sCells (l.set i true)).toArray := by
  have hi := (List.getElem?_eq_some_iff.1 h).1
  simp only [sCells, count_set h, List.setIfInBounds_toArray]
  rw [List.set_append_left _ _ (by simpa using hi), List.set_append_right _ _ (by simp [hl])]
  simp [hl, List.map_set]
theorem sCells_all : sCells allF = [.bool false, .bool false, .bool false, .bool false, .bool false, .bool false, .bool false, .int .i64 0] := rfl
theorem Sd.put_same {S : Sd} {k : List UInt8} {i : Nat} (h : (S k)[i]? = some true) : S.put k i = S := by
  funext k'
  unfold Sd.put
  split
  · rename_i e
    rw [e, set_same h]
  · rfl
theorem MapP.mono {w : World} {m N N' : Nat} {φ : List UInt8 → Option Addr} (h : MapP w m N φ) (hN : N ≤ N') : MapP w m N' φ := by
  obtain ⟨D, h3, h3'⟩ := h
  exact ⟨D, h3.mono hN, h3'⟩
theorem Dsk.mono {w : World} {c : Col} {g : Nat} {f : Int} {S : Sd} {T : List Rep} {N N' : Nat} (h : Dsk w c g f S T N) (hN : N ≤ N') : Dsk w c g f S T N' := by
  obtain ⟨hg, m, A, n, cp, φ, cells, h1, h2, ⟨D, h3, h3'⟩, h4, h5, h6, h7, h8⟩ := h
  exact ⟨hg, m, A, n, cp, φ, cells, h1, h2, ⟨D, h3.mono hN, h3'⟩, h4, h5, h6, h7, by omega⟩
theorem own_same {w w' : World} {b0 : Nat} {e : TypeId} {sz n : Nat} {v : Value} {xs : List Value} (h : w.ownsRow b0 e sz v n xs) (hs : ∀ k, v.ownBlock = some k → w'.heap[k]? = w.heap[k]?) : w'.ownsRow b0 e sz v n xs := by
  refine ⟨h.1, ?_⟩
  rcases h.2 with h | ⟨g, cap, cur, rfl, h1, h2, h3⟩
  · exact .inl h
  · exact .inr ⟨g, cap, cur, rfl, h1, by rw [hs g rfl]; exact h2, h3⟩
theorem Boxes.new {w w' : World} {c c' : Col} {g : Nat} {φ : List UInt8 → Option Addr} {S : Sd} (h : Boxes w c g φ S) {k : List UInt8} {b i m : Nat} (hb : w.heap.size ≤ b) (hcb : c' b = some g)
    (hbb : w'.heap[b]? = some (.cells (sCells ((S k).set i true)).toArray 114 (0, 0))) (hm : ∃ es cl, w.heap[m]? = some (.map es cl)) (hc : ∀ j, j < w.heap.size → c' j = c j) (ho : ∀ j, j < w.heap.size → j ≠ m → w'.heap[j]? = w.heap[j]?) :
    Boxes w' c' g (fun k' => if k' = k then some ⟨b, 0, none⟩ else φ k') (S.put k i) := by
  intro x
  obtain ⟨hl, hx⟩ := h x
  by_cases he : x = k
  · subst he
    refine ⟨by simp [Sd.put, hl], .inr ⟨b, by simp, hcb, by simpa [Sd.put] using hbb, fun k' hk' => ?_⟩⟩
    by_cases hk : k' = x
    · exact hk
    · exfalso
      dsimp only at hk'
      rw [if_neg hk] at hk'
      rcases (h k').2 with ⟨h1, _⟩ | ⟨b', h1, h2, h3, h4⟩
      · rw [h1] at hk'; cases hk'
      · rw [h1] at hk'
        cases hk'
        have := blk_lt h3
        omega
  · have e1 : S.put k i x = S x := by simp [Sd.put, he]
    rw [e1]
    refine ⟨hl, ?_⟩
    rcases hx with ⟨h1, h2⟩ | ⟨b', h1, h2, h3, h4⟩
    · exact .inl ⟨by dsimp only; rw [if_neg he]; exact h1, h2⟩
    · have hlt := blk_lt h3
      have hne : b' ≠ m := by
        intro e
        subst e
        obtain ⟨es, cl, hh⟩ := hm
        rw [h3] at hh
        cases hh
      refine .inr ⟨b', by dsimp only; rw [if_neg he]; exact h1, by rw [hc b' hlt]; exact h2, by rw [ho b' hlt hne]; exact h3, fun k' hk' => ?_⟩
      dsimp only at hk'
      split at hk'
      · cases hk'; omega
      · exact h4 k' hk'
set_option maxRecDepth 100000 in
set_option maxHeartbeats 4000000 in
theorem CSay_any (w : World) (c : Col) (g : Nat) (f : Int) (S : Sd) (T : List Rep) (N : Nat) (x : Rep) (A : Option Addr) (n cp i : Nat) (hi : i < 7) (hf0 : 0 ≤ f) (hf2 : f ≤ 2) (hN : N < 1000000) (hm : mayP x = true) (hw : Wf c w)
    (hD : Dsk w c g f S T N) (hx : Rd kFld w c A n cp x.t) :
    Calls Try.prog 55 #[.pointer (some ⟨g, 0, none⟩), .int .i64 (i : Int), pV x A n cp] w fun e w' => e = .returned (.bool (sayR f (S (wordB x)) i)) ∧ ∃ c', Tr (· = g) c c' w w' ∧ Dsk w' c' g f (S.put (wordB x) i) T (N + 1) := by
  have HCW := Lib.hid (fun W h1 h2 => CWord_any W c x A n cp hm h1 h2)
  have HKL := Lib.hid (wordB_len x)
  have HD := Lib.hid hD
  obtain ⟨hg, m, A1, n1, cp1, φ, cells, h1, h2, h3, h4, h5, h6, h7, h8⟩ := hD
  obtain ⟨hl7, hS⟩ := h4 (wordB x)
  generalize wordB x = k at *
  obtain ⟨cl, sq, kd, t, lt⟩ := x
  dsimp only [pV] at *
  clear hm
  have hgl := blk_lt h1
  have d0 := blk_cell0 h1
  have d1 := blk_cell1 h1
  have hi0 : (0 : Int) ≤ (i : Int) := by omega
  have hi7 : (i : Int) < 7 := by omega
  have HW := Lib.hid hw
  have H1 := Lib.hid h1
  have H3 := Lib.hid h3
  have H4 := Lib.hid h4
  have H5 := Lib.hid h5
  have H6 := Lib.hid h6
  have HX := Lib.hid hx
  have H7 := Lib.hid h7
  have HL7 := Lib.hid hl7
  clear hw h1 h3 h4 h5 h6 hx h7 hl7
  rcases hS with ⟨hk, hS⟩ | ⟨b, hk, hcb, hbb, hun⟩
  · go_enter Try.func55, Try.ntmps55
    go_wp2_with fail
    have dg : ((w.alloc (.cells #[.int .i64 cl, .int .i64 sq, .int .i64 kd, .slice A n cp, .bool lt] 52)).drew).cell? ⟨g, 1, none⟩ = some (.map (some m)) := by
      rw [(below_alloc_drew w _).cell hgl]
      exact d1
    go_region_held3 (fun w' => w'.cell? ⟨g, 1, none⟩ = some (.map (some m)) ∧ w'.cell? ⟨w.heap.size, 0, none⟩ = some (.int .i64 cl) ∧ w'.cell? ⟨w.heap.size, 1, none⟩ = some (.int .i64 sq) ∧ w'.cell? ⟨w.heap.size, 2, none⟩ = some (.int .i64 kd) ∧ w'.cell? ⟨w.heap.size, 3, none⟩ = some (.slice A n cp) ∧ w'.cell? ⟨w.heap.size, 4, none⟩ = some (.bool lt)) (first | assumption | exact say_keep hb1 (by assumption) | exact ⟨dg, by simp, by simp, by simp, by simp, by simp⟩ | (simp; done))
      (first
      | (go_at_call 69; refine (HCW.out _ (HW.out.below (below_alloc_drew w _)) (HX.out.below (below_alloc_drew w _))).mono ?_; rintro e w1 ⟨rfl, hb1⟩; have HB1 := Lib.hid (below_then (below_alloc_drew w _) hb1); have hlk := (H3.out.same (HB1.out.block _ H3.out.lt)).look k (by have := HKL.out; omega); rw [hk] at hlk))
    have hlt1 := HB1.out.size
    have hS1 : w1.cell? ⟨g, 1, none⟩ = some (.map (some m)) ∧ w1.cell? ⟨w.heap.size, 0, none⟩ = some (.int .i64 cl) ∧ w1.cell? ⟨w.heap.size, 1, none⟩ = some (.int .i64 sq) ∧ w1.cell? ⟨w.heap.size, 2, none⟩ = some (.int .i64 kd) ∧ w1.cell? ⟨w.heap.size, 3, none⟩ = some (.slice A n cp) ∧ w1.cell? ⟨w.heap.size, 4, none⟩ = some (.bool lt) := by assumption
    have HT1 := Lib.hid (Tr.of_below (M := (· = g)) HW.out HB1.out)
    have HT2 := Lib.hid ((HT1.out.alloc (.cells #[.bool false, .bool false, .bool false, .bool false, .bool false, .bool false, .bool false, .int .i64 0] 114)).hot (k := w1.heap.size) (g := g) hlt1 (by simp) (by simp; omega) (.inl rfl))
    have hml := H3.out.lt
    have hgm : g ≠ m := by
      intro e
      subst e
      obtain ⟨es, cl', hh⟩ := H3.out.isMap
      rw [H1.out] at hh
      cases hh
    have hwm : w.heap.size ≠ m := by omega
    have hS2 := say_keep (below_alloc_drew w1 (.cells #[.bool false, .bool false, .bool false, .bool false, .bool false, .bool false, .bool false, .int .i64 0] 114)) hS1
    go_wp2_with fail
    go_region_held3 (fun w' => w'.cell? ⟨g, 1, none⟩ = some (.map (some m)) ∧ w'.cell? ⟨w.heap.size, 0, none⟩ = some (.int .i64 cl) ∧ w'.cell? ⟨w.heap.size, 1, none⟩ = some (.int .i64 sq) ∧ w'.cell? ⟨w.heap.size, 2, none⟩ = some (.int .i64 kd) ∧ w'.cell? ⟨w.heap.size, 3, none⟩ = some (.slice A n cp) ∧ w'.cell? ⟨w.heap.size, 4, none⟩ = some (.bool lt)) (first | assumption | exact say_keep hb2 (by assumption) | exact say_keepg hgr hgm hwm (by assumption) | (simp; done))
      (first
      | (go_at_call 69; refine (HCW.out _ ((HW.out.below HB1.out).below (below_alloc_drew w1 _)) ((HX.out.below HB1.out).below (below_alloc_drew w1 _))).mono ?_; rintro e w2 ⟨rfl, hb2⟩; have HB2 := Lib.hid (below_then (below_alloc_drew w1 _) hb2); obtain ⟨w5, hup, hmp, hgr⟩ := (((H3.out.same (HB1.out.block _ H3.out.lt)).same (HB2.out.block _ (Nat.lt_of_lt_of_le hml hlt1)))).put (by omega) k (by have := HKL.out; omega) (some ⟨w1.heap.size, 0, none⟩); have HMP := Lib.hid hmp; have HGR := Lib.hid hgr; clear hmp))
    have hbm : w1.heap.size ≠ m := by omega
    have HB2' := Lib.hid hb2
    clear hb2
    have hbb2 : w2.heap[w1.heap.size]? = some (.cells #[.bool false, .bool false, .bool false, .bool false, .bool false, .bool false, .bool false, .int .i64 0] 114 (0, 0)) := by
      rw [HB2'.out.block w1.heap.size (by simp)]
      exact heap_alloc_new _ _
    have hlt2 : w1.heap.size < w2.heap.size := blk_lt hbb2
    have hbb5 := HGR.out.block w1.heap.size hlt2 (by simpa using hbm)
    rw [hbb2] at hbb5
    have hA1 : ∀ j, j < w.heap.size → j ≠ m → w5.heap[j]? = w.heap[j]? := by
      intro j hj hjm
      have hj1 := Nat.lt_of_lt_of_le hj hlt1
      rw [HGR.out.block j (Nat.lt_trans hj1 hlt2) (by simpa using hjm), HB2.out.block j hj1, HB1.out.block j hj]
    have hg5 := hA1 g hgl hgm
    rw [H1.out] at hg5
    have HT3 := Lib.hid (HT2.out.drew.then (Tr.of_below HT2.out.drew.wf HB2'.out))
    have hcm : Col.set c w1.heap.size g m = some g := by rw [Col.set_ne _ (by omega)]; exact h2
    have HT5 := Lib.hid (HT3.out.grown HGR.out (fun k hk => by cases hk; exact ⟨g, hcm, .inl rfl⟩))
    generalize hbn : w1.heap.size = b at *
    have b0 : w5.cell? ⟨b, i, none⟩ = some (.bool false) := by
      rw [blk_cell hbb5]
      have := sCells_at (l := allF) rfl (i := i) (v := false) (by
        have : i = 0 ∨ i = 1 ∨ i = 2 ∨ i = 3 ∨ i = 4 ∨ i = 5 ∨ i = 6 := by omega
        rcases this with rfl | rfl | rfl | rfl | rfl | rfl | rfl <;> rfl)
      simpa [sCells_all] using this
    have b7 : w5.cell? ⟨b, 7, none⟩ = some (.int .i64 0) := by rw [blk_cell hbb5]; rfl
    have bf := blk_free hbb5 i
    have bf7 := blk_free hbb5 7
    have HBB5 := Lib.hid hbb5
    have HA1 := Lib.hid hA1
    have HG5 := Lib.hid hg5
    clear hbb5 hA1 hg5
    go_wp2_with fail
    have hl7' : allF.length = 7 := rfl
    have hv0 : allF[i]? = some false := by
      have : i = 0 ∨ i = 1 ∨ i = 2 ∨ i = 3 ∨ i = 4 ∨ i = 5 ∨ i = 6 := by omega
      rcases this with rfl | rfl | rfl | rfl | rfl | rfl | rfl <;> rfl
    have f0 := blk_set (blk_set HBB5.out i (.bool true)) 7 (.int .i64 1)
    have HF0 : Hid (((w5.setCell ⟨b, i, none⟩ (.bool true)).setCell ⟨b, 7, none⟩ (.int .i64 1)).heap[b]? = some (.cells (sCells ((S k).set i true)).toArray 114 (0, 0))) := by
      show _ = _
      rw [f0, hS, ← sCells_set hl7' hv0]
      rfl
    have HO0 : Hid (∀ j, j ≠ b → ((w5.setCell ⟨b, i, none⟩ (.bool true)).setCell ⟨b, 7, none⟩ (.int .i64 1)).heap[j]? = w5.heap[j]?) := by
      intro j hj
      rw [heap_of_setCell _ _ _ _ hj, heap_of_setCell _ _ _ _ hj]
    have hcb : (Col.set c b g) b = some g := Col.set_same _ _ _
    have HTS := Lib.hid ((HT5.out.setCell (p := ⟨b, i, none⟩) hcb (.inl rfl) (.bool true)).setCell (p := ⟨b, 7, none⟩) hcb (.inl rfl) (.int .i64 1))
    clear f0
    generalize hW2 : (w5.setCell ⟨b, i, none⟩ (.bool true)).setCell ⟨b, 7, none⟩ (.int .i64 1) = W2 at *
    have hgb : g ≠ b := by omega
    have q7 := cell_regrown (w := W2) (a := ⟨b, 7, none⟩) (v := .int .i64 (((((S k).set i true).count true) : Nat) : Int)) (by rw [blk_cell HF0.out]; simpa using sCells_n (by rw [List.length_set]; exact HL7.out))
    have q0 := cell_regrown (w := W2) (a := ⟨g, 0, none⟩) (v := .int .i64 f) (by rw [World.cell?]; simp only [HO0.out g hgb, HG5.out]; rfl)
    clear hW2
    refine wp_region_quiet_below (by kernel_rfl) (by kernel_rfl) ?_
    repeat ((with_reducible refine wpQuiet_step (fun K hK => ?_)); go_simp; first | (with_reducible refine hK _ ?_; clear hK K) | (rw [if_neg (by decide)]; with_reducible refine hK _ ?_; clear hK K))
    with_reducible refine wpQuiet_nil ?_
    intro _ hw'
    obtain ⟨⟨dq, osq⟩, hw''⟩ := hw'
    subst hw''
    go_wp2_with fail
    refine bodyPost_ret (results_tmp rfl _ _ _) rfl ?_
    have hwr : IntKind.i64.wrap (f + 1) = f + 1 := i64_in _ (by omega)
    have hbr := below_regrown W2 dq osq
    refine ⟨ret_bool ?_, _, HTS.out.then (Tr.of_below HTS.out.wf hbr), ?_⟩
    · unfold sayR
      rw [hS, hv0, hwr]
      simp
      rfl
    · refine Dsk.tr (w := W2) (c := Col.set c b g) ?_ (Tr.of_below (M := fun _ => False) HTS.out.wf hbr) (fun h => h)
      have hA2 : ∀ j, j < w.heap.size → j ≠ m → W2.heap[j]? = w.heap[j]? := by
        intro j hj hjm
        rw [HO0.out j (by omega)]
        exact HA1.out j hj hjm
      have hcc : ∀ j, j < w.heap.size → Col.set c b g j = c j := fun j hj => Col.set_ne _ (by omega)
      have hrow : ∀ k, (Value.slice A1 n1 cp1).ownBlock = some k → k < w.heap.size ∧ k ≠ m := by
        intro k hk
        refine ⟨(H5.out.1.lt k hk).2, ?_⟩
        intro e
        subst e
        rcases H5.out.1.2 with ⟨he, _⟩ | ⟨g', cap, cur, he, _, hh, _⟩
        · rw [he] at hk; cases hk
        · rw [he] at hk
          cases hk
          obtain ⟨es, cl', hh'⟩ := H3.out.isMap
          rw [hh] at hh'
          cases hh'
      refine ⟨by rw [hcc g hgl]; exact hg, m, A1, n1, cp1, _, cells, by rw [HO0.out g hgb]; exact HG5.out, hcm, HMP.out.same (HO0.out m (fun e => hbm e.symm)), ?_, ⟨own_same H5.out.1 (fun k hk => hA2 k (hrow k hk).1 (hrow k hk).2), fun k hk => by rw [hcc k (hrow k hk).1]; exact H5.out.2 k hk⟩, H6.out.keep HTS.out.kp, H7.out, by omega⟩
      exact H4.out.new (by omega) hcb HF0.out H3.out.isMap hcc hA2
  · have HBB := Lib.hid hbb
    have HUN := Lib.hid hun
    clear hbb hun
    go_enter Try.func55, Try.ntmps55
    go_wp2_with fail
    have dg : ((w.alloc (.cells #[.int .i64 cl, .int .i64 sq, .int .i64 kd, .slice A n cp, .bool lt] 52)).drew).cell? ⟨g, 1, none⟩ = some (.map (some m)) := by
      rw [(below_alloc_drew w _).cell hgl]
      exact d1
    go_region_held3 (fun w' => w'.cell? ⟨g, 1, none⟩ = some (.map (some m)) ∧ w'.cell? ⟨w.heap.size, 0, none⟩ = some (.int .i64 cl) ∧ w'.cell? ⟨w.heap.size, 1, none⟩ = some (.int .i64 sq) ∧ w'.cell? ⟨w.heap.size, 2, none⟩ = some (.int .i64 kd) ∧ w'.cell? ⟨w.heap.size, 3, none⟩ = some (.slice A n cp) ∧ w'.cell? ⟨w.heap.size, 4, none⟩ = some (.bool lt)) (first | assumption | exact say_keep hb1 (by assumption) | exact ⟨dg, by simp, by simp, by simp, by simp, by simp⟩ | (simp; done))
      (first
      | (go_at_call 69; refine (HCW.out _ (HW.out.below (below_alloc_drew w _)) (HX.out.below (below_alloc_drew w _))).mono ?_; rintro e w1 ⟨rfl, hb1⟩; have HB1 := Lib.hid (below_then (below_alloc_drew w _) hb1); have hlk := (H3.out.same (HB1.out.block _ H3.out.lt)).look k (by have := HKL.out; omega)))
    have hwb := HB1.out.block b (blk_lt HBB.out)
    rw [HBB.out] at hwb
    have hwg := HB1.out.block g (blk_lt H1.out)
    rw [H1.out] at hwg
    obtain ⟨v, hv⟩ : ∃ v, (S k)[i]? = some v := ⟨_, List.getElem?_eq_getElem (by rw [HL7.out]; exact hi)⟩
    have b0 : w1.cell? ⟨b, i, none⟩ = some (.bool v) := by rw [blk_cell hwb]; simpa using sCells_at HL7.out hv
    have b7 : w1.cell? ⟨b, 7, none⟩ = some (.int .i64 (((S k).count true : Nat) : Int)) := by rw [blk_cell hwb]; simpa using sCells_n HL7.out
    have bf := blk_free hwb i
    have bf7 := blk_free hwb 7
    have gd0 := blk_cell0 hwg
    have HWB := Lib.hid hwb
    have HWG := Lib.hid hwg
    have HV := Lib.hid hv
    clear hwb hwg hv
    have hcn := count_le7 HL7.out
    generalize hcnt : (S k).count true = cn at hcn b7
    have HCN := Lib.hid hcnt
    clear hcnt
    have HT1 := Lib.hid (Tr.of_below (M := (· = g)) HW.out HB1.out)
    cases v with
    | true =>
      go_wp2_with fail
      refine bodyPost_ret (results_tmp rfl _ _ _) rfl ?_
      refine ⟨ret_bool ?_, c, HT1.out, ?_⟩
      · unfold sayR
        rw [HV.out]
        rfl
      · rw [Sd.put_same HV.out]
        exact (HD.out.tr (Tr.of_below (M := fun _ => False) HW.out HB1.out) (fun h => h)).mono (by omega)
    | false =>
      go_wp2_with fail
      have f0 := blk_set (blk_set HWB.out i (.bool true)) 7 (.int .i64 ((cn : Int) + 1))
      have hbg : g ≠ b := by
        intro e
        subst e
        have := H1.out
        rw [HBB.out] at this
        simp at this
      have HF0 : Hid (((w1.setCell ⟨b, i, none⟩ (.bool true)).setCell ⟨b, 7, none⟩ (.int .i64 ((cn : Int) + 1))).heap[b]? = some (.cells (sCells ((S k).set i true)).toArray 114 (0, 0))) := by
        show _ = _
        rw [f0, ← HCN.out, sCells_set HL7.out HV.out]
      have HO0 : Hid (∀ j, j ≠ b → ((w1.setCell ⟨b, i, none⟩ (.bool true)).setCell ⟨b, 7, none⟩ (.int .i64 ((cn : Int) + 1))).heap[j]? = w1.heap[j]?) := by
        intro j hj
        rw [heap_of_setCell _ _ _ _ hj, heap_of_setCell _ _ _ _ hj]
      have hb1' : c b = some g := hcb
      have HTS := Lib.hid ((HT1.out.setCell (p := ⟨b, i, none⟩) hb1' (.inl rfl) (.bool true)).setCell (p := ⟨b, 7, none⟩) hb1' (.inl rfl) (.int .i64 ((cn : Int) + 1)))
      have h5w := (H5.out.tr (Tr.of_below (M := fun _ => False) HW.out HB1.out) (fun h => h)).far HWB.out (by decide) i (.bool true)
      have HO5 := Lib.hid (h5w.far (blk_set HWB.out i (.bool true)) (by decide) 7 (.int .i64 ((cn : Int) + 1)))
      clear f0 h5w
      generalize hW2 : (w1.setCell ⟨b, i, none⟩ (.bool true)).setCell ⟨b, 7, none⟩ (.int .i64 ((cn : Int) + 1)) = W2 at *
      have q7 := cell_regrown (w := W2) (a := ⟨b, 7, none⟩) (v := .int .i64 (((((S k).set i true).count true) : Nat) : Int)) (by rw [blk_cell HF0.out]; simpa using sCells_n (by rw [List.length_set]; exact HL7.out))
      have q0 := cell_regrown (w := W2) (a := ⟨g, 0, none⟩) (v := .int .i64 f) (by rw [World.cell?]; simp only [HO0.out g hbg, HWG.out]; rfl)
      clear hW2
      refine wp_region_quiet_below (by kernel_rfl) (by kernel_rfl) ?_
      repeat ((with_reducible refine wpQuiet_step (fun K hK => ?_)); go_simp; first | (with_reducible refine hK _ ?_; clear hK K) | (rw [if_neg (by decide)]; with_reducible refine hK _ ?_; clear hK K))
      with_reducible refine wpQuiet_nil ?_
      intro _ hw'
      obtain ⟨⟨dq, osq⟩, hw''⟩ := hw'
      subst hw''
      go_wp2_with fail
      refine bodyPost_ret (results_tmp rfl _ _ _) rfl ?_
      have hwr : IntKind.i64.wrap (f + 1) = f + 1 := i64_in _ (by omega)
      have hbr := below_regrown W2 dq osq
      refine ⟨ret_bool ?_, c, HTS.out.then (Tr.of_below HTS.out.wf hbr), ?_⟩
      · unfold sayR
        rw [HV.out, hwr]
        simp
        rfl
      · refine Dsk.tr (w := W2) (c := c) ?_ (Tr.of_below (M := fun _ => False) HTS.out.wf hbr) (fun h => h)
        have hmb : m ≠ b := by
          intro e
          subst e
          obtain ⟨es, cl', hh⟩ := H3.out.isMap
          rw [HBB.out] at hh
          cases hh
        have hml := H3.out.lt
        refine ⟨hg, m, A1, n1, cp1, φ, cells, by rw [HO0.out g hbg]; exact HWG.out, h2, ((H3.out.same (HB1.out.block m hml)).same (HO0.out m hmb)).mono (by omega), ?_, HO5.out, H6.out.keep HTS.out.kp, H7.out, by omega⟩
        exact (H4.out.tr (Tr.of_below (M := fun _ => False) HW.out HB1.out) (fun h => h)).hit hk HF0.out (fun _ _ => rfl) (fun j hj => HO0.out j hj) HT1.out.wf
end Go.Proofs.Ytladpckbajnbeaa
