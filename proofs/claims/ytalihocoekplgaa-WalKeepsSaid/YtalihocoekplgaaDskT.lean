/- disk: the document's disk: Sync. -/
import Derived.Test.YtalihocoekplgaaDskS
set_option linter.unusedVariables false
set_option linter.unusedSimpArgs false
namespace Go.Proofs.Ytalihocoekplgaa
open Go.RowKit

def syncS (x : RSec) : RSec := ⟨x.is, x.is, false⟩
def mapF {α : Type} (f : α → α) (k : Nat) (R : List α) : List α := (R.take k).map f ++ R.drop k
theorem mapF_len {α : Type} (f : α → α) (k : Nat) (R : List α) : (mapF f k R).length = R.length := by simp [mapF]; omega
theorem mapF_zero {α : Type} (f : α → α) (R : List α) : mapF f 0 R = R := by simp [mapF]
theorem mapF_full {α : Type} (f : α → α) {k : Nat} {R : List α} (h : R.length ≤ k) : mapF f k R = R.map f := by simp [mapF, List.take_of_length_le h, List.drop_of_length_le h]
theorem mapF_at {α : Type} (f : α → α) {k : Nat} {R : List α} {x : α} (h : R[k]? = some x) : (mapF f k R)[k]? = some x := by
  have hk := (List.getElem?_eq_some_iff.1 h).1
  unfold mapF
  rw [List.getElem?_append_right (by simp; omega), List.getElem?_drop]
  simp
  rw [Nat.min_eq_left (by omega)]
  simpa using h
theorem mapF_get {α : Type} (f : α → α) (k : Nat) (R : List α) (i : Nat) : (mapF f k R)[i]? = if i < k then (R[i]?).map f else R[i]? := by
  unfold mapF
  by_cases h : i < k
  · rw [if_pos h]
    by_cases h2 : i < R.length
    · rw [List.getElem?_append_left (by simp; omega), List.getElem?_map, List.getElem?_take, if_pos h]
    · rw [List.getElem?_append_right (by simp; omega), List.getElem?_drop, List.getElem?_eq_none (by simp; omega), List.getElem?_eq_none (l := R) (by omega)]
      rfl
  · rw [if_neg h]
    by_cases h2 : k ≤ R.length
    · rw [List.getElem?_append_right (by simp; omega), List.getElem?_drop]
      congr 1
      simp
      omega
    · rw [List.getElem?_eq_none (by simp; omega), List.getElem?_eq_none (by omega)]
theorem mapF_step {α : Type} (f : α → α) {k : Nat} {R : List α} {x : α} (h : R[k]? = some x) : (mapF f k R).set k (f x) = mapF f (k + 1) R := by
  have hk := (List.getElem?_eq_some_iff.1 h).1
  apply List.ext_getElem?
  intro i
  rw [mapF_get]
  by_cases e : k = i
  · subst e
    rw [List.getElem?_set_self (by rw [mapF_len]; exact hk), if_pos (by omega), h]
    rfl
  · rw [List.getElem?_set_ne e, mapF_get]
    by_cases h2 : i < k
    · rw [if_pos h2, if_pos (by omega)]
    · rw [if_neg h2, if_neg (by omega)]
theorem ROk.mapF {f : RSec → RSec} (hf : ∀ x, x.is.length = 64 ∧ x.was.length = 64 → (f x).is.length = 64 ∧ (f x).was.length = 64) {R : List RSec} (h : ROk R) (k : Nat) : ROk (mapF f k R) := by
  intro x hx
  unfold Proofs.Ytalihocoekplgaa.mapF at hx
  rw [List.mem_append, List.mem_map] at hx
  rcases hx with ⟨y, hy, rfl⟩ | hx
  · exact hf y (h y (List.mem_of_mem_take hy))
  · exact h x (List.mem_of_mem_drop hx)
theorem keepS {W : World} {g bl o o' : Nat} {u : Value} {cs vs : List Value} (hg : g ≠ bl) (hap : o' + cs.length ≤ o ∨ o + vs.length ≤ o') (h : W.cell? ⟨g, 0, none⟩ = some u ∧ W.rangeAt bl o' cs) : (W.setCells bl o vs).cell? ⟨g, 0, none⟩ = some u ∧ (W.setCells bl o vs).rangeAt bl o' cs :=
  ⟨(World.cell?_of_block (a := ⟨g, 0, none⟩) (heap_of_setCells hg vs o W)).trans h.1, World.rangeAt_setCells_apart h.2 bl o vs (.inr hap)⟩
theorem keepS1 {W : World} {g bl o o' : Nat} {u v : Value} {cs : List Value} (hg : g ≠ bl) (hap : o' + cs.length ≤ o ∨ o + 1 ≤ o') (h : W.cell? ⟨g, 0, none⟩ = some u ∧ W.rangeAt bl o' cs) : (W.setCell ⟨bl, o, none⟩ v).cell? ⟨g, 0, none⟩ = some u ∧ (W.setCell ⟨bl, o, none⟩ v).rangeAt bl o' cs :=
  keepS (vs := [v]) hg hap h
set_option maxRecDepth 100000 in
set_option maxHeartbeats 4000000 in
theorem RSync_any (w : World) (c : Col) (g n : Nat) (R : List RSec) (hw : Wf c w) (h : RDk w c g n R) :
    Calls Try.prog 20 #[.pointer (some ⟨g, 0, none⟩)] w fun e w' => e = .returned (.tuple #[]) ∧ Tr (· = g) c c w w' ∧ RDk w' c g n (R.map syncS) := by
  obtain ⟨hg, A, cp, h1, h4, h5, h6, h8⟩ := h
  have hgl := blk_lt h1
  have HW := Lib.hid hw
  have H1 := Lib.hid h1
  have H4 := Lib.hid h4
  have H6 := Lib.hid h6
  have H5 := Lib.hid h5
  clear h1 h4 h6 h5
  clear hw
  have hn1 : (n : Int) ≤ 4096 := by omega
  go_enter Try.func20, Try.ntmps20
  go_wp2_with fail
  go_loopw [2] (fun i wr => ∃ (k : Nat), i = .int .i64 (k : Int) ∧ k ≤ n ∧ Hid (Tr (· = g) c c w wr) ∧ Hid (wr.heap[g]? = w.heap[g]?) ∧ Hid (wr.ownsRow 0 81 129 (.slice A n cp) n ((mapF syncS k R).flatMap rcells))) (fun i _ => n - (intOf i).toNat)
  case atStart =>
    refine ⟨0, rfl, Nat.zero_le _, Tr.refl _ HW.out, rfl, ?_⟩
    rw [mapF_zero]
    exact H4.out.1
  case round =>
    obtain ⟨k, rfl, hk, HT, HGB, HROW⟩ := hrel
    have hd0 : wr.cell? ⟨g, 0, none⟩ = some (.slice A n cp) := blk_cell0 (HGB.out.trans H1.out)
    have hok : ROk (mapF syncS k R) := ROk.mapF (f := syncS) (fun x hx => ⟨hx.1, hx.1⟩) H6.out k
    rcases Nat.lt_or_ge k n with hlt | hge
    · obtain ⟨bl, capl, he, _, _⟩ := HROW.out.form (by omega)
      obtain ⟨rfl, rfl⟩ : A = some ⟨bl, 0, none⟩ ∧ cp = capl := by injection he with e1 e2 e3; exact ⟨e1, e3⟩
      obtain ⟨x, hx⟩ : ∃ x, R[k]? = some x := ⟨_, List.getElem?_eq_getElem (by rw [H5.out]; exact hlt)⟩
      have hx64 := H6.out x (List.mem_of_getElem? hx)
      have hxm := mapF_at syncS hx
      have hra := rsec_is HROW.out hok hxm
      have hdy := rsec_dirty HROW.out hok hxm
      obtain ⟨C, hC⟩ : ∃ C, bcells x.is = C := ⟨_, rfl⟩
      have hCl : C.length = 64 := by rw [← hC, bcells_length, hx64.1]
      have hC1 : ∀ v ∈ C, v.oneCell' = true := fun v hv => bcells_one (hC ▸ hv)
      rw [hC] at hra
      have hgbl : g ≠ bl := by
        intro e
        rcases HROW.out.2 with ⟨he, _⟩ | ⟨b', cap, cur, he, _, hh2, _⟩
        · cases he
        · have e1 : bl = b' := by injection he with e1 _ _; injection e1 with e1; injection e1
          rw [← e1, ← e, HGB.out, H1.out] at hh2
          cases hh2
      have hth : wr.drew.there bl (k * 129 + 64) 64 := rsec_there HROW.out hlt (by omega)
      have hk0 : (0 : Int) ≤ (k : Int) := by omega
      have hk1 : (k : Int) < (n : Int) := by omega
      have hSS : wr.drew.cell? ⟨g, 0, none⟩ = some (.slice (some ⟨bl, 0, none⟩) n cp) ∧ wr.drew.rangeAt bl (k * 129) C := ⟨hd0, hra⟩
      have hdy2 : (wr.drew.setCells bl (k * 129 + 64) C).cell? ⟨bl, k * 129 + 128, none⟩ = some (.bool x.dirty) := by
        rw [World.cell?_setCells_out bl C (k * 129 + 64) wr.drew ⟨bl, k * 129 + 128, none⟩ (fun _ _ => .inr (by rw [hCl]; exact Nat.le_refl _))]
        exact hdy
      have hfr2 : (wr.drew.setCells bl (k * 129 + 64) C).frozen? ⟨bl, k * 129 + 128, none⟩ = false := by
        rw [World.frozen?_setCells]
        exact HROW.out.frozenAt _
      have HX := Lib.hid hx
      have HC := Lib.hid hC
      clear hx hC hra hdy hok hxm he
      go_wp2_with fail
      have hu69 := Try.underlying69
      have hsz69 : (Try.prog.info? 69).map (·.size) = some C.length := by rw [hCl]; kernel_rfl
      go_region_held3 (fun w' => w'.cell? ⟨g, 0, none⟩ = some (.slice (some ⟨bl, 0, none⟩) n cp) ∧ w'.rangeAt bl (k * 129) C) (first | assumption | exact keepS hgbl (by omega) (by assumption) | exact keepS1 hgbl (by omega) (by assumption)) (fail)
      go_wp2_with fail
      have hbc : c bl = some g := H4.out.2 bl rfl
      have hok : ROk (mapF syncS k R) := ROk.mapF (f := syncS) (fun x hx => ⟨hx.1, hx.1⟩) H6.out k
      have hxm := mapF_at syncS HX.out
      refine ⟨⟨k + 1, by go_num, by omega, ?_, ?_, ?_⟩, by simp [intOf]; omega⟩
      · exact (Tr.setCells (g := g) hbc C (k * 129 + 64) HT.out.drew (.inl rfl)).setCell (p := ⟨bl, k * 129 + 128, none⟩) hbc (.inl rfl) _
      · show _ = _
        rw [heap_of_setCell _ _ _ _ hgbl, heap_of_setCells hgbl]
        exact HGB.out
      · have h1 := own_setCells C (k * 129 + 64) HROW.out.drew
        have h2 := own_setCells [.bool false] (k * 129 + 128) h1
        rw [← HC.out, flat129_set (x' := ⟨x.is, x.is, x.dirty⟩) hok hxm ⟨hx64.1, hx64.1⟩ (by rw [bcells_length, hx64.1]; omega) (set_was hx64 hx64.1),
          flat129_set (x := ⟨x.is, x.is, x.dirty⟩) (x' := syncS x) (ROk.set (x := ⟨x.is, x.is, x.dirty⟩) hok ⟨hx64.1, hx64.1⟩) (List.getElem?_set_self (List.getElem?_eq_some_iff.1 hxm).1) ⟨hx64.1, hx64.1⟩ (by simp only [List.length_cons, List.length_nil]; omega) (set_dirty (x := ⟨x.is, x.is, x.dirty⟩) ⟨hx64.1, hx64.1⟩ false), List.set_set, mapF_step syncS HX.out] at h2
        rw [← HC.out]
        exact h2
    · obtain rfl : k = n := by omega
      go_wp2_with fail
      go_end0
      refine ⟨rfl, HT.out, hg, A, cp, HGB.out.trans H1.out, ⟨?_, H4.out.2⟩, by rw [List.length_map]; exact H5.out, ?_, h8⟩
      · have h := HROW.out
        rw [mapF_full syncS (by rw [H5.out]; exact Nat.le_refl _)] at h
        exact h
      · rw [← mapF_full syncS (k := k) (by rw [H5.out]; exact Nat.le_refl _)]
        exact hok
end Go.Proofs.Ytalihocoekplgaa
