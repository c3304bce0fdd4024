/- sha: Write. -/
import Derived.Test.YtalihocoekplgaaShaC
set_option linter.unusedVariables false
set_option linter.unusedSimpArgs false
namespace Go.Proofs.Ytalihocoekplgaa
open Go.RowKit

def dgTl (rest : List UInt8) (n : Nat) : List Value := bcells rest ++ [.int .u64 (n : Int)]
/-- A digest's cells. -/
def Dg (w : World) (g : Nat) (hs : List Int) (rest : List UInt8) (n : Nat) : Prop := w.heap[g]? = some (.cells (ucells hs ++ dgTl rest n).toArray 139 (0, 0)) ∧ hs.length = 8 ∧ rest.length = 64
theorem dgTl_len {rest : List UInt8} (h : rest.length = 64) (n : Nat) : (dgTl rest n).length = 65 := by simp [dgTl, bcells_length, h]
theorem Dg.n {w : World} {g : Nat} {hs : List Int} {rest : List UInt8} {n : Nat} (h : Dg w g hs rest n) : w.cell? ⟨g, 72, none⟩ = some (.int .u64 (n : Int)) := by
  obtain ⟨h1, h2, h3⟩ := h
  rw [blk_cell h1, List.getElem?_toArray, List.getElem?_append_right (by rw [ucells_len]; omega), ucells_len, h2]
  unfold dgTl
  rw [List.getElem?_append_right (by rw [bcells_length]; omega), bcells_length, h3]
  rfl
theorem Dg.setN {w : World} {g : Nat} {hs : List Int} {rest : List UInt8} {n m : Nat} (h : Dg w g hs rest n) : Dg (w.setCell ⟨g, 72, none⟩ (.int .u64 (m : Int))) g hs rest m := by
  obtain ⟨h1, h2, h3⟩ := h
  refine ⟨?_, h2, h3⟩
  have hh := blk_set h1 72 (.int .u64 (m : Int))
  rw [setIf_list, List.set_append_right _ _ (by rw [ucells_len]; omega), ucells_len, h2] at hh
  unfold dgTl at hh ⊢
  rw [List.set_append_right _ _ (by rw [bcells_length]; omega), bcells_length, h3] at hh
  exact hh
theorem Dg.rest {w : World} {g : Nat} {hs : List Int} {rest : List UInt8} {n : Nat} (h : Dg w g hs rest n) : w.rangeAt g 8 (bcells rest) := by
  obtain ⟨h1, h2, h3⟩ := h
  intro j v hv
  have hj := (List.getElem?_eq_some_iff.1 hv).1
  rw [blk_cell h1, List.getElem?_toArray, List.getElem?_append_right (by rw [ucells_len]; omega), ucells_len, h2]
  unfold dgTl
  rw [List.getElem?_append_left (by omega)]
  rw [show 8 + j - 8 = j by omega]
  exact hv
def over (rest t : List UInt8) (o : Nat) : List UInt8 := rest.take o ++ t ++ rest.drop (o + t.length)
theorem over_len {rest t : List UInt8} {o : Nat} (h : o + t.length ≤ rest.length) : (over rest t o).length = rest.length := by simp [over]; omega
theorem setCells_blk {g : Nat} {T : TypeId} : ∀ (vs : List Value) {cs : List Value} (o : Nat) {w : World}, w.heap[g]? = some (.cells cs.toArray T (0, 0)) → (w.setCells g o vs).heap[g]? = some (.cells (setL cs o vs).toArray T (0, 0))
  | [], _, _, _, h => h
  | v :: r, cs, o, w, h => by
    have h1 := blk_set h o v
    rw [setIf_list] at h1
    exact setCells_blk r (o + 1) h1
theorem Dg.copy {w : World} {g : Nat} {hs : List Int} {rest : List UInt8} {n : Nat} (h : Dg w g hs rest n) (t : List UInt8) (o : Nat) (ho : o + t.length ≤ 64) : Dg (w.setCells g (8 + o) (bcells t)) g hs (over rest t o) n := by
  obtain ⟨h1, h2, h3⟩ := h
  refine ⟨?_, h2, by rw [over_len (by omega)]; exact h3⟩
  rw [setCells_blk (bcells t) (8 + o) h1]
  congr 3
  have e : ucells hs ++ dgTl rest n = (ucells hs ++ bcells (rest.take o)) ++ bcells ((rest.drop o).take t.length) ++ (bcells (rest.drop (o + t.length)) ++ [.int .u64 (n : Int)]) := by
    unfold dgTl
    rw [List.append_assoc, List.append_assoc, ← List.append_assoc (bcells ((rest.drop o).take t.length)), ← bcells_append, ← List.append_assoc (bcells (rest.take o)), ← bcells_append, ← List.drop_drop, List.take_append_drop, List.take_append_drop]
  have hl : (ucells hs ++ bcells (rest.take o)).length = 8 + o := by rw [List.length_append, ucells_len, bcells_length, h2, List.length_take]; omega
  rw [e, ← hl, setL_mid _ _ _ (bcells t) (by rw [bcells_length, bcells_length, List.length_take, List.length_drop]; omega)]
  unfold dgTl over
  rw [bcells_append, bcells_append]
  simp only [List.append_assoc]
theorem src_of_rd {w : World} {c : Col} {g : Nat} {A : Option Addr} {n cp : Nat} {xs : List UInt8} (h : Rd kU8 w c A n cp xs) (hc : c g = some g) : Src w g w.heap.size A n cp xs := by
  refine ⟨h.1, h.2.1, h.2.2.1, fun hn => ?_⟩
  obtain ⟨b, off, e, hb, hcb, _⟩ := h.2.2.2 hn
  subst e
  refine ⟨b, off, rfl, hb, fun e => ?_, fun j v hv => ?_⟩
  · subst e
    rw [hc] at hcb
    cases hcb
  · have := h.news j v hv
    rwa [addr_add] at this
/-- What a copy into the rest leaves. -/
theorem dg_copy {w : World} {c : Col} {g : Nat} {A : Option Addr} {r cp dl o : Nat} {xs : List UInt8} {hs : List Int} {rest : List UInt8} {n : Nat} (h : Dg w g hs rest n) (hx : Rd kU8 w c A r cp xs) (hd : dl = 64 - o) (ho : o ≤ 64) :
    ∃ v, (Builtin.copy_ #[23, 23] 3 #[.slice (some ⟨g, 8 + o, none⟩) dl dl, .slice A r cp]).run Try.prog w = .ok (.int .i64 (v : Nat)) (w.setCells g (8 + o) (bcells (xs.take v))) ∧ v = Nat.min r dl := by
  have hu8 : (Try.prog.info? 5).map (·.size) = some 1 := by kernel_rfl
  have hxl := hx.1
  refine ⟨Nat.min r dl, ?_, rfl⟩
  by_cases h0 : Nat.min r dl = 0
  · rw [h0, List.take_zero]
    exact run_copy_none (P := Try.prog) _ 23 23 3 5 _ _ _ _ _ _ Try.underlying23 hu8 h0
  · have hr : 0 < r := by
      rcases Nat.eq_zero_or_pos r with e | e
      · subst e
        simp at h0
      · exact e
    obtain ⟨b, off, rfl⟩ := hx.addr hr
    have hle : Nat.min r dl ≤ r := Nat.min_le_left _ _
    have hle2 : Nat.min r dl ≤ dl := Nat.min_le_right _ _
    have hlt : (bcells (xs.take (Nat.min r dl))).length = Nat.min r dl := by rw [bcells_length, List.length_take]; omega
    have hcl := fun j (hj : j < 64) => h.rest j
    have hr := run_copy_cells (P := Try.prog) w 23 23 3 5 g (8 + o) dl dl ⟨b, off, none⟩ r cp (bcells (xs.take (Nat.min r dl))) Try.underlying23 hu8 hlt
      (fun j v hv => by
        have hj := (List.getElem?_eq_some_iff.1 hv).1
        refine hx.news j v ?_
        unfold bcells at hv ⊢
        rw [List.map_take, List.getElem?_take, if_pos (by omega)] at hv
        exact hv)
      (fun j hj => by
        rw [blk_cell h.1, List.getElem?_toArray, List.getElem?_eq_getElem (by rw [List.length_append, ucells_len, dgTl_len h.2.2, h.2.1]; omega)]
        rfl)
      (fun j _ => blk_free h.1 _) (fun v hv => bcells_one hv)
    rw [hlt] at hr
    exact hr
theorem Src.take {w : World} {g S : Nat} {A : Option Addr} {n cp : Nat} {xs : List UInt8} (h : Src w g S A n cp xs) {m : Nat} (hm : m ≤ n) : Src w g S A m cp (xs.take m) := by
  obtain ⟨h1, h2, h3, h4⟩ := h
  refine ⟨by rw [List.length_take]; omega, by omega, h3, fun hp => ?_⟩
  obtain ⟨bb, off, e, hb, ho, hr⟩ := h4 (by omega)
  refine ⟨bb, off, e, hb, ho, ?_⟩
  have := range_take hr m
  simpa [bcells, List.map_take] using this
end Go.Proofs.Ytalihocoekplgaa
