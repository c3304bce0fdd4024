/- sha: New, Copy. -/
import Derived.Test.YtalihocoekplgaaShaF
set_option linter.unusedVariables false
set_option linter.unusedSimpArgs false
namespace Go.Proofs.Ytalihocoekplgaa
open Go.RowKit

set_option maxRecDepth 100000 in
set_option maxHeartbeats 2000000 in
theorem HNew_any (w : World) : Calls Try.prog 70 #[] w fun e w' => ∃ g, e = .returned (.pointer (some ⟨g, 0, none⟩)) ∧ w.heap.size ≤ g ∧ Dg w' g hTab zsec 0 ∧ Below w.heap.size w w' := by
  obtain ⟨C, hC⟩ : ∃ C, ucells hTab = C := ⟨_, rfl⟩
  obtain ⟨E, hE⟩ : ∃ E, ucells hTab ++ dgTl zsec 0 = E := ⟨_, rfl⟩
  have HF := Lib.hid (HFirst_any w)
  rw [hC] at HF
  have HC := Lib.hid hC
  have HE := Lib.hid hE
  clear hC hE
  go_enter Try.func70, Try.ntmps70
  go_wp2_with fail
  refine (HF.out).mono ?_
  rintro e w1 ⟨rfl, q_HB1⟩
  have HB1 := Lib.hid q_HB1
  clear q_HB1
  go_wp2_with (refine wpList_buildC rfl 139 _ rfl E.toArray (by rw [← HE.out, ← HC.out]; kernel_rfl) ?_)
  refine bodyPost_ret (results_tmp rfl _ _ _) rfl ?_
  refine ⟨w1.heap.size, rfl, HB1.out.size, ⟨?_, rfl, rfl⟩, below_then HB1.out (below_alloc w1 _)⟩
  rw [HE.out]
  exact heap_alloc_new w1 _
set_option maxRecDepth 100000 in
set_option maxHeartbeats 2000000 in
theorem HCopy_any (w : World) (g : Nat) (hs : List Int) (rest : List UInt8) (n : Nat) (h : Dg w g hs rest n) : Calls Try.prog 87 #[.pointer (some ⟨g, 0, none⟩)] w fun e w' => e = .returned (.pointer (some ⟨w.heap.size, 0, none⟩)) ∧ Dg w' w.heap.size hs rest n ∧ Below w.heap.size w w' := by
  obtain ⟨E, hE⟩ : ∃ E, ucells hs ++ dgTl rest n = E := ⟨_, rfl⟩
  have hEl : E.length = 73 := by rw [← hE, List.length_append, ucells_len, h.2.1, dgTl_len h.2.2]
  have hE1 : ∀ v ∈ E, v.oneCell' = true := by
    intro v hv
    rw [← hE, List.mem_append] at hv
    rcases hv with hv | hv
    · exact ucells_one hv
    · unfold dgTl at hv
      rw [List.mem_append] at hv
      rcases hv with hv | hv
      · exact bcells_one hv
      · simp at hv
        subst hv
        rfl
  have h1 := h.1
  rw [hE] at h1
  have hra : w.rangeAt g 0 E := by
    intro j v hv
    rw [Nat.zero_add, blk_cell h1, List.getElem?_toArray]
    exact hv
  have HSZ : Hid ((Try.prog.info? 139).map (·.size) = some E.length) := by
    show _ = _
    rw [hEl]
    kernel_rfl
  have hst := run_storeCells_new (P := Try.prog) w 139 Try.zeroCells139 E.toArray (by simp only [List.size_toArray, hEl]; kernel_rfl) (by simp only [List.size_toArray, hEl]; rfl) (all_oneCell_toArray hE1)
  have HRA := Lib.hid hra
  have HE := Lib.hid hE
  clear hra hE h1
  go_enter Try.func87, Try.ntmps87
  go_wp2_with (first | (refine wpList_load_mid rfl 139 (.tmp 7) rfl g 0 rfl E _ HRA.out Try.underlying139 rfl HSZ.out ?_))
  refine bodyPost_ret (results_tmp rfl _ _ _) rfl ?_
  refine ⟨rfl, ⟨?_, h.2.1, h.2.2⟩, below_alloc w _⟩
  rw [HE.out]
  exact heap_alloc_new w _
end Go.Proofs.Ytalihocoekplgaa
