/- disk: the document's disk: New, Sync. -/
import Derived.Test.YtalihocoekplgaaDskR
import Derived.Deep.RegionHeld3
set_option linter.unusedVariables false
set_option linter.unusedSimpArgs false
namespace Go.Proofs.Ytalihocoekplgaa
open Go.RowKit

def rz : RSec := ⟨zsec, zsec, false⟩
def rzV : Value := .agg (rcells rz).toArray
theorem rsec_info : (Try.prog.info? 81).map (fun i => (i.zero, i.size, i.bytes)) = some (some rzV, 129, 129) := by kernel_rfl
theorem made_rsecs (n : Nat) : (madeCells rzV.cells (n * 129)).toList = (List.replicate n rz).flatMap rcells := by
  have hz : rzV.cells = (rcells rz).toArray := rfl
  have hs : ((rcells rz).toArray).size = 129 := rfl
  have hok : ROk (List.replicate n rz) := fun x hx => by rw [List.eq_of_mem_replicate hx]; exact ⟨rfl, rfl⟩
  apply List.ext_getElem?
  intro i
  by_cases hi : i < n * 129
  · have e : i = i / 129 * 129 + i % 129 := by omega
    have hm : i % 129 < 129 := by omega
    have h1 := flat129 (List.replicate n rz) (i / 129) rz hok (by rw [List.getElem?_replicate, if_pos (by omega)]) (i % 129) hm
    rw [← e] at h1
    rw [h1, hz]
    unfold madeCells
    rw [Array.getElem?_toList, Array.getElem?_map, Array.getElem?_range, if_pos hi]
    show some ((rcells rz).toArray[i % (rcells rz).toArray.size]!) = _
    rw [hs, getElem!_pos (rcells rz).toArray _ (by rw [hs]; exact hm)]
    rw [← List.getElem?_toArray, Array.getElem?_eq_getElem]
  · rw [List.getElem?_eq_none (by rw [Array.length_toList, size_madeCells]; omega), List.getElem?_eq_none (by rw [flat129_len _ hok]; simp; omega)]
set_option maxRecDepth 100000 in
set_option maxHeartbeats 2000000 in
theorem RNew_any (w : World) (c : Col) (n : Nat) (hn : n ≤ 4096) (hw : Wf c w) : Calls Try.prog 18 #[.int .i64 (n : Int)] w fun e w' =>
    ∃ g c', e = .returned (.pointer (some ⟨g, 0, none⟩)) ∧ Tr (fun _ => False) c c' w w' ∧ w.heap.size ≤ g ∧ RDk w' c' g n (List.replicate n rz) := by
  have HW := Lib.hid hw
  clear hw
  obtain ⟨i0, hi, hzz⟩ := Option.map_eq_some_iff.1 rsec_info
  simp only [Prod.mk.injEq] at hzz
  obtain ⟨hz0, hz1, hz2⟩ := hzz
  have hn0 : (0 : Int) ≤ (n : Int) := by omega
  have hn1 : (n : Int) ≤ 4096 := by omega
  have HI := Lib.hid hi
  have HZ0 := Lib.hid hz0
  have HZ1 := Lib.hid hz1
  have hzb : i0.bytes * n ≤ 281474976710656 := by rw [hz2]; omega
  have HZB := Lib.hid hzb
  clear hi hz0 hz1 hz2 hzb
  go_enter Try.func18, Try.ntmps18
  go_wp2_with (at_make; go_must (refine wpList_make_full w rfl (.tmp 3) (.tmp 3) 77 rfl w.heap.size 81 i0 rzV 129 Try.underlying77 HI.out HZ0.out HZ1.out .i64 .i64 (n : Int) (n : Int) n rfl rfl rfl rfl HZB.out (by simp only [maxLen]; omega) (Nat.le_refl _) ?_); intro w1 q_ho q_hg; have HO := Lib.hid q_ho; have HG := Lib.hid q_hg; clear q_ho q_hg)
  refine bodyPost_ret (results_tmp rfl _ _ _) rfl ?_
  have hB := (HO.out.lt w.heap.size rfl).2
  have t0 := (Tr.refl (fun _ => False) HW.out).grown HG.out (fun k hk => by cases hk)
  have t1 := t0.alloc (.cells #[.slice (some ⟨w.heap.size, 0, none⟩) n n] 79)
  have t2 := t1.hot (k := w.heap.size) (g := w1.heap.size) (Nat.le_refl _) (by simp; omega) (by simp) (.inr (by omega))
  have t3 := t2.hot (k := w1.heap.size) (g := w1.heap.size) (by omega) (by simp) (by simp) (.inr (by omega))
  refine ⟨w1.heap.size, _, rfl, t3, by omega, Col.set_same _ _ _, some ⟨w.heap.size, 0, none⟩, n, heap_alloc_new w1 _, ⟨?_, ?_⟩, by simp, ?_, hn⟩
  · have h := HO.out
    rw [made_rsecs] at h
    exact own_weak (h.alloc _) (Nat.zero_le _)
  · intro k hk
    cases hk
    rw [Col.set_ne _ (by show w.heap.size ≠ _; omega)]
    exact Col.set_same _ _ _
  · intro x hx
    rw [List.eq_of_mem_replicate hx]
    exact ⟨rfl, rfl⟩
end Go.Proofs.Ytalihocoekplgaa
