/- disk: New, Read, Write. -/
import Derived.Test.YtalihocoekplgaaDskB
import Derived.Laws.CopyOwn
set_option linter.unusedVariables false
set_option linter.unusedSimpArgs false
namespace Go.Proofs.Ytalihocoekplgaa
open Go.RowKit

theorem sec_info : (Try.prog.info? 70).map (fun i => (i.zero, i.size, i.bytes)) = some (some (sec zsec), 64, 64) := by kernel_rfl
theorem sec_size : (Try.prog.info? 70).map (·.size) = some 64 := by kernel_rfl
set_option maxRecDepth 100000 in
theorem KNew_bad (w : World) (f : Int) (h : f < 0 ∨ 4096 < f) : Calls Try.prog 10 #[.int .i64 f] w fun e w' => e = .returned (.tuple #[.pointer none, .int .i64 1]) ∧ w = w' := by
  have HB := Lib.hid h
  clear h
  go_enter Try.func10, Try.ntmps10
  go_wp2_with fail
  all_goals
    first
      | (exfalso; have := HB.out; omega)
      | (refine bodyPost_ret (results_tmp2 rfl _ _ _) rfl ?_; exact ⟨rfl, rfl⟩)
theorem secs_zero (n : Nat) : (List.replicate n zsec).flatMap bcells = List.replicate (n * 64) (.int .u8 0) := by
  have hz : bcells zsec = List.replicate 64 (.int .u8 0) := rfl
  induction n with
  | zero => rfl
  | succ n ih => rw [List.replicate_succ, List.flatMap_cons, ih, hz, List.replicate_append_replicate]; congr 1; omega
theorem made_secs (n : Nat) : (madeCells (sec zsec).cells (n * 64)).toList = (List.replicate n zsec).flatMap bcells := by
  rw [secs_zero, List.eq_replicate_iff]
  have hz : (sec zsec).cells = Array.replicate 64 (.int .u8 0) := rfl
  refine ⟨by rw [Array.length_toList, size_madeCells], fun b hb => ?_⟩
  rw [hz] at hb
  unfold madeCells at hb
  rw [Array.toList_map, List.mem_map] at hb
  obtain ⟨i, _, rfl⟩ := hb
  have h64 : i % (Array.replicate 64 (Value.int .u8 0)).size < (Array.replicate 64 (Value.int .u8 0)).size := Nat.mod_lt _ (by simp)
  rw [getElem!_pos (Array.replicate 64 (Value.int .u8 0)) _ h64]
  simp
set_option maxRecDepth 100000 in
set_option maxHeartbeats 2000000 in
theorem KNew_ok (w : World) (c : Col) (n : Nat) (hn : n ≤ 4096) (hw : Wf c w) : Calls Try.prog 10 #[.int .i64 (n : Int)] w fun e w' =>
    ∃ g c', e = .returned (.tuple #[.pointer (some ⟨g, 0, none⟩), .int .i64 0]) ∧ Tr (fun _ => False) c c' w w' ∧ w.heap.size ≤ g ∧ Dk w' c' g n (List.replicate n zsec) (fun _ => none) 0 := by
  have HW := Lib.hid hw
  clear hw
  obtain ⟨i0, hi, hzz⟩ := Option.map_eq_some_iff.1 sec_info
  simp only [Prod.mk.injEq] at hzz
  obtain ⟨hz0, hz1, hz2⟩ := hzz
  have hmm := @run_makeMap Try.prog
  have hn0 : (0 : Int) ≤ (n : Int) := by omega
  have hn1 : (n : Int) ≤ 4096 := by omega
  have HI := Lib.hid hi
  have HZ0 := Lib.hid hz0
  have HZ1 := Lib.hid hz1
  have hzb : i0.bytes * n ≤ 281474976710656 := by rw [hz2]; omega
  have HZB := Lib.hid hzb
  clear hi hz0 hz1 hz2 hzb
  go_enter Try.func10, Try.ntmps10
  go_wp2_with (at_make; go_must (refine wpList_make_full w rfl (.tmp 10) (.tmp 10) 64 rfl w.heap.size 70 i0 (sec zsec) 64 Try.underlying64 HI.out HZ0.out HZ1.out .i64 .i64 (n : Int) (n : Int) n rfl rfl rfl rfl HZB.out (by simp only [maxLen]; omega) (Nat.le_refl _) ?_); intro w1 q_ho q_hg; have HO := Lib.hid q_ho; have HG := Lib.hid q_hg; clear q_ho q_hg)
  refine bodyPost_ret (results_tmp2 rfl _ _ _) rfl ?_
  have hB := (HO.out.lt w.heap.size rfl).2
  have t0 := ((Tr.refl (fun _ => False) HW.out).grown HG.out (fun k hk => by cases hk)).alloc (.map #[] 0)
  have t1 := t0.alloc (.cells #[.slice (some ⟨w.heap.size, 0, none⟩) n n, .map (some w1.heap.size)] 67)
  have t2 := t1.hot (k := w.heap.size) (g := w1.heap.size + 1) (Nat.le_refl _) (by simp; omega) (by simp) (.inr (by omega))
  have t3 := t2.hot (k := w1.heap.size) (g := w1.heap.size + 1) (by omega) (by simp; omega) (by simp) (.inr (by omega))
  have t4 := t3.hot (k := w1.heap.size + 1) (g := w1.heap.size + 1) (by omega) (by simp) (by simp) (.inr (by omega))
  refine ⟨w1.heap.size + 1, _, by simp, t4, by omega, Col.set_same _ _ _, some ⟨w.heap.size, 0, none⟩, n, w1.heap.size, ?_, ?_, ?_, ⟨?_, ?_⟩, by simp, ?_, ?_, hn⟩
  · have := heap_alloc_new (w1.alloc (.map #[] 0)) (.cells #[.slice (some ⟨w.heap.size, 0, none⟩) n n, .map (some w1.heap.size)] 67)
    simpa using this
  · rw [Col.set_ne _ (by omega)]; exact Col.set_same _ _ _
  · exact (MapS.made w1).same ((Below.heap_alloc _ _ w1.heap.size (by simp)))
  · have h := HO.out
    rw [made_secs] at h
    exact own_weak ((h.alloc _).alloc _) (Nat.zero_le _)
  · intro k hk
    cases hk
    rw [Col.set_ne _ (by show w.heap.size ≠ _; omega), Col.set_ne _ (by show w.heap.size ≠ _; omega)]
    exact Col.set_same _ _ _
  · intro s hs
    rw [List.eq_of_mem_replicate hs]; rfl
  · intro k s h; cases h
end Go.Proofs.Ytalihocoekplgaa
