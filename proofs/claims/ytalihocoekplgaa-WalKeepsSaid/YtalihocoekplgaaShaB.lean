/- sha: its numbers. -/
import Derived.Test.YtalihocoekplgaaShaA
set_option linter.unusedVariables false
set_option linter.unusedSimpArgs false
namespace Go.Proofs.Ytalihocoekplgaa
open Go.RowKit

def kTab : List Int := [1116352408, 1899447441, 3049323471, 3921009573, 961987163, 1508970993, 2453635748, 2870763221, 3624381080, 310598401, 607225278, 1426881987, 1925078388, 2162078206, 2614888103, 3248222580, 3835390401, 4022224774, 264347078, 604807628, 770255983, 1249150122, 1555081692, 1996064986, 2554220882, 2821834349, 2952996808, 3210313671, 3336571891, 3584528711, 113926993, 338241895, 666307205, 773529912, 1294757372, 1396182291, 1695183700, 1986661051, 2177026350, 2456956037, 2730485921, 2820302411, 3259730800, 3345764771, 3516065817, 3600352804, 4094571909, 275423344, 430227734, 506948616, 659060556, 883997877, 958139571, 1322822218, 1537002063, 1747873779, 1955562222, 2024104815, 2227730452, 2361852424, 2428436474, 2756734187, 3204031479, 3329325298]
def hTab : List Int := [1779033703, 3144134277, 1013904242, 2773480762, 1359893119, 2600822924, 528734635, 1541459225]
def ucells (l : List Int) : List Value := l.map (fun x => .int .u32 x)
theorem ucells_len (l : List Int) : (ucells l).length = l.length := by simp [ucells]
theorem ucells_one {l : List Int} {v : Value} (h : v ∈ ucells l) : v.oneCell' = true := by
  unfold ucells at h
  rw [List.mem_map] at h
  obtain ⟨x, _, rfl⟩ := h
  rfl
theorem ucells_at {l : List Int} {i : Nat} {x : Int} (h : l[i]? = some x) : (ucells l)[i]? = some (.int .u32 x) := by
  unfold ucells
  rw [List.getElem?_map, h]
  rfl
theorem kTab_len : kTab.length = 64 := rfl
theorem hTab_len : hTab.length = 8 := rfl
theorem results_cellT {P : Program} {fn : Func} {t : Tmp} {ty : TypeId} (h : fn.results = #[.cell t ty]) (tmps : Array Value) (b : Nat) (hb : tmps.getD t undef = .pointer (some ⟨b, 0, none⟩)) (w : World) (cs : List Value) (d : TypeDesc) (hc : w.rangeAt b 0 cs)
    (hu : P.underlying ty = some d) (hd : d.isRow = true) (hi : (P.info? ty).map (·.size) = some cs.length) : (results fn tmps).run P w = .ok (.agg cs.toArray) w := by
  have h1 := run_loadVar_mid (P := P) w b 0 ty cs d hc hu hd hi
  rw [Array.getD_eq_getD_getElem?] at hb
  simp [results, h, hb, asAddr, h1]
theorem range_new (w : World) (cs : List Value) (t : TypeId) : (w.alloc (.cells cs.toArray t)).rangeAt w.heap.size 0 cs := by
  intro j v hv
  rw [Nat.zero_add, blk_cell (heap_alloc_new w _)]
  simpa using hv
theorem wpList_buildC {P : Program} {ops : Array Oper} {rest : List Oper} {o : Oper} {a : Act} {w : World} {Q : Exit → Act → World → Prop} (hg : o.guard = none) (t : TypeId) (parts : Array (Nat × Operand)) (ho : o.op = .build t parts) (C : Array Value)
    (hf : P.built t (parts.map fun (i, x) => (i, a.eval x)).toList = some C)
    (h : wpList P ops Q rest (a.put o.dst (.agg C)) w) : wpList P ops Q (o :: rest) a w := by
  refine wpList_build hg t parts ho (by rw [hf]; rfl) ?_
  rw [hf]
  exact h
set_option maxRecDepth 100000 in
set_option maxHeartbeats 4000000 in
theorem HRounds_any (w : World) : Calls Try.prog 94 #[] w fun e w' => e = .returned (.agg (ucells kTab).toArray) ∧ Below w.heap.size w w' := by
  obtain ⟨C, hC⟩ : ∃ C, ucells kTab = C := ⟨_, rfl⟩
  have hCl : C.length = 64 := by rw [← hC]; rfl
  have hst := run_storeCells_new (P := Try.prog) w 135 #[.int .u32 0, .int .u32 0, .int .u32 0, .int .u32 0, .int .u32 0, .int .u32 0, .int .u32 0, .int .u32 0, .int .u32 0, .int .u32 0, .int .u32 0, .int .u32 0, .int .u32 0, .int .u32 0, .int .u32 0, .int .u32 0, .int .u32 0, .int .u32 0, .int .u32 0, .int .u32 0, .int .u32 0, .int .u32 0, .int .u32 0, .int .u32 0, .int .u32 0, .int .u32 0, .int .u32 0, .int .u32 0, .int .u32 0, .int .u32 0, .int .u32 0, .int .u32 0, .int .u32 0, .int .u32 0, .int .u32 0, .int .u32 0, .int .u32 0, .int .u32 0, .int .u32 0, .int .u32 0, .int .u32 0, .int .u32 0, .int .u32 0, .int .u32 0, .int .u32 0, .int .u32 0, .int .u32 0, .int .u32 0, .int .u32 0, .int .u32 0, .int .u32 0, .int .u32 0, .int .u32 0, .int .u32 0, .int .u32 0, .int .u32 0, .int .u32 0, .int .u32 0, .int .u32 0, .int .u32 0, .int .u32 0, .int .u32 0, .int .u32 0, .int .u32 0] C.toArray (by simp only [List.size_toArray, hCl]; kernel_rfl) (by simp only [List.size_toArray, hCl]; rfl) (all_oneCell_toArray (fun v hv => ucells_one (hC ▸ hv)))
  have HC := Lib.hid hC
  rw [hC]
  clear hC
  go_enter Try.func94, Try.ntmps94
  go_wp2_with (refine wpList_buildC rfl 135 _ rfl C.toArray (by rw [← HC.out]; kernel_rfl) ?_)
  refine bodyPost_ret (results_cellT rfl _ w.heap.size rfl _ C _ (range_new w C 135) Try.underlying135 rfl (by rw [hCl]; kernel_rfl)) rfl ?_
  exact ⟨rfl, below_alloc _ _⟩
set_option maxRecDepth 100000 in
theorem HFirst_any (w : World) : Calls Try.prog 85 #[] w fun e w' => e = .returned (.agg (ucells hTab).toArray) ∧ Below w.heap.size w w' := by
  have hst := run_storeCells_new (P := Try.prog) w 120 #[.int .u32 0, .int .u32 0, .int .u32 0, .int .u32 0, .int .u32 0, .int .u32 0, .int .u32 0, .int .u32 0] #[.int .u32 1779033703, .int .u32 3144134277, .int .u32 1013904242, .int .u32 2773480762, .int .u32 1359893119, .int .u32 2600822924, .int .u32 528734635, .int .u32 1541459225] (by kernel_rfl) rfl (by kernel_rfl)
  go_enter Try.func85, Try.ntmps85
  go_wp2_with fail
  refine bodyPost_ret (results_cellT rfl _ w.heap.size rfl _ (ucells hTab) _ (range_new w (ucells hTab) 120) Try.underlying120 rfl (by kernel_rfl)) rfl ?_
  exact ⟨rfl, below_alloc _ _⟩
end Go.Proofs.Ytalihocoekplgaa
