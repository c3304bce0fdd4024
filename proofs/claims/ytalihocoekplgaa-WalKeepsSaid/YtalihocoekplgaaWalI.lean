/- wal: Put. -/
import Derived.Test.YtalihocoekplgaaWalG
set_option linter.unusedVariables false
set_option linter.unusedSimpArgs false
namespace Go.Proofs.Ytalihocoekplgaa
open Go.RowKit
attribute [local go_sem] Oper.semAt_some

theorem WPut_nil (w : World) (A : Option Addr) (n cp : Nat) (hn : n ≤ 9223372036854775807) : Calls Try.prog 27 #[.pointer none, .slice A n cp] w fun e w' => e = .returned (.int .i64 1) ∧ Below w.heap.size w w' := by
  go_enter Try.func27, Try.ntmps27
  go_wp2_with fail
  refine bodyPost_ret (results_tmp rfl _ _ _) rfl ?_
  exact ⟨rfl, below_alloc _ _⟩
theorem WPut_bad (w : World) (gl : Nat) (A : Option Addr) (n cp : Nat) (hn : n < 1 ∨ 20000 < n) (hm : n ≤ 9223372036854775807) : Calls Try.prog 27 #[.pointer (some ⟨gl, 0, none⟩), .slice A n cp] w fun e w' => e = .returned (.int .i64 1) ∧ Below w.heap.size w w' := by
  rcases hn with h | h
  · obtain rfl : n = 0 := by omega
    go_enter Try.func27, Try.ntmps27
    go_wp2_with fail
    refine bodyPost_ret (results_tmp rfl _ _ _) rfl ?_
    exact ⟨rfl, below_alloc _ _⟩
  · have h1 : ¬ (n : Int) < 1 := by omega
    have h2 : (20000 : Int) < (n : Int) := by omega
    clear h
    go_enter Try.func27, Try.ntmps27
    go_wp2_with fail
    refine bodyPost_ret (results_tmp rfl _ _ _) rfl ?_
    exact ⟨rfl, below_alloc _ _⟩
set_option maxRecDepth 100000 in
set_option maxHeartbeats 4000000 in
theorem WPut_full (w : World) (c : Col) (gl g n num used : Nat) (Y : List (List UInt8)) (D : Dt) (N : Nat) (A : Option Addr) (m cp : Nat) (h1 : 1 ≤ m) (h2 : m ≤ 20000) (hu : used ≤ n) (hf : n - used < secN m) (hw : Wf c w) (hD : Dk w c g n Y D N) (hL : Lg w c gl g num used) :
    Calls Try.prog 27 #[.pointer (some ⟨gl, 0, none⟩), .slice A m cp] w fun e w' => e = .returned (.int .i64 5) ∧ Below w.heap.size w w' := by
  have hn8 : n ≤ 4096 := by obtain ⟨_, _, _, _, _, _, _, _, _, _, _, h⟩ := hD; exact h
  have d0 := blk_cell0 hL.2
  have d2 := blk_cell2 hL.2
  obtain ⟨room, hroom⟩ : ∃ room : Nat, room = n - used := ⟨_, rfl⟩
  have hwr : IntKind.i64.wrap ((n : Int) - (used : Int)) = (room : Int) := i64_id (by omega) (by omega)
  have ha := below_alloc w (.cells #[.pointer (some ⟨gl, 0, none⟩)] 49)
  have ht := Tr.of_below (M := fun _ => False) hw ha
  have q0 := cell_regrown ((ha.cell (p := ⟨gl, 0, none⟩) (block_lt_of_cell d0)).trans d0)
  have q2 := cell_regrown ((ha.cell (p := ⟨gl, 2, none⟩) (block_lt_of_cell d2)).trans d2)
  have qb := cell_regrown (blk_cell0 (heap_alloc_new w (.cells #[.pointer (some ⟨gl, 0, none⟩)] 49)))
  have C0 := Lib.hid (fun d os => Calls.regrown_of ((KLen_any (Sort.grow (redrawn (w.alloc (.cells #[.pointer (some ⟨gl, 0, none⟩)] 49)) d) os) c g n Y D N ((hD.tr ht (fun h => h)).tr (Tr.of_below (M := fun _ => False) ht.wf (below_regrown _ d os)) (fun h => h))).mono fun e w' ⟨h1, h2⟩ => ⟨h1, h2 ▸ Below.refl _ _⟩))
  have C1 := Lib.hid (fun d os => Calls.regrown_of ((WSectors_any (Sort.grow (redrawn (w.alloc (.cells #[.pointer (some ⟨gl, 0, none⟩)] 49)) d) os) A m cp (by omega)).mono fun e w' ⟨h1, h2⟩ => ⟨h1, h2 ▸ Below.refl _ _⟩))
  obtain ⟨sn, hsn⟩ : ∃ sn, secN m = sn := ⟨_, rfl⟩
  rw [hsn] at hf C1
  have hlt : (room : Int) < (sn : Int) := by omega
  have h1' : ¬ (m : Int) < 1 := by omega
  have h2' : ¬ (20000 : Int) < (m : Int) := by omega
  have HW := Lib.hid hw
  have HD := Lib.hid hD
  have HL := Lib.hid hL
  have HSN := Lib.hid hsn
  have HROOM := Lib.hid hroom
  clear hw hD hL hsn hroom
  clear d0 d2 ht ha hf
  go_enter Try.func27, Try.ntmps27
  go_wp2_with fail
  refine wp_region_quiet_below (by kernel_rfl) (by kernel_rfl) ?_
  repeat ((with_reducible refine wpQuiet_step (fun K hK => ?_)); go_simp; first | (with_reducible refine hK _ ?_; clear hK K) | (rw [if_neg (by decide)]; with_reducible refine hK _ ?_; clear hK K) | (apply Exists.intro; refine ⟨fun _ => ?_, hK _ ?_⟩; (first | with_reducible exact (C0.out _ _) | with_reducible exact (C1.out _ _)); clear hK K))
  with_reducible refine wpQuiet_nil ?_
  intro _ hw'
  obtain ⟨⟨dq, osq⟩, hw''⟩ := hw'
  subst hw''
  have hb3 := below_regrown (w.alloc (.cells #[.pointer (some ⟨gl, 0, none⟩)] 49)) dq osq
  generalize Sort.grow (redrawn (w.alloc (.cells #[.pointer (some ⟨gl, 0, none⟩)] 49)) dq) osq = w3 at *
  clear C0 C1 q0 q2 qb
  go_wp2_with fail
  refine bodyPost_ret (results_tmp rfl _ _ _) rfl ?_
  exact ⟨rfl, below_then (below_alloc _ _) hb3⟩
theorem calls_of_wp_marks {P : Program} {f : FuncId} {fn : Func} {c : Code} {args : Array Value} {w : World} {R : Ending → World → Prop} (hf : P.funcs[f]? = some fn) (hb : fn.body = some c)
    (h : c.wp P (bodyPostM Fence.wide 3 P fn R) { tmps := args ++ Array.replicate (fn.ntmps - args.size) undef, defers := [] } w) : Calls P f args w R :=
  callsIn_wide.1 (callsIn_of_wp_marks (F := Fence.wide) (n := 3) hf hb trivial (wpIn_wide.2 h))
theorem keepsFrom_tr {M : Nat → Prop} {c : Col} {W0 W W' : World} (hw : Wf c W0) (t : Tr M c c W W') : KeepsFrom W0.heap.size W W' :=
  ⟨t.size, fun k o hB hk _ => (t.cold k (Array.getElem?_eq_some_iff.1 hk).1 (fun g hg => by rw [hw.fresh hB] at hg; cases hg)).trans hk⟩
theorem kpc_tr {M : Nat → Prop} {c : Col} {W W' : World} {bs bn : Nat} (t : Tr M c c W W') (h1 : c bs = none) (h2 : c bn = none) (l1 : bs < W.heap.size) (l2 : bn < W.heap.size) : KpC bs bn W W' :=
  ⟨World.cell?_of_block (a := ⟨bs, 0, none⟩) (t.cold bs l1 (fun g hg => by rw [h1] at hg; cases hg)), World.cell?_of_block (a := ⟨bn, 0, none⟩) (t.cold bn l2 (fun g hg => by rw [h2] at hg; cases hg))⟩
def noDeferB (o : Oper) : Bool := match o.op with
  | .defer _ => false
  | _ => true
theorem noDefer_spec {ops : Array Oper} (h : ops.toList.all noDeferB = true) : ∀ (j : Nat) (o : Oper) c, ops[j]? = some o → o.op ≠ .defer c := by
  intro j o c hj e
  have h1 := List.all_eq_true.1 h o (by rw [Array.mem_toList_iff]; exact Array.mem_of_getElem? hj)
  unfold noDeferB at h1
  rw [e] at h1
  cases h1
theorem Dk.same {w w' : World} {c : Col} {g n : Nat} {Y : List (List UInt8)} {D : Dt} {N : Nat} (h : Dk w c g n Y D N) (hb : ∀ k, c k = some g → w'.heap[k]? = w.heap[k]?) : Dk w' c g n Y D N := by
  obtain ⟨hg, A, cp, m, h1, h2, h3, h4, h5⟩ := h
  exact ⟨hg, A, cp, m, by rw [hb g hg]; exact h1, h2, h3.same (hb m h2), ⟨own_same h4.1 (fun k hk => hb k (h4.2 k hk)), h4.2⟩, h5⟩
/-- A block that lies behind where this began is turned, and nobody owns it. -/
theorem Tr.grownFar {M : Nat → Prop} {c : Col} {w w1 w2 : World} {row : Option Nat} (h : Tr M c c w w1) (hg : w1.grownBy w2 row) (hr : ∀ k, row = some k → w.heap.size ≤ k) : Tr M c c w w2 := by
  refine ⟨hg.os.trans h.os, hg.tape.trans h.tape, hg.output.trans h.output, Nat.le_trans h.size hg.size, h.wf0, fun k g hk => ?_, fun _ _ => rfl, fun k g hk hc => by have := (h.wf0 k g hc).1; omega, fun k hk hn => ?_⟩
  · obtain ⟨a1, a2⟩ := h.wf k g hk
    have := hg.size
    exact ⟨by omega, by omega⟩
  · rw [hg.block k (by have := h.size; omega) (fun e => by have := hr k e.symm; omega)]
    exact h.cold k hk hn
theorem putI_own {M : Nat → Prop} {W0 : World} {c : Col} {gl g n num : Nat} {Y : List (List UInt8)} (f : List Nat → Dt) (h : List Nat → Nat) (k : List Nat → Nat) :
    OwnFrom W0.heap.size (fun (pre : List Nat) W => Hid (Tr M c c W0 W) ∧ Hid (Dk W c g n Y (f pre) (h pre)) ∧ Hid (Lg W c gl g num (k pre))) := by
  rintro s A B row ⟨h1, h2, h3⟩ hg hr
  have hlow : ∀ j r, c j = some r → B.heap[j]? = A.heap[j]? := fun j r hj => hg.block j (by have := (h1.out.wf j r hj).1; omega) (fun e => by
    have a1 := (hr j e.symm).1
    have a2 := (h1.out.wf0 j r hj).1
    omega)
  exact ⟨h1.out.grownFar hg (fun k hk => (hr k hk).1), h2.out.same (fun j hj => hlow j g hj), ⟨h3.out.1, (hlow gl gl h3.out.1).trans h3.out.2⟩⟩
/-- The pieces written so far, whichever came. -/
def putL (D : Dt) (used : Nat) (bs : List UInt8) : List Nat → Nat → Dt
  | [], _ => D
  | x :: xs, i => putL (D.put ((used + i : Nat) : Int) (pad (chunk64 bs x))) used bs xs (i + 1)
theorem putL_snoc (used : Nat) (bs : List UInt8) (x : Nat) : ∀ (pre : List Nat) (D : Dt) (i : Nat), putL D used bs (pre ++ [x]) i = (putL D used bs pre i).put ((used + (i + pre.length) : Nat) : Int) (pad (chunk64 bs x))
  | [], D, i => by simp [putL]
  | y :: ys, D, i => by
    show putL (D.put _ _) used bs (ys ++ [x]) (i + 1) = _
    rw [putL_snoc used bs x ys _ (i + 1)]
    show _ = (putL (D.put _ _) used bs ys (i + 1)).put _ _
    congr 2
    simp only [List.length_cons]
    omega
theorem putL_range (D : Dt) (used : Nat) (bs : List UInt8) : ∀ q, putL D used bs (List.range q) 0 = putD D used bs q
  | 0 => rfl
  | q + 1 => by
    rw [List.range_succ, putL_snoc, putL_range D used bs q, List.length_range, Nat.zero_add]
    rfl
theorem rd_piece {w : World} {c : Col} {b off n cp : Nat} {bs : List UInt8} (h : Rd kU8 w c (some ⟨b, off, none⟩) n cp bs) (x : Nat) : Rd kU8 w c (some ⟨b, off + 64 * x, none⟩) (min 64 (n - 64 * x)) (min 64 (n - 64 * x)) (chunk64 bs x) := by
  have hl := h.1
  have hcl : (chunk64 bs x).length = min 64 (n - 64 * x) := by
    unfold chunk64
    rw [List.length_take, List.length_drop, hl]
  refine ⟨hcl, Nat.le_refl _, by simp only [maxLen]; omega, fun hp => ?_⟩
  obtain ⟨b', off', e, hb, hc, hx⟩ := h.2.2.2 (by omega)
  cases e
  refine ⟨b, off + 64 * x, rfl, hb, hc, fun j y hj => ?_⟩
  have hj2 : bs[64 * x + j]? = some y := by
    unfold chunk64 at hj
    rw [List.getElem?_take] at hj
    split at hj
    · rw [List.getElem?_drop] at hj
      exact hj
    · cases hj
  obtain ⟨cs, hr, hcs⟩ := hx _ y hj2
  refine ⟨cs, hr, fun i u hi => ?_⟩
  have := hcs i u hi
  rw [show off + 64 * x + (j * kU8.sz + i) = off + ((64 * x + j) * kU8.sz + i) by simp [kU8]; omega]
  exact this
set_option maxRecDepth 100000 in
set_option maxHeartbeats 8000000 in
theorem WPut_ok (w : World) (c : Col) (gl g n num used : Nat) (Y : List (List UInt8)) (D : Dt) (N : Nat) (A : Option Addr) (m cp : Nat) (b : List UInt8) (h1 : 1 ≤ m) (h2 : m ≤ 20000) (hnum : num ≤ 100000) (hN : N ≤ 900000) (hf : used + secN m ≤ n) (hgg : gl ≠ g) (hw : Wf c w) (hD : Dk w c g n Y D N) (hL : Lg w c gl g num used) (hx : Rd kU8 w c A m cp b) :
    Calls Try.prog 27 #[.pointer (some ⟨gl, 0, none⟩), .slice A m cp] w fun e w' => e = .returned (.int .i64 0) ∧ ∃ c', Tr (fun r => r = gl ∨ r = g) c c' w w' ∧ Dk w' c' g n Y (putD D used (recB b num) (secN m)) (N + secN m) ∧ Lg w' c' gl g (num + 1) (used + secN m) := by
  have hbl := hx.len
  have hn8 : n ≤ 4096 := by obtain ⟨_, _, _, _, _, _, _, _, _, _, _, h⟩ := hD; exact h
  have d0 := blk_cell0 hL.2
  have d2 := blk_cell2 hL.2
  obtain ⟨room, hroom⟩ : ∃ room : Nat, room = n - used := ⟨_, rfl⟩
  have hwr : IntKind.i64.wrap ((n : Int) - (used : Int)) = (room : Int) := i64_id (by omega) (by omega)
  have ha := below_alloc w (.cells #[.pointer (some ⟨gl, 0, none⟩)] 49)
  have ht := Tr.of_below (M := fun _ => False) hw ha
  have q0 := cell_regrown ((ha.cell (p := ⟨gl, 0, none⟩) (block_lt_of_cell d0)).trans d0)
  have q2 := cell_regrown ((ha.cell (p := ⟨gl, 2, none⟩) (block_lt_of_cell d2)).trans d2)
  have qb := cell_regrown (blk_cell0 (heap_alloc_new w (.cells #[.pointer (some ⟨gl, 0, none⟩)] 49)))
  have C0 := Lib.hid (fun d os => Calls.regrown_of ((KLen_any (Sort.grow (redrawn (w.alloc (.cells #[.pointer (some ⟨gl, 0, none⟩)] 49)) d) os) c g n Y D N ((hD.tr ht (fun h => h)).tr (Tr.of_below (M := fun _ => False) ht.wf (below_regrown _ d os)) (fun h => h))).mono fun e w' ⟨h1, h2⟩ => ⟨h1, h2 ▸ Below.refl _ _⟩))
  have C1 := Lib.hid (fun d os => Calls.regrown_of ((WSectors_any (Sort.grow (redrawn (w.alloc (.cells #[.pointer (some ⟨gl, 0, none⟩)] 49)) d) os) A m cp (by omega)).mono fun e w' ⟨h1, h2⟩ => ⟨h1, h2 ▸ Below.refl _ _⟩))
  obtain ⟨sn, hsn⟩ : ∃ sn, secN m = sn := ⟨_, rfl⟩
  have hs1 : 12 + m ≤ 64 * sn ∧ 64 * sn < 12 + m + 64 := by rw [← hsn]; unfold secN; omega
  rw [hsn] at hf C1 ⊢
  have hlt : ¬ (room : Int) < (sn : Int) := by omega
  have h1' : ¬ (m : Int) < 1 := by omega
  have h2' : ¬ (20000 : Int) < (m : Int) := by omega
  have HW := Lib.hid hw
  have HD := Lib.hid hD
  have HL := Lib.hid hL
  have HSN := Lib.hid hsn
  have HROOM := Lib.hid hroom
  have HX := Lib.hid hx
  have HBL := Lib.hid hbl
  have HS1 := Lib.hid hs1
  clear hw hD hL hsn hroom hx hbl hs1
  clear ht ha
  refine calls_of_wp_marks Try.func27 rfl ?_
  simp only [Try.ntmps27, List.size_toArray, List.length_cons, List.length_nil, Nat.reduceAdd, Nat.reduceSub, Array.replicate_succ, Array.replicate_zero, List.push_toArray, List.append_toArray, List.nil_append, List.cons_append]
  go_wp2_with fail
  refine wp_region_quiet_below (by kernel_rfl) (by kernel_rfl) ?_
  repeat ((with_reducible refine wpQuiet_step (fun K hK => ?_)); go_simp; first | (with_reducible refine hK _ ?_; clear hK K) | (rw [if_neg (by decide)]; with_reducible refine hK _ ?_; clear hK K) | (apply Exists.intro; refine ⟨fun _ => ?_, hK _ ?_⟩; (first | with_reducible exact (C0.out _ _) | with_reducible exact (C1.out _ _)); clear hK K))
  with_reducible refine wpQuiet_nil ?_
  intro _ hw'
  obtain ⟨⟨dq, osq⟩, hw''⟩ := hw'
  subst hw''
  have hb3 := below_regrown (w.alloc (.cells #[.pointer (some ⟨gl, 0, none⟩)] 49)) dq osq
  have hbx := (hb3.block w.heap.size (by simp)).trans (heap_alloc_new w (.cells #[.pointer (some ⟨gl, 0, none⟩)] 49))
  have hsz3 := hb3.size
  have HB3 := Lib.hid (below_then (below_alloc w (.cells #[.pointer (some ⟨gl, 0, none⟩)] 49)) hb3)
  generalize Sort.grow (redrawn (w.alloc (.cells #[.pointer (some ⟨gl, 0, none⟩)] 49)) dq) osq = w3 at *
  have hsz3' : w.heap.size < w3.heap.size := by simp at hsz3; omega
  clear C0 C1 q0 q2 qb hsz3 hb3 d0 d2
  have hT3 := Tr.of_below (M := fun _ => False) HW.out HB3.out
  have HD3 := Lib.hid (HD.out.tr hT3 (fun h => h))
  have HL3 := Lib.hid (HL.out.tr hT3 (fun h => h))
  have HX3 := Lib.hid (HX.out.tr hT3)
  have HT3 := Lib.hid hT3
  have hcb : c w.heap.size = none := HW.out.fresh (Nat.le_refl _)
  have HBX := Lib.hid hbx
  have hwn := Wr_new w3 c hT3.wf
  have HT4 := Lib.hid hwn.1
  have HW4 := Lib.hid hwn.2
  clear hwn hT3 hbx
  go_wp2_with fail
  refine (Num_good _ (c.set w3.heap.size w3.heap.size) w3.heap.size [] (m : Int) 4 (by omega) (by omega) (by omega) (by simp) HT4.out.wf HW4.out).mono ?_
  rintro e w5 ⟨rfl, c5, q_HT5, q_HW5⟩
  have HT5 := Lib.hid q_HT5
  have HW5 := Lib.hid q_HW5
  clear q_HT5 q_HW5
  have HTa := Lib.hid (HT4.out.low HT5.out (Nat.le_refl _))
  have HLa := Lib.hid (HL3.out.tr HTa.out (fun h => h))
  have HXa := Lib.hid (HX3.out.tr HTa.out)
  have g0 := blk_cell0 HLa.out.2
  have g1 := blk_cell1 HLa.out.2
  have hBXa : w5.heap[w.heap.size]? = some (.cells #[.pointer (some ⟨gl, 0, none⟩)] 49 (0, 0)) := (HTa.out.cold _ hsz3' (fun r hr => by rw [hcb] at hr; cases hr)).trans HBX.out
  have gb := blk_cell0 hBXa
  have HBXa := Lib.hid hBXa
  clear hBXa
  go_wp2_with fail
  refine (WSum_any w5 c5 A m cp b num (by omega) (by omega) HTa.out.wf HXa.out).mono ?_
  rintro e w6 ⟨A6, cp6, rfl, q_HR6, q_HB6⟩
  have HR6 := Lib.hid q_HR6
  have HB6 := Lib.hid q_HB6
  clear q_HR6 q_HB6
  have HW6 := Lib.hid (HW5.out.tr (Tr.of_below (M := fun _ => False) HTa.out.wf HB6.out) (fun h => h))
  have HT6 := Lib.hid (Tr.of_below (M := fun _ => False) HTa.out.wf HB6.out)
  have HMS : Hid (([] ++ numB (m : Int).toNat (4 : Int).toNat ++ sumF b num ++ b : List UInt8) = recB b num) := by
    show _ = _
    unfold recB
    rw [HBL.out]
    rfl
  have hl6 : ([] ++ numB (m : Int).toNat (4 : Int).toNat : List UInt8).length = 4 := by simp [numB_length]
  have hl7 := sumF_len b num
  go_wp2_with fail
  refine (Raw_any _ c5 w3.heap.size _ (sumF b num) A6 8 cp6 (by rw [hl6, hl7]; omega) HT6.out.wf HW6.out HR6.out).mono ?_
  rintro e w7 ⟨rfl, c7, q_HT7, q_HW7⟩
  have HT7 := Lib.hid q_HT7
  have HW7 := Lib.hid q_HW7
  clear q_HT7 q_HW7
  have HTb := Lib.hid ((HTa.out.then HT6.out).low HT7.out (Nat.le_refl _))
  have HXb := Lib.hid (HX3.out.tr HTb.out)
  go_wp2_with fail
  refine (Raw_any _ c7 w3.heap.size _ b A m cp (by rw [List.length_append, hl6, hl7, HBL.out]; omega) HTb.out.wf HW7.out HXb.out).mono ?_
  rintro e w8 ⟨rfl, c8, q_HT8, q_HW8⟩
  have HT8 := Lib.hid q_HT8
  have HW8 := Lib.hid q_HW8
  clear q_HT8 q_HW8
  have HTc := Lib.hid (HTb.out.low HT8.out (Nat.le_refl _))
  have hW8 := HW8.out
  rw [HMS.out] at hW8
  have hrl := recB_len b num
  rw [HBL.out] at hrl
  go_wp2_with fail
  refine (Bytes_any w8 c8 w3.heap.size _ (by rw [hrl]; omega) HTc.out.wf hW8).mono ?_
  rintro e w9 ⟨A9, n9, cp9, rfl, q_HR9, q_HB9⟩
  have HR9 := Lib.hid q_HR9
  have HB9 := Lib.hid q_HB9
  clear q_HR9 q_HB9
  have hn9 : n9 = 12 + m := by rw [← HR9.out.len]; exact hrl
  have HT9 := Lib.hid (HTc.out.then (Tr.of_below HTc.out.wf HB9.out))
  subst hn9
  go_wp2_with fail
  refine (Chunk_any w9 A9 (12 + m) cp9).mono ?_
  rintro e w10 ⟨rfl, rfl⟩
  obtain ⟨b9, o9, rfl⟩ := HR9.out.addr (by omega)
  go_wp2_with fail
  have hT0 := (HT9.out.alloc (.cells #[.slice (some ⟨b9, o9, none⟩) (12 + m) cp9] 23)).alloc (.cells #[.int .i64 64] 3)
  have hb90 := heap_alloc_new w9 (.cells #[.slice (some ⟨b9, o9, none⟩) (12 + m) cp9] 23)
  have hb91 := heap_alloc_new (w9.alloc (.cells #[.slice (some ⟨b9, o9, none⟩) (12 + m) cp9] 23)) (.cells #[.int .i64 64] 3)
  have hb90' := (Below.heap_alloc (w9.alloc (.cells #[.slice (some ⟨b9, o9, none⟩) (12 + m) cp9] 23)) (.cells #[.int .i64 64] 3) w9.heap.size (by simp)).trans hb90
  have hsz : ((w9.alloc (.cells #[.slice (some ⟨b9, o9, none⟩) (12 + m) cp9] 23)).alloc (.cells #[.int .i64 64] 3)).heap.size = w9.heap.size + 2 := by simp
  have hs1' : (w9.alloc (.cells #[.slice (some ⟨b9, o9, none⟩) (12 + m) cp9] 23)).heap.size = w9.heap.size + 1 := by simp
  rw [hs1'] at hb91
  have hR0 := HR9.out.below (below_then (below_alloc w9 (.cells #[.slice (some ⟨b9, o9, none⟩) (12 + m) cp9] 23)) (below_alloc _ (.cells #[.int .i64 64] 3)))
  generalize (w9.alloc (.cells #[.slice (some ⟨b9, o9, none⟩) (12 + m) cp9] 23)).alloc (.cells #[.int .i64 64] 3) = W0 at *
  clear hs1' hb90
  have hD0 := HD3.out.tr hT0 (fun h => h)
  have hL0 := HL3.out.tr hT0 (fun h => h)
  have hc8 : c8 w.heap.size = none := (hT0.col _ hsz3').trans hcb
  have hbx0 : W0.heap[w.heap.size]? = some (.cells #[.pointer (some ⟨gl, 0, none⟩)] 49 (0, 0)) := (hT0.cold _ hsz3' (fun r hr => by rw [hcb] at hr; cases hr)).trans HBX.out
  have hsz0 := hT0.size
  have hcs := blk_cell0 hb90'
  have hcn := blk_cell0 hb91
  have hb9l : w9.heap.size < W0.heap.size := by omega
  have hb9m : w9.heap.size + 1 < W0.heap.size := by omega
  have hbxl := blk_lt hbx0
  have hgll := blk_lt hL0.2
  have hc9 : c8 w9.heap.size = none := HT9.out.wf.fresh (Nat.le_refl _)
  have hc9' : c8 (w9.heap.size + 1) = none := HT9.out.wf.fresh (by omega)
  obtain ⟨bx, hbxe⟩ : ∃ bx, w.heap.size = bx := ⟨_, rfl⟩
  obtain ⟨q9, hq9⟩ : ∃ q9, w9.heap.size = q9 := ⟨_, rfl⟩
  rw [hbxe] at hc8 hbx0 hbxl
  rw [hq9] at hcs hcn hb9l hb9m hc9 hc9'
  rw [hbxe, hq9]
  obtain ⟨bs, hbs⟩ : ∃ bs, recB b num = bs := ⟨_, rfl⟩
  rw [hbs] at hR0
  have HS1x := HS1.out
  have hcap := HR9.out.2.1
  have hcm := HR9.out.2.2.1
  have HT0 := Lib.hid hT0
  have HD0 := Lib.hid hD0
  have HL0 := Lib.hid hL0
  have HR0 := Lib.hid hR0
  have HBX0 := Lib.hid hbx0
  have hI0 : Hid (Tr (fun r => r = gl ∨ r = g) c8 c8 W0 W0) ∧ Hid (Dk W0 c8 g n Y (putL D used bs [] 0) (N + ([] : List Nat).length)) ∧ Hid (Lg W0 c8 gl g num (used + ([] : List Nat).length)) := ⟨Tr.refl _ hT0.wf, hD0, hL0⟩
  clear hT0 hD0 hL0 hR0 hbx0 hb90' hb91 gb g0 g1
  have HBXE := Lib.hid hbxe
  have HQ9 := Lib.hid hq9
  have HBS := Lib.hid hbs
  clear hbxe hq9 hbs
  clear HB9 HR9 HW8 HTc HXb HTb HW7 HR6 HB6 HW6 HT6 HXa HLa HTa HW5 HT5 HW4 HT4 HBXa HT7 HT8 HX hW8 hl6 hl7 hrl
  refine wpIn_wide (n := 3) |>.1 ?_
  refine wpIn_rangeFunc_ownG (F := Fence.wide) (n := 3) rfl (by omega) (gf := 64) (lb := #[.pointer (some ⟨q9, 0, none⟩), .pointer (some ⟨q9 + 1, 0, none⟩)]) rfl trivial (enters_of Try.func64 (by kernel_rfl) rfl)
    (Chunk1_stops Fence.wide 2 trivial rfl (by omega) q9 (q9 + 1) b9 o9 (12 + m) cp9 sn HS1x.1 (by omega) (by omega) hcap hcm W0 hb9l hb9m hcs hcn)
    (fun h k => h.trans k) (fun W l o o' hl h _ _ => KpC.put hb9l hb9m W l o o' hl h) (Below.refl _ _) (fun _ => rfl)
    (fun pre W => Hid (Tr (fun r => r = gl ∨ r = g) c8 c8 W0 W) ∧ Hid (Dk W c8 g n Y (putL D used bs pre 0) (N + pre.length)) ∧ Hid (Lg W c8 gl g num (used + pre.length)))
    (fun _ _ _ => False) (putI_own _ _ _) (fun _ _ _ _ _ h _ _ => h) hI0
    (fun x => { tmps := #[.pointer (some ⟨gl, 0, none⟩), .slice A m cp, .pointer (some ⟨bx, 0, none⟩), undef, .int .i64 0, .pointer (some ⟨w3.heap.size, 0, none⟩), pieceV b9 o9 (12 + m) x, .bool false,
      .pointer (some ⟨gl, 0, none⟩), .bool false, .bool false, .slice A m cp, .int .i64 (m : Int), .bool false, .bool false, .bool false, .slice A m cp, .int .i64 (m : Int), .bool false, .bool false, .bool false, .slice A m cp,
      .int .i64 (sn : Int), .pointer (some ⟨gl, 0, none⟩), .pointer (some ⟨gl, 0, none⟩), .pointer (some ⟨gl, 0, none⟩), .pointer (some ⟨g, 0, none⟩), .int .i64 (n : Int), .pointer (some ⟨gl, 0, none⟩), .pointer (some ⟨gl, 0, none⟩),
      .pointer (some ⟨gl, 2, none⟩), .int .i64 (used : Int), .int .i64 (room : Int), .bool false, .slice A m cp, .int .i64 (m : Int), .int .u64 (m : Int), .tuple #[], .slice A m cp, .pointer (some ⟨gl, 0, none⟩),
      .pointer (some ⟨gl, 0, none⟩), .pointer (some ⟨gl, 1, none⟩), .int .i64 (num : Int), .slice A6 8 cp6, .tuple #[], .slice A m cp, .tuple #[], .slice (some ⟨b9, o9, none⟩) (12 + m) cp9,
      .func (.func 64) #[] #[.pointer (some ⟨q9, 0, none⟩), .pointer (some ⟨q9 + 1, 0, none⟩)], pieceV b9 o9 (12 + m) x,
      undef, undef, undef, undef, undef, undef, undef, undef, undef, undef, undef, undef, undef, undef, undef, undef, undef, undef, undef, undef, undef, undef, undef, undef], defers := [] }) ?assign ?body ?done ?stop
  case assign =>
    intro l x W K hK
    gi_wp2
    exact hK
  case stop =>
    rintro D c pre W _ _ h _
    exact h.elim
  case body =>
    rintro l pre x W ⟨HTP, HDP, HLP⟩ hlen
    have e0 := blk_cell0 ((HTP.out.cold bx hbxl (fun r hr => by rw [hc8] at hr; cases hr)).trans HBX0.out)
    have e1 := blk_cell0 HLP.out.2
    have e2 := blk_cell2 HLP.out.2
    have hgW := blk_lt HLP.out.2
    have hbxW : bx < W.heap.size := by have := HTP.out.size; omega
    have td := (Tr.refl (fun _ => False) HTP.out.wf).drew
    have hkw := KWrite_okc W.drew c8 g n Y _ (N + pre.length) (used + pre.length) _ _ _ (chunk64 bs x) (by omega) (by omega) (by omega) td.wf (HDP.out.tr td (fun h => h)) ((rd_piece (HR0.out.tr HTP.out) x).tr td)
    obtain ⟨u, hu⟩ : ∃ u, used + pre.length = u := ⟨_, rfl⟩
    rw [hu] at hkw e2
    obtain ⟨u1, hu1⟩ : ∃ u1 : Nat, u1 = u + 1 := ⟨_, rfl⟩
    have hw1 : IntKind.i64.wrap ((u : Int) + 1) = (u1 : Int) := by rw [hu1]; exact wrap_succ u (by omega)
    have HPS := Lib.hid (putL_snoc used bs x pre D 0)
    have HKW := Lib.hid hkw
    have HU := Lib.hid hu
    have HU1 := Lib.hid hu1
    clear hkw hu hu1
    refine wpIn_block ?_
    refine wpIn_seq_k (fun K hK => ?_)
    refine wpIn_region_held_round (S := fun w' => w'.cell? ⟨bx, 0, none⟩ = some (.pointer (some ⟨gl, 0, none⟩)) ∧ w'.cell? ⟨gl, 0, none⟩ = some (.pointer (some ⟨g, 0, none⟩)) ∧ w'.cell? ⟨gl, 2, none⟩ = some (.int .i64 (u : Int))) l _ (by kernel_rfl) (noDefer_spec (by kernel_rfl)) (by rintro ⟨_, _, h⟩; exact h) ⟨e0, e1, e2⟩ (fun hHeld => ?_)
    refine wpAnyH_take (i := 0) (v := ?_) rfl (by kernel_rfl) (by kernel_rfl) (by kernel_rfl) (fun _ _ _ h => h) (Or.inl ⟨by rfl, ?_⟩) hHeld ?_
    rotate_left 1
    focus (intro w hSw; (try dsimp only at hSw); go_simp; try with_reducible rfl)
    try simp only [Act.put, List.setIfInBounds_toArray, List.set_cons_zero, List.set_cons_succ]
    refine wpAnyH_take (i := 1) (v := ?_) rfl (by kernel_rfl) (by kernel_rfl) (by kernel_rfl) (fun _ _ _ h => h) (Or.inl ⟨by rfl, ?_⟩) hHeld ?_
    rotate_left 1
    focus (intro w hSw; (try dsimp only at hSw); go_simp; try with_reducible rfl)
    try simp only [Act.put, List.setIfInBounds_toArray, List.set_cons_zero, List.set_cons_succ]
    refine wpAnyH_take (i := 2) (v := ?_) rfl (by kernel_rfl) (by kernel_rfl) (by kernel_rfl) (fun _ _ _ h => h) (Or.inl ⟨by rfl, ?_⟩) hHeld ?_
    rotate_left 1
    focus (intro w hSw; (try dsimp only at hSw); go_simp; try with_reducible rfl)
    try simp only [Act.put, List.setIfInBounds_toArray, List.set_cons_zero, List.set_cons_succ]
    refine wpAnyH_take (i := 3) (v := ?_) rfl (by kernel_rfl) (by kernel_rfl) (by kernel_rfl) (fun _ _ _ h => h) (Or.inl ⟨by rfl, ?_⟩) hHeld ?_
    rotate_left 1
    focus (intro w hSw; (try dsimp only at hSw); go_simp; try with_reducible rfl)
    try simp only [Act.put, List.setIfInBounds_toArray, List.set_cons_zero, List.set_cons_succ]
    refine wpAnyH_take (i := 4) (v := ?_) rfl (by kernel_rfl) (by kernel_rfl) (by kernel_rfl) (fun _ _ _ h => h) (Or.inl ⟨by rfl, ?_⟩) hHeld ?_
    rotate_left 1
    focus (intro w hSw; (try dsimp only at hSw); go_simp; try with_reducible rfl)
    try simp only [Act.put, List.setIfInBounds_toArray, List.set_cons_zero, List.set_cons_succ]
    refine wpAnyH_take (i := 5) (v := ?_) rfl (by kernel_rfl) (by kernel_rfl) (by kernel_rfl) (fun _ _ _ h => h) (Or.inl ⟨by rfl, ?_⟩) hHeld ?_
    rotate_left 1
    focus (intro w hSw; (try dsimp only at hSw); go_simp; try with_reducible rfl)
    try simp only [Act.put, List.setIfInBounds_toArray, List.set_cons_zero, List.set_cons_succ]
    refine wpAnyH_take (i := 6) (v := ?_) rfl (by kernel_rfl) (by kernel_rfl) (by kernel_rfl) (fun _ _ _ h => h) (Or.inl ⟨by rfl, ?_⟩) hHeld ?_
    rotate_left 1
    focus (intro w hSw; (try dsimp only at hSw); go_simp; try with_reducible rfl)
    try simp only [Act.put, List.setIfInBounds_toArray, List.set_cons_zero, List.set_cons_succ]
    refine wpAnyH_take (i := 7) (v := ?_) rfl (by kernel_rfl) (by kernel_rfl) (by kernel_rfl) (fun _ _ _ h => h) (Or.inl ⟨by rfl, ?_⟩) hHeld ?_
    rotate_left 1
    focus (intro w hSw; (try dsimp only at hSw); go_simp; try with_reducible rfl)
    try simp only [Act.put, List.setIfInBounds_toArray, List.set_cons_zero, List.set_cons_succ]
    refine wpAnyH_take (i := 8) (v := ?_) rfl (by kernel_rfl) (by kernel_rfl) (by kernel_rfl) (fun _ _ _ h => h) (Or.inl ⟨by rfl, ?_⟩) hHeld ?_
    rotate_left 1
    focus (intro w hSw; (try dsimp only at hSw); go_simp; try with_reducible rfl)
    try simp only [Act.put, List.setIfInBounds_toArray, List.set_cons_zero, List.set_cons_succ]
    refine wpAnyH_ready (rs := [9]) (by kernel_rfl) (by simp) ?_
    refine AllReadyH.cons rfl (fun K2 hK2 => ?_) AllReadyH.nil
    go_simp
    refine (HKW.out).mono ?_
    rintro e W2 ⟨rfl, hT2, hD2⟩
    have hTW2 : Tr (fun r => r = gl ∨ r = g) c8 c8 W W2 := (Tr.refl _ HTP.out.wf).drew.then (hT2.mono (fun r _ h => .inr h))
    have hT02 := HTP.out.then hTW2
    have b0 := blk_cell0 ((hT02.cold bx hbxl (fun r hr => by rw [hc8] at hr; cases hr)).trans HBX0.out)
    have hl2 := (HLP.out.tr td (fun h => h)).tr hT2 hgg
    rw [HU.out] at hl2
    have b1 := blk_cell0 hl2.2
    have b2 := blk_cell2 hl2.2
    have f2 := blk_free hl2.2 2
    dsimp only
    refine hK2.out _ _ ⟨b0, b1, b2⟩ (fun hHeld2 => ?_)
    have HTW2 := Lib.hid hTW2
    have HL2 := Lib.hid hl2
    have HD2 := Lib.hid hD2
    clear hHeld hHeld2 hK2 K2 hTW2 hT02 hl2 hT2 hD2 td e0 e1 e2
    refine wpAnyH_done (by kernel_rfl) ?_ _
    refine hK _ _ ?_
    clear hK K
    gi_wp2
    have hcg : c8 gl = some gl := HL2.out.1
    have ht9 := HTW2.out.setCell (p := ⟨gl, 2, none⟩) hcg (.inl (.inl rfl)) (.int .i64 (u1 : Int))
    refine ⟨keepsFrom_tr HTP.out.wf0 ht9, kpc_tr ht9 hc9 hc9' (by have := HTP.out.size; omega) (by have := HTP.out.size; omega), HTP.out.then ht9, ?_, hcg, ?_⟩
    · have hd := Dk.same HD2.out (w' := W2.setCell ⟨gl, 2, none⟩ (.int .i64 (u1 : Int))) (fun k hk => heap_of_setCell _ _ _ _ (by
        intro e
        rw [show k = gl from e, hcg] at hk
        exact hgg (Option.some.inj hk)))
      rw [HPS.out, Nat.zero_add, HU.out, List.length_append, List.length_singleton, ← Nat.add_assoc]
      exact hd
    · have hb := blk_set HL2.out.2 2 (.int .i64 (u1 : Int))
      rw [List.length_append, List.length_singleton, ← Nat.add_assoc, HU.out, ← HU1.out]
      exact hb
  case done =>
    rintro D2 xs W hD2 rfl ⟨HTP, HDP, HLP⟩ hK
    have e0 := blk_cell0 ((HTP.out.cold bx hbxl (fun r hr => by rw [hc8] at hr; cases hr)).trans HBX0.out)
    have e1 := blk_cell1 HLP.out.2
    have f1 := blk_free HLP.out.2 1
    obtain ⟨n1, hn1⟩ : ∃ n1 : Nat, n1 = num + 1 := ⟨_, rfl⟩
    have hw1 : IntKind.i64.wrap ((num : Int) + 1) = (n1 : Int) := by rw [hn1]; exact wrap_succ num (by omega)
    have HK := Lib.hid hK
    clear hK
    have HN1 := Lib.hid hn1
    clear hn1
    go_wp2_with fail
    have hcg : c8 gl = some gl := HLP.out.1
    have hg0 := (HTP.out.wf0 gl gl hcg).1
    have hk1 : (W.setCell ⟨gl, 1, none⟩ (.int .i64 (n1 : Int))).heap[D2]? = some (.deferred (some [])) := (heap_of_setCell _ _ _ _ (by show D2 ≠ gl; omega)).trans HK.out
    refine ⟨by simp, .inl ⟨_, _, rfl, run_takeDeferred hk1, ?_⟩⟩
    have hgr := grownBy_putObj' (W.setCell ⟨gl, 1, none⟩ (.int .i64 (n1 : Int))) D2 (.deferred none)
    have ht1 := (HTP.out.setCell (p := ⟨gl, 1, none⟩) hcg (.inl (.inl rfl)) (.int .i64 (n1 : Int))).grownFar hgr (fun k e => by cases e; exact hD2)
    have hlow : ∀ j r, c8 j = some r → ((W.setCell ⟨gl, 1, none⟩ (.int .i64 (n1 : Int))).putObj D2 (.deferred none)).heap[j]? = (W.setCell ⟨gl, 1, none⟩ (.int .i64 (n1 : Int))).heap[j]? := fun j r hj => World.putObj_heap_other (by have := (HTP.out.wf0 j r hj).1; omega)
    have hlen := List.length_range (n := sn)
    refine ⟨_, results_tmp rfl _ _ _, rfl, c8, ((HT3.out.then HT0.out).mono (M' := fun r => r = gl ∨ r = g) (fun r _ h => h.elim)).then ht1, ?_, hcg, ?_⟩
    · have hd := HDP.out
      rw [putL_range, hlen, ← HBS.out] at hd
      exact Dk.same hd (fun k hk => (hlow k g hk).trans (heap_of_setCell _ _ _ _ (by
        intro e
        rw [show k = gl from e, hcg] at hk
        exact hgg (Option.some.inj hk))))
    · have hb := (hlow gl gl hcg).trans (blk_set HLP.out.2 1 (.int .i64 (n1 : Int)))
      rw [hlen] at hb
      rw [← HN1.out]
      exact hb
end Go.Proofs.Ytalihocoekplgaa
