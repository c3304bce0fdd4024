/- sha: the document's block. -/
import Derived.Test.YtalihocoekplgaaShaD
set_option linter.unusedVariables false
set_option linter.unusedSimpArgs false
namespace Go.Proofs.Ytalihocoekplgaa
open Go.RowKit

theorem four_alloc (w : World) (o1 o2 o3 o4 : Obj) : ∃ W, (((w.alloc o1).alloc o2).alloc o3).alloc o4 = W ∧ W.heap[w.heap.size]? = some o1 ∧ W.heap[w.heap.size + 1]? = some o2 ∧ W.heap[w.heap.size + 2]? = some o3 ∧ W.heap[w.heap.size + 3]? = some o4 ∧ Below w.heap.size w W ∧ W.heap.size = w.heap.size + 4 := by
  have s1 : (w.alloc o1).heap.size = w.heap.size + 1 := by simp
  have s2 : ((w.alloc o1).alloc o2).heap.size = w.heap.size + 2 := by simp
  have s3 : (((w.alloc o1).alloc o2).alloc o3).heap.size = w.heap.size + 3 := by simp
  have b2 := below_alloc (w.alloc o1) o2
  have b3 := below_alloc ((w.alloc o1).alloc o2) o3
  have b4 := below_alloc (((w.alloc o1).alloc o2).alloc o3) o4
  have h1 := heap_alloc_new w o1
  have h2 := heap_alloc_new (w.alloc o1) o2
  have h3 := heap_alloc_new ((w.alloc o1).alloc o2) o3
  have h4 := heap_alloc_new (((w.alloc o1).alloc o2).alloc o3) o4
  rw [s1] at h2
  rw [s2] at h3
  rw [s3] at h4
  refine ⟨_, rfl, ?_, ?_, ?_, h4, below_then (below_alloc w o1) (below_then b2 (below_then b3 b4)), by simp⟩
  · rw [b4.block _ (by omega), b3.block _ (by omega), b2.block _ (by omega)]
    exact h1
  · rw [b4.block _ (by omega), b3.block _ (by omega)]
    exact h2
  · rw [b4.block _ (by omega)]
    exact h3
theorem Src.keep2 {w w' : World} {g S : Nat} {A : Option Addr} {n cp : Nat} {xs : List UInt8} (h : Src w g S A n cp xs) (hS : S ≤ g) (hw : ∀ b, b < S → w'.heap[b]? = w.heap[b]?) : Src w' g S A n cp xs := by
  obtain ⟨h1, h2, h3, h4⟩ := h
  refine ⟨h1, h2, h3, fun hn => ?_⟩
  obtain ⟨bb, off, e, hb, ho, hr⟩ := h4 hn
  exact ⟨bb, off, e, hb, ho, range_below hr (hw bb hb)⟩
theorem u32_wrap (x : Int) : IntKind.u32.wrap x = x % 4294967296 := by
  have e1 : (2 : Int) ^ 32 = 4294967296 := by decide
  simp only [IntKind.wrap, IntKind.bits, IntKind.signed, Bool.false_and, e1]
  rfl
theorem rq {P : Program} {f : FuncId} {args : Array Value} {v : Value} (h : ∀ w, Calls P f args w fun e w' => e = .returned v ∧ w = w') (W : World) (d : Nat) (os : Array Obj) :
    Calls P f args (Sort.grow (redrawn W d) os) fun e w'' => e = .returned v ∧ ∃ p : Regrown, w'' = Sort.grow (redrawn W p.d) p.os :=
  Calls.regrown_of ((h _).mono fun e w' ⟨a, b⟩ => ⟨a, b ▸ Below.refl _ _⟩)
set_option maxRecDepth 100000 in
set_option maxHeartbeats 8000000 in
theorem RBlock_any (w : World) (A : Option Addr) (n cp : Nat) (xs : List UInt8) (hs : List Int) (at_ : Nat) (hl : hs.length = 8) (hat : at_ + 64 ≤ n) (hn : n ≤ 1000000000) (hx : Src w w.heap.size w.heap.size A n cp xs) :
    Calls Try.prog 69 #[.agg (ucells hs).toArray, .slice A n cp, .int .i64 (at_ : Int)] w fun e w' => e = .returned (.agg (ucells (blk hs (xs.drop at_))).toArray) ∧ Below w.heap.size w w' := by
  obtain ⟨C, hC⟩ : ∃ C, ucells kTab = C := ⟨_, rfl⟩
  have hCl : C.length = 64 := by rw [← hC]; rfl
  have hCa : ∀ (i : Nat) (k : Int), kTab[i]? = some k → C.toArray[i]? = some (Value.int .u32 k) := by
    intro i k h
    rw [← hC, List.getElem?_toArray]
    exact ucells_at h
  have hC1 : ∀ v ∈ C, v.oneCell' = true := fun v hv => ucells_one (hC ▸ hv)
  obtain ⟨H, hH⟩ : ∃ H, ucells hs = H := ⟨_, rfl⟩
  have hHl : H.length = 8 := by rw [← hH, ucells_len, hl]
  have hH1 : ∀ v ∈ H, v.oneCell' = true := fun v hv => ucells_one (hH ▸ hv)
  rw [hH]
  have hst := run_storeCells_new (P := Try.prog) ((w.alloc (.cells H.toArray 120)).alloc (.cells #[.int .u32 0, .int .u32 0, .int .u32 0, .int .u32 0, .int .u32 0, .int .u32 0, .int .u32 0, .int .u32 0] 120)) 135 #[.int .u32 0, .int .u32 0, .int .u32 0, .int .u32 0, .int .u32 0, .int .u32 0, .int .u32 0, .int .u32 0, .int .u32 0, .int .u32 0, .int .u32 0, .int .u32 0, .int .u32 0, .int .u32 0, .int .u32 0, .int .u32 0, .int .u32 0, .int .u32 0, .int .u32 0, .int .u32 0, .int .u32 0, .int .u32 0, .int .u32 0, .int .u32 0, .int .u32 0, .int .u32 0, .int .u32 0, .int .u32 0, .int .u32 0, .int .u32 0, .int .u32 0, .int .u32 0, .int .u32 0, .int .u32 0, .int .u32 0, .int .u32 0, .int .u32 0, .int .u32 0, .int .u32 0, .int .u32 0, .int .u32 0, .int .u32 0, .int .u32 0, .int .u32 0, .int .u32 0, .int .u32 0, .int .u32 0, .int .u32 0, .int .u32 0, .int .u32 0, .int .u32 0, .int .u32 0, .int .u32 0, .int .u32 0, .int .u32 0, .int .u32 0, .int .u32 0, .int .u32 0, .int .u32 0, .int .u32 0, .int .u32 0, .int .u32 0, .int .u32 0, .int .u32 0] C.toArray (by simp only [List.size_toArray, hCl]; kernel_rfl) (by simp only [List.size_toArray, hCl]; rfl) (all_oneCell_toArray hC1)
  have hsz2 : ((w.alloc (.cells H.toArray 120)).alloc (.cells #[.int .u32 0, .int .u32 0, .int .u32 0, .int .u32 0, .int .u32 0, .int .u32 0, .int .u32 0, .int .u32 0] 120)).heap.size = w.heap.size + 1 + 1 := by simp
  rw [hsz2] at hst
  clear hsz2
  have HCA := Lib.hid hCa
  have HC := Lib.hid hC
  have HH := Lib.hid hH
  have HX := Lib.hid hx
  clear hC hH hx
  clear hCa
  go_enter Try.func69, Try.ntmps69
  go_wp2_with (refine wpList_buildC rfl 135 _ rfl C.toArray (by rw [← HC.out]; kernel_rfl) ?_)
  obtain ⟨Z, hZl, hZ⟩ : ∃ Z : List Value, Z.length = 64 ∧ (#[.int .u32 0, .int .u32 0, .int .u32 0, .int .u32 0, .int .u32 0, .int .u32 0, .int .u32 0, .int .u32 0, .int .u32 0, .int .u32 0, .int .u32 0, .int .u32 0, .int .u32 0, .int .u32 0, .int .u32 0, .int .u32 0, .int .u32 0, .int .u32 0, .int .u32 0, .int .u32 0, .int .u32 0, .int .u32 0, .int .u32 0, .int .u32 0, .int .u32 0, .int .u32 0, .int .u32 0, .int .u32 0, .int .u32 0, .int .u32 0, .int .u32 0, .int .u32 0, .int .u32 0, .int .u32 0, .int .u32 0, .int .u32 0, .int .u32 0, .int .u32 0, .int .u32 0, .int .u32 0, .int .u32 0, .int .u32 0, .int .u32 0, .int .u32 0, .int .u32 0, .int .u32 0, .int .u32 0, .int .u32 0, .int .u32 0, .int .u32 0, .int .u32 0, .int .u32 0, .int .u32 0, .int .u32 0, .int .u32 0, .int .u32 0, .int .u32 0, .int .u32 0, .int .u32 0, .int .u32 0, .int .u32 0, .int .u32 0, .int .u32 0, .int .u32 0] : Array Value) = Z.toArray := ⟨List.replicate 64 (.int .u32 0), by rw [List.length_replicate], rfl⟩
  rw [hZ]
  clear hst hZ
  obtain ⟨w2, hw2, hHB, hRB, hKB, hWB, hB2, hs2⟩ := four_alloc w (.cells H.toArray 120) (.cells #[.int .u32 0, .int .u32 0, .int .u32 0, .int .u32 0, .int .u32 0, .int .u32 0, .int .u32 0, .int .u32 0] 120) (.cells C.toArray 135) (.cells Z.toArray 135)
  rw [hw2]
  obtain ⟨hb, hhb⟩ : ∃ hb, w.heap.size = hb := ⟨_, rfl⟩
  have e2 : hb + 1 + 1 = hb + 2 := rfl
  have e3 : hb + 1 + 1 + 1 = hb + 3 := rfl
  rw [hhb] at hHB hRB hKB hWB hs2 ⊢
  rw [e2, e3]
  have hx2 : Src w2 hb hb A n cp xs := by
    have h := HX.out
    rw [hhb] at h
    exact h.keep2 (Nat.le_refl _) (fun b h1 => hB2.block b (by omega))
  have HHB := Lib.hid hHB
  have HRB := Lib.hid hRB
  have HKB := Lib.hid hKB
  have HWB := Lib.hid hWB
  have HB2 := Lib.hid hB2
  have HX2 := Lib.hid hx2
  clear hHB hRB hKB hWB hB2 hx2
  clear hw2 HX e2 e3
  have hnx := HX2.out.1
  have HXX : Hid (w2.grownBy w2 (some (hb + 3))) := World.grownBy.refl w2 _
  go_loopw [9] (fun i wq => ∃ (k : Nat), i = .int .i64 (k : Int) ∧ k ≤ 16 ∧ Hid (w2.grownBy wq (some (hb + 3))) ∧ Hid (wq.heap[hb + 3]? = some (.cells (filled (stepL (schedF (xs.drop at_)) k) Z).toArray 135 (0, 0)))) (fun i _ => 16 - (intOf i).toNat)
  case atStart =>
    refine ⟨0, rfl, by omega, HXX, ?_⟩
    rw [stepL, filled_nil]
    exact HWB
  case round =>
    obtain ⟨k, rfl, hk, HGQ, HWQ⟩ := hrel
    have hLk := stepL_len (schedF (xs.drop at_)) k
    rcases Nat.lt_or_ge k 16 with hlt | hge
    · obtain ⟨bb, off, rfl, hbb, hbo, hra⟩ := HX2.out.2.2.2 (by omega)
      have hk0 : (0 : Int) ≤ (k : Int) := by omega
      have hk1 : (k : Int) < 16 := by omega
      have hk2 : (k : Int) < 64 := by omega
      have hbk : bb ≠ hb + 3 := by omega
      have hsq : wr.rangeAt bb off (bcells xs) := range_below hra (HGQ.out.block bb (by omega) (by simp; omega))
      obtain ⟨p0, hp0⟩ : ∃ p0, p0 = 4 * k := ⟨_, rfl⟩
      obtain ⟨q0, hq0⟩ : ∃ q0, q0 = at_ + 4 * k := ⟨_, rfl⟩
      obtain ⟨q1, hq1⟩ : ∃ q1, q1 = at_ + (4 * k + 1) := ⟨_, rfl⟩
      obtain ⟨q2, hq2⟩ : ∃ q2, q2 = at_ + (4 * k + 2) := ⟨_, rfl⟩
      obtain ⟨q3, hq3⟩ : ∃ q3, q3 = at_ + (4 * k + 3) := ⟨_, rfl⟩
      obtain ⟨x0, hx0⟩ : ∃ x0, xs[q0]? = some x0 := ⟨_, List.getElem?_eq_getElem (by omega)⟩
      obtain ⟨x1, hx1⟩ : ∃ x1, xs[q1]? = some x1 := ⟨_, List.getElem?_eq_getElem (by omega)⟩
      obtain ⟨x2, hx2⟩ : ∃ x2, xs[q2]? = some x2 := ⟨_, List.getElem?_eq_getElem (by omega)⟩
      obtain ⟨x3, hx3⟩ : ∃ x3, xs[q3]? = some x3 := ⟨_, List.getElem?_eq_getElem (by omega)⟩
      have c0 := hsq q0 _ (bcells_at xs q0 x0 hx0)
      have c1 := hsq q1 _ (bcells_at xs q1 x1 hx1)
      have c2 := hsq q2 _ (bcells_at xs q2 x2 hx2)
      have c3 := hsq q3 _ (bcells_at xs q3 x3 hx3)
      have wp : IntKind.i64.wrap (4 * (k : Int)) = (p0 : Int) := by rw [hp0]; exact i64_id (by omega) (by omega)
      have w0 : IntKind.i64.wrap ((at_ : Int) + (p0 : Int)) = (q0 : Int) := by rw [hq0, hp0]; exact i64_id (by omega) (by omega)
      have w1 : IntKind.i64.wrap ((q0 : Int) + 1) = (q1 : Int) := by rw [hq1, hq0]; exact i64_id (by omega) (by omega)
      have w2' : IntKind.i64.wrap ((q0 : Int) + 2) = (q2 : Int) := by rw [hq2, hq0]; exact i64_id (by omega) (by omega)
      have w3 : IntKind.i64.wrap ((q0 : Int) + 3) = (q3 : Int) := by rw [hq3, hq0]; exact i64_id (by omega) (by omega)
      have i0 : (q0 : Int) < (n : Int) := by omega
      have i1 : (q1 : Int) < (n : Int) := by omega
      have i2 : (q2 : Int) < (n : Int) := by omega
      have i3 : (q3 : Int) < (n : Int) := by omega
      have HQ0 := Lib.hid hq0
      have HQ1 := Lib.hid hq1
      have HQ2 := Lib.hid hq2
      have HQ3 := Lib.hid hq3
      obtain ⟨b0, hb0⟩ : ∃ b0 : Int, (x0.toNat : Int) = b0 := ⟨_, rfl⟩
      obtain ⟨b1, hb1⟩ : ∃ b1 : Int, (x1.toNat : Int) = b1 := ⟨_, rfl⟩
      obtain ⟨b2, hb2⟩ : ∃ b2 : Int, (x2.toNat : Int) = b2 := ⟨_, rfl⟩
      obtain ⟨b3, hb3⟩ : ∃ b3 : Int, (x3.toNat : Int) = b3 := ⟨_, rfl⟩
      rw [hb0] at c0
      rw [hb1] at c1
      rw [hb2] at c2
      rw [hb3] at c3
      have hcw : ∃ u, wr.cell? ⟨hb + 3, k, none⟩ = some u := by
        rw [blk_cell HWQ.out, List.getElem?_toArray]
        exact ⟨_, List.getElem?_eq_getElem (by rw [filled_len (by omega)]; omega)⟩
      obtain ⟨u, hcw⟩ := hcw
      have hfr := blk_free HWQ.out k
      have hsS : wr.drew.cell? ⟨bb, off + q0, none⟩ = some (.int .u8 b0) ∧ wr.drew.cell? ⟨bb, off + q1, none⟩ = some (.int .u8 b1) ∧ wr.drew.cell? ⟨bb, off + q2, none⟩ = some (.int .u8 b2) ∧ wr.drew.cell? ⟨bb, off + q3, none⟩ = some (.int .u8 b3) := ⟨c0, c1, c2, c3⟩
      clear hq0 hq1 hq2 hq3 hp0
      go_wp2_with fail
      go_region_held3 (fun w' => w'.cell? ⟨bb, off + q0, none⟩ = some (.int .u8 b0) ∧ w'.cell? ⟨bb, off + q1, none⟩ = some (.int .u8 b1) ∧ w'.cell? ⟨bb, off + q2, none⟩ = some (.int .u8 b2) ∧ w'.cell? ⟨bb, off + q3, none⟩ = some (.int .u8 b3)) (first | assumption | exact cell4_keep hbk (by assumption)) (fail)
      go_wp2_with fail
      have hgs := hgq_step HGQ.out k (.int .u32 (be4 b0 b1 b2 b3))
      refine ⟨⟨k + 1, by go_num, by omega, hgs, ?_⟩, by simp [intOf]; omega⟩
      have h := blk_set HWQ.out k (.int .u32 (be4 b0 b1 b2 b3))
      rw [setIf_list, filled_step (by omega) (x := be4 b0 b1 b2 b3) ?_] at h
      · exact h
      · unfold schedF wordOf
        rw [if_pos hlt]
        have hdrop : ∀ (i : Nat) (x : UInt8), xs[at_ + i]? = some x → bAt (xs.drop at_) i = (x.toNat : Int) := fun i x h => bAt_eq (by rw [List.getElem?_drop]; exact h)
        rw [hdrop _ x0 (HQ0.out ▸ hx0), hdrop _ x1 (HQ1.out ▸ hx1), hdrop _ x2 (HQ2.out ▸ hx2), hdrop _ x3 (HQ3.out ▸ hx3), hb0, hb1, hb2, hb3]
    · have hke : ¬ ((k : Int) < 16) := by omega
      have hk16 : k = 16 := by omega
      have HWQ16 : Hid (wr.heap[hb + 3]? = some (.cells (filled (stepL (schedF (xs.drop at_)) 16) Z).toArray 135 (0, 0))) := by
        show _ = _
        rw [← hk16]
        exact HWQ.out
      clear hk16 hge hk hLk HWQ
      go_wp2_with fail
      go_loopw [10] (fun i wq => ∃ (k : Nat), i = .int .i64 (k : Int) ∧ 16 ≤ k ∧ k ≤ 64 ∧ Hid (w2.grownBy wq (some (hb + 3))) ∧ Hid (wq.heap[hb + 3]? = some (.cells (filled (stepL (schedF (xs.drop at_)) k) Z).toArray 135 (0, 0)))) (fun i _ => 64 - (intOf i).toNat)
      case atStart => exact ⟨16, rfl, Nat.le_refl _, by omega, HGQ, HWQ16⟩
      case round =>
        obtain ⟨k, rfl, hk16, hk64, HGQ, HWQ⟩ := hrel
        have hLk := stepL_len (schedF (xs.drop at_)) k
        rcases Nat.lt_or_ge k 64 with hlt | hge
        · obtain ⟨L, hL⟩ : ∃ L, stepL (schedF (xs.drop at_)) k = L := ⟨_, rfl⟩
          rw [hL] at HWQ hLk
          obtain ⟨j16, hj16⟩ : ∃ j, j = k - 16 := ⟨_, rfl⟩
          obtain ⟨j15, hj15⟩ : ∃ j, j = k - 15 := ⟨_, rfl⟩
          obtain ⟨j7, hj7⟩ : ∃ j, j = k - 7 := ⟨_, rfl⟩
          obtain ⟨j2, hj2⟩ : ∃ j, j = k - 2 := ⟨_, rfl⟩
          obtain ⟨va, hva⟩ : ∃ x, L[j16]? = some x := ⟨_, List.getElem?_eq_getElem (by omega)⟩
          obtain ⟨vx, hvx⟩ : ∃ x, L[j15]? = some x := ⟨_, List.getElem?_eq_getElem (by omega)⟩
          obtain ⟨vb, hvb⟩ : ∃ x, L[j7]? = some x := ⟨_, List.getElem?_eq_getElem (by omega)⟩
          obtain ⟨vy, hvy⟩ : ∃ x, L[j2]? = some x := ⟨_, List.getElem?_eq_getElem (by omega)⟩
          have ca : wr.cell? ⟨hb + 3, j16, none⟩ = some (.int .u32 va) := by rw [blk_cell HWQ.out, List.getElem?_toArray]; exact filled_at hva
          have cx : wr.cell? ⟨hb + 3, j15, none⟩ = some (.int .u32 vx) := by rw [blk_cell HWQ.out, List.getElem?_toArray]; exact filled_at hvx
          have cb : wr.cell? ⟨hb + 3, j7, none⟩ = some (.int .u32 vb) := by rw [blk_cell HWQ.out, List.getElem?_toArray]; exact filled_at hvb
          have cy : wr.cell? ⟨hb + 3, j2, none⟩ = some (.int .u32 vy) := by rw [blk_cell HWQ.out, List.getElem?_toArray]; exact filled_at hvy
          have w16 : IntKind.i64.wrap ((k : Int) - 16) = (j16 : Int) := i64_id (by omega) (by omega)
          have w15 : IntKind.i64.wrap ((k : Int) - 15) = (j15 : Int) := i64_id (by omega) (by omega)
          have w7 : IntKind.i64.wrap ((k : Int) - 7) = (j7 : Int) := i64_id (by omega) (by omega)
          have w2' : IntKind.i64.wrap ((k : Int) - 2) = (j2 : Int) := i64_id (by omega) (by omega)
          have i16 : (j16 : Int) < 64 := by omega
          have i15 : (j15 : Int) < 64 := by omega
          have i7 : (j7 : Int) < 64 := by omega
          have i2 : (j2 : Int) < 64 := by omega
          have ik : (k : Int) < 64 := by omega
          have n16 : j16 ≠ k := by omega
          have n7 : j7 ≠ k := by omega
          have hcw : ∃ u, wr.cell? ⟨hb + 3, k, none⟩ = some u := by
            rw [blk_cell HWQ.out, List.getElem?_toArray]
            exact ⟨_, List.getElem?_eq_getElem (by rw [filled_len (by omega)]; omega)⟩
          obtain ⟨u, hcw⟩ := hcw
          have hfr := blk_free HWQ.out k
          have HJ16 := Lib.hid hj16
          have HJ15 := Lib.hid hj15
          have HJ7 := Lib.hid hj7
          have HJ2 := Lib.hid hj2
          clear hj16 hj15 hj7 hj2
          go_wp2_with fail
          go_region_held3 (fun w' => w'.cell? ⟨hb + 3, j15, none⟩ = some (.int .u32 vx) ∧ w'.cell? ⟨hb + 3, j2, none⟩ = some (.int .u32 vy)) (first | assumption | exact ⟨cx, cy⟩) (fail)
          go_wp2_with fail
          obtain ⟨r7, hr7⟩ : ∃ r, rr 7 vx = r := ⟨_, rfl⟩
          obtain ⟨r18, hr18⟩ : ∃ r, rr 18 vx = r := ⟨_, rfl⟩
          obtain ⟨r17, hr17⟩ : ∃ r, rr 17 vy = r := ⟨_, rfl⟩
          obtain ⟨r19, hr19⟩ : ∃ r, rr 19 vy = r := ⟨_, rfl⟩
          have C7 := fun w => RTurn7 w vx
          have C18 := fun w => RTurn18 w vx
          have C17 := fun w => RTurn17 w vy
          have C19 := fun w => RTurn19 w vy
          rw [hr7] at C7
          rw [hr18] at C18
          rw [hr17] at C17
          rw [hr19] at C19
          have D7 := Lib.hid C7
          have D18 := Lib.hid C18
          have D17 := Lib.hid C17
          have D19 := Lib.hid C19
          have HR7 := Lib.hid hr7
          have HR18 := Lib.hid hr18
          have HR17 := Lib.hid hr17
          have HR19 := Lib.hid hr19
          clear C7 C18 C17 C19 hr7 hr18 hr17 hr19
          have tk1 : True := trivial
          have tk2 : True := trivial
          have tk3 : True := trivial
          have tk4 : True := trivial
          go_region_held3 (fun w' => w'.cell? ⟨hb + 3, j16, none⟩ = some (.int .u32 va) ∧ w'.cell? ⟨hb + 3, j7, none⟩ = some (.int .u32 vb)) (first | assumption | exact ⟨ca, cb⟩ | exact cell2_keep n16 n7 (by assumption))
            (first
            | (go_at_call 84; have _t := tk1; clear tk1; refine (D7.out _).mono ?_; rintro e w5 ⟨rfl, rfl⟩)
            | (go_at_call 84; have _t := tk2; clear tk2; refine (D18.out _).mono ?_; rintro e w5 ⟨rfl, rfl⟩)
            | (go_at_call 84; have _t := tk3; clear tk3; refine (D17.out _).mono ?_; rintro e w5 ⟨rfl, rfl⟩)
            | (go_at_call 84; have _t := tk4; clear tk4; refine (D19.out _).mono ?_; rintro e w5 ⟨rfl, rfl⟩))
          go_wp2_with fail
          have hval : (((va + bits BinOp.xor IntKind.u32 (bits BinOp.xor IntKind.u32 r7 r18) (vx / 8)) % 4294967296 + vb) % 4294967296 + bits BinOp.xor IntKind.u32 (bits BinOp.xor IntKind.u32 r17 r19) (vy / 1024)) % 4294967296 = wNext va vx vb vy := by
            rw [← HR7.out, ← HR18.out, ← HR17.out, ← HR19.out]
            rfl
          rw [hval]
          have hgs := hgq_step HGQ.out k (.int .u32 (wNext va vx vb vy))
          refine ⟨⟨k + 1, by go_num, by omega, by omega, hgq_drew hgs, ?_⟩, by simp [intOf]; omega⟩
          have h := blk_set HWQ.out k (.int .u32 (wNext va vx vb vy))
          rw [setIf_list, ← hL, filled_step (by omega) (x := wNext va vx vb vy) ?_] at h
          · exact h
          · unfold schedF
            rw [if_neg (by omega)]
            rw [← HJ16.out, ← HJ15.out, ← HJ7.out, ← HJ2.out]
            have hL2 : stepL (fun i L => if i < 16 then wordOf (xs.drop at_) i else wNext (iAt L (i - 16)) (iAt L (i - 15)) (iAt L (i - 7)) (iAt L (i - 2))) k = L := hL
            rw [hL2, iAt_eq hva, iAt_eq hvx, iAt_eq hvb, iAt_eq hvy]
        · have hke2 : ¬ ((k : Int) < 64) := by omega
          have hk64' : k = 64 := by omega
          rw [hk64'] at HWQ
          clear hk64 hge hk16 hk64' hLk
          obtain ⟨WL, hWL⟩ : ∃ WL, stepL (schedF (xs.drop at_)) 64 = WL := ⟨_, rfl⟩
          rw [hWL] at HWQ
          have hWLl : WL.length = 64 := by rw [← hWL]; exact stepL_len _ _
          have hsz1 := HGQ.out.size
          have hHQ := (HGQ.out.block hb (by omega) (by simp)).trans HHB.out
          have hrv : wr.rangeAt hb 0 H := by
            intro j v hv
            rw [Nat.zero_add, blk_cell hHQ, List.getElem?_toArray]
            exact hv
          have HRV := Lib.hid hrv
          have HHQ := Lib.hid hHQ
          have HSZE : Hid ((Try.prog.info? 120).map (·.size) = some H.length) := by
            show _ = _
            rw [hHl]
            kernel_rfl
          have hst := run_storeCells_new (P := Try.prog) wr 120 #[.int .u32 0, .int .u32 0, .int .u32 0, .int .u32 0, .int .u32 0, .int .u32 0, .int .u32 0, .int .u32 0] H.toArray (by simp only [List.size_toArray, hHl]; kernel_rfl) (by simp only [List.size_toArray, hHl]; rfl) (all_oneCell_toArray hH1)
          clear hrv hHQ
          go_wp2_with (first | (refine wpList_load_mid rfl 120 (.tmp 3) rfl hb 0 rfl H _ HRV.out Try.underlying120 rfl HSZE.out ?_))
          obtain ⟨vb, hvb⟩ : ∃ vb, wr.heap.size = vb := ⟨_, rfl⟩
          have hVB := heap_alloc_new wr (.cells H.toArray 120)
          have hBA := below_alloc wr (.cells H.toArray 120)
          have hkb1 : hb + 3 < vb := by omega
          rw [hvb] at hVB ⊢
          have HWQ2 : Hid ((wr.alloc (.cells H.toArray 120)).heap[hb + 3]? = some (.cells (filled WL Z).toArray 135 (0, 0))) := (hBA.block (hb + 3) (by omega)).trans HWQ.out
          have HKQ2 : Hid ((wr.alloc (.cells H.toArray 120)).heap[hb + 2]? = some (.cells C.toArray 135 (0, 0))) := (hBA.block (hb + 2) (by omega)).trans ((HGQ.out.block (hb + 2) (by omega) (by simp)).trans HKB.out)
          have HGQ2 : Hid (w2.grownBy (wr.alloc (.cells H.toArray 120)) (some (hb + 3))) := grown_trans HGQ.out ⟨hBA.os, hBA.tape, hBA.output, hBA.size, fun i hi _ => hBA.block i hi⟩ (fun _ _ h => h) (r2 := none) (fun _ _ _ => by simp)
          have HVB : Hid ((wr.alloc (.cells H.toArray 120)).heap[vb]? = some (.cells (ucells hs).toArray 120 (0, 0))) := by
            show _ = _
            rw [HH.out]
            exact hVB
          clear hVB hBA
          generalize wr.alloc (.cells H.toArray 120) = Q at *
          go_loopw [14] (fun i wq => ∃ (t : Nat), i = .int .i64 (t : Int) ∧ t ≤ 64 ∧ Hid (w2.grownBy wq (some (hb + 3))) ∧ Hid (wq.heap[hb + 3]? = some (.cells (filled WL Z).toArray 135 (0, 0))) ∧ Hid (wq.heap[hb + 2]? = some (.cells C.toArray 135 (0, 0))) ∧ Hid (vb < wq.heap.size) ∧ Hid (wq.heap[vb]? = some (.cells (ucells (roundL WL hs t)).toArray 120 (0, 0)))) (fun i _ => 64 - (intOf i).toNat)
          case atStart => exact ⟨0, rfl, by omega, HGQ2, HWQ2, HKQ2, blk_lt HVB.out, HVB⟩
          case round =>
            obtain ⟨t, rfl, ht, HGT, HWT, HKT, HVT, HVC⟩ := hrel
            rcases Nat.lt_or_ge t 64 with hlt | hge
            · obtain ⟨R, hR⟩ : ∃ R, roundL WL hs t = R := ⟨_, rfl⟩
              have hRl : R.length = 8 := by rw [← hR]; exact roundL_len _ _ hl t
              obtain ⟨a, b, c, d, e, f, gg, h, rfl⟩ := list8 hRl
              rw [hR] at HVC
              obtain ⟨kk, hkk⟩ : ∃ x, kTab[t]? = some x := ⟨_, List.getElem?_eq_getElem (by rw [kTab_len]; omega)⟩
              obtain ⟨ww, hww⟩ : ∃ x, WL[t]? = some x := ⟨_, List.getElem?_eq_getElem (by omega)⟩
              have ck : wr.cell? ⟨hb + 2, t, none⟩ = some (.int .u32 kk) := by rw [blk_cell HKT.out]; exact HCA.out t kk hkk
              have cw : wr.cell? ⟨hb + 3, t, none⟩ = some (.int .u32 ww) := by rw [blk_cell HWT.out, List.getElem?_toArray]; exact filled_at hww
              have ca : wr.cell? ⟨vb, 0, none⟩ = some (.int .u32 a) := blk_cell HVC.out 0
              have ce : wr.cell? ⟨vb, 4, none⟩ = some (.int .u32 e) := blk_cell HVC.out 4
              have it : (t : Int) < 64 := by omega
              have HR := Lib.hid hR
              have HKK := Lib.hid hkk
              have HWW := Lib.hid hww
              clear hR hkk hww
              go_wp2_with fail
              go_region_held3 (fun w' => w'.cell? ⟨vb, 0, none⟩ = some (.int .u32 a) ∧ w'.cell? ⟨vb, 4, none⟩ = some (.int .u32 e)) (first | assumption | exact ⟨ca, ce⟩) (fail)
              go_wp2_with fail
              obtain ⟨r6, hr6⟩ : ∃ r, rr 6 e = r := ⟨_, rfl⟩
              obtain ⟨r11, hr11⟩ : ∃ r, rr 11 e = r := ⟨_, rfl⟩
              obtain ⟨r25, hr25⟩ : ∃ r, rr 25 e = r := ⟨_, rfl⟩
              have C6 := fun w => RTurn6 w e
              have C11 := fun w => RTurn11 w e
              have C25 := fun w => RTurn25 w e
              rw [hr6] at C6
              rw [hr11] at C11
              rw [hr25] at C25
              have D6 := Lib.hid (rq C6 wr.drew)
              have D11 := Lib.hid (rq C11 wr.drew)
              have D25 := Lib.hid (rq C25 wr.drew)
              have HR6 := Lib.hid hr6
              have HR11 := Lib.hid hr11
              have HR25 := Lib.hid hr25
              clear hr6 hr11 hr25
              clear C6 C11 C25
              have q7 := cell_regrown (w := wr.drew) (a := ⟨vb, 7, none⟩) (v := .int .u32 h) (blk_cell HVC.out 7)
              have q5 := cell_regrown (w := wr.drew) (a := ⟨vb, 5, none⟩) (v := .int .u32 f) (blk_cell HVC.out 5)
              have q6 := cell_regrown (w := wr.drew) (a := ⟨vb, 6, none⟩) (v := .int .u32 gg) (blk_cell HVC.out 6)
              have qk := cell_regrown (w := wr.drew) ck
              have qw := cell_regrown (w := wr.drew) cw
              refine wp_region_quiet_below (by kernel_rfl) (by kernel_rfl) ?_
              repeat ((with_reducible refine wpQuiet_step (fun K hK => ?_)); go_simp; first | (with_reducible refine hK _ ?_; clear hK K) | (rw [if_neg (by decide)]; with_reducible refine hK _ ?_; clear hK K) | (apply Exists.intro; refine ⟨fun _ => ?_, hK _ ?_⟩; (first | with_reducible exact (D6.out _ _) | with_reducible exact (D11.out _ _) | with_reducible exact (D25.out _ _)); clear hK K))
              with_reducible refine wpQuiet_nil ?_
              intro _ hw'
              obtain ⟨⟨dq, osq⟩, hw''⟩ := hw'
              subst hw''
              have hb3 := below_regrown wr.drew dq osq
              clear D6 D11 D25 q7 q5 q6 qk qw
              generalize Sort.grow (redrawn wr.drew dq) osq = w4 at *
              generalize hsE : bits .xor .u32 (bits .xor .u32 r6 r11) r25 = sE
              generalize hnE : bits .xor .u32 (if IntKind.u32.signed = true then -1 else IntKind.u32.max) e = nE
              generalize hef : bits .and .u32 e f = ef
              generalize hng : bits .and .u32 nE gg = ng
              generalize hch : bits .xor .u32 ef ng = chh
              generalize ht1 : IntKind.u32.wrap (h + sE) = t1
              generalize ht2 : IntKind.u32.wrap (t1 + chh) = t2
              generalize ht3 : IntKind.u32.wrap (t2 + kk) = t3
              generalize ht4 : IntKind.u32.wrap (t3 + ww) = t4
              have HSE := Lib.hid hsE
              have HNE := Lib.hid hnE
              have HEF := Lib.hid hef
              have HNG := Lib.hid hng
              have HCH := Lib.hid hch
              have HT1 := Lib.hid ht1
              have HT2 := Lib.hid ht2
              have HT3 := Lib.hid ht3
              have HT4 := Lib.hid ht4
              clear hsE hnE hef hng hch ht1 ht2 ht3 ht4
              have hvt := blk_lt HVC.out
              have HB4 := Lib.hid hb3
              have hV4 := (hb3.block vb hvt).trans HVC.out
              have HV4 := Lib.hid hV4
              clear hb3 ck cw ca ce hV4
              go_wp2_with fail
              obtain ⟨r2, hr2⟩ : ∃ r, rr 2 a = r := ⟨_, rfl⟩
              obtain ⟨r13, hr13⟩ : ∃ r, rr 13 a = r := ⟨_, rfl⟩
              obtain ⟨r22, hr22⟩ : ∃ r, rr 22 a = r := ⟨_, rfl⟩
              have C2 := fun w => RTurn2 w a
              have C13 := fun w => RTurn13 w a
              have C22 := fun w => RTurn22 w a
              rw [hr2] at C2
              rw [hr13] at C13
              rw [hr22] at C22
              have D2 := Lib.hid (rq C2 w4)
              have D13 := Lib.hid (rq C13 w4)
              have D22 := Lib.hid (rq C22 w4)
              have HR2 := Lib.hid hr2
              have HR13 := Lib.hid hr13
              have HR22 := Lib.hid hr22
              clear hr2 hr13 hr22
              clear C2 C13 C22
              have q1 := cell_regrown (w := w4) (a := ⟨vb, 1, none⟩) (v := .int .u32 b) (blk_cell HV4.out 1)
              have q2 := cell_regrown (w := w4) (a := ⟨vb, 2, none⟩) (v := .int .u32 c) (blk_cell HV4.out 2)
              refine wp_region_quiet_below (by kernel_rfl) (by kernel_rfl) ?_
              repeat ((with_reducible refine wpQuiet_step (fun K hK => ?_)); go_simp; first | (with_reducible refine hK _ ?_; clear hK K) | (rw [if_neg (by decide)]; with_reducible refine hK _ ?_; clear hK K) | (apply Exists.intro; refine ⟨fun _ => ?_, hK _ ?_⟩; (first | with_reducible exact (D2.out _ _) | with_reducible exact (D13.out _ _) | with_reducible exact (D22.out _ _)); clear hK K))
              with_reducible refine wpQuiet_nil ?_
              intro _ hw'
              obtain ⟨⟨dq, osq⟩, hw''⟩ := hw'
              subst hw''
              have hb5 := below_regrown w4 dq osq
              clear D2 D13 D22 q1 q2
              generalize Sort.grow (redrawn w4 dq) osq = w5 at *
              generalize hsA : bits .xor .u32 (bits .xor .u32 r2 r13) r22 = sA
              generalize hab : bits .and .u32 a b = ab
              generalize hac : bits .and .u32 a c = ac
              generalize hbc : bits .and .u32 b c = bc
              generalize hx1 : bits .xor .u32 ab ac = xx
              generalize hx2' : bits .xor .u32 xx bc = mj
              generalize htw : IntKind.u32.wrap (sA + mj) = tw
              have HSA := Lib.hid hsA
              have HAB := Lib.hid hab
              have HAC := Lib.hid hac
              have HBC := Lib.hid hbc
              have HX1 := Lib.hid hx1
              have HX2' := Lib.hid hx2'
              have HTW := Lib.hid htw
              clear hsA hab hac hbc hx1 hx2' htw
              have hV5 := (hb5.block vb (blk_lt HV4.out)).trans HV4.out
              have HB5 := Lib.hid hb5
              have HV5 := Lib.hid hV5
              clear hb5
              have cb : w5.cell? ⟨vb, 1, none⟩ = some (.int .u32 b) := blk_cell hV5 1
              have cc : w5.cell? ⟨vb, 2, none⟩ = some (.int .u32 c) := blk_cell hV5 2
              have cd : w5.cell? ⟨vb, 3, none⟩ = some (.int .u32 d) := blk_cell hV5 3
              have cf : w5.cell? ⟨vb, 5, none⟩ = some (.int .u32 f) := blk_cell hV5 5
              have cg : w5.cell? ⟨vb, 6, none⟩ = some (.int .u32 gg) := blk_cell hV5 6
              have hth : w5.there vb 0 8 := by
                intro j hj
                rw [Nat.zero_add]
                refine ⟨?_, blk_free hV5 j⟩
                rw [blk_cell hV5, List.getElem?_toArray, List.getElem?_eq_getElem (by rw [ucells_len]; exact hj)]
                rfl
              have HTH := Lib.hid hth
              clear hV5 hth
              obtain ⟨E, hE⟩ : ∃ E : List Value, ucells [(t4 + tw) % 4294967296, a, b, c, (d + t4) % 4294967296, e, f, gg] = E := ⟨_, rfl⟩
              have hEl : E.length = 8 := by rw [← hE]; rfl
              have hE1 : E.toArray.all (·.oneCell') = true := all_oneCell_toArray (fun v hv => ucells_one (hE ▸ hv))
              have HTH2 : Hid (w5.there vb 0 E.toArray.size) := by
                show World.there _ _ _ _
                rw [List.size_toArray, hEl]
                exact HTH.out
              have HSE2 : Hid ((Try.prog.info? 120).map (·.size) = some E.toArray.size) := by
                show _ = _
                rw [List.size_toArray, hEl]
                kernel_rfl
              have HEE := Lib.hid hE
              have HE1 := Lib.hid hE1
              clear hE hE1
              go_wp2_with (first | (refine wpList_buildC rfl 120 _ rfl E.toArray (by rw [← HEE.out]; kernel_rfl) ?_) | (refine wpList_store_mid rfl 120 (.tmp 13) (.tmp 189) rfl vb 0 E.toArray rfl rfl HTH2.out HSE2.out HE1.out ?_))
              have hrow : ucells (roundL WL hs (t + 1)) = E := by
                show ucells (rnd (iAt kTab t) (iAt WL t) (roundL WL _ t)) = _
                rw [HR.out, iAt_eq HKK.out, iAt_eq HWW.out, ← HEE.out]
                have hone : oneF e f gg h kk ww = t4 := by
                  rw [← HT4.out, ← HT3.out, ← HT2.out, ← HT1.out, ← HCH.out, ← HNG.out, ← HEF.out, ← HNE.out, ← HSE.out, ← HR6.out, ← HR11.out, ← HR25.out]
                  rfl
                have htwo : (t4 + twoF a b c) % 4294967296 = (t4 + tw) % 4294967296 := by
                  have e1 : tw = twoF a b c % 4294967296 := by
                    rw [← HTW.out, ← HX2'.out, ← HX1.out, ← HBC.out, ← HAC.out, ← HAB.out, ← HSA.out, ← HR2.out, ← HR13.out, ← HR22.out]
                    exact u32_wrap _
                  rw [e1]
                  omega
                show ucells [(oneF e f gg h kk ww + twoF a b c) % 4294967296, _, _, _, (d + oneF e f gg h kk ww) % 4294967296, _, _, _] = _
                rw [hone, htwo]
              have hsc : (w5.setCells vb 0 E).heap[vb]? = some (.cells E.toArray 120 (0, 0)) := by
                rw [setCells_blk E 0 HV5.out]
                have hl2 := setL_mid ([] : List Value) (ucells [a, b, c, d, e, f, gg, h]) [] E (by rw [hEl]; rfl)
                simp only [List.nil_append, List.append_nil, List.length_nil] at hl2
                rw [hl2]
              have hs5 : wr.drew.heap.size ≤ w5.heap.size := Nat.le_trans HB4.out.size HB5.out.size
              have hwr4 : wr.drew.heap.size = wr.heap.size := rfl
              have hgs := grown_setCells vb E 0 w5
              have hother : ∀ i, i < wr.heap.size → i ≠ vb → (w5.setCells vb 0 E).heap[i]? = wr.heap[i]? := fun i hi hn => (hgs.block i (by omega) (by simpa using hn)).trans ((HB5.out.block i (by have := HB4.out.size; omega)).trans (HB4.out.block i hi))
              refine ⟨⟨t + 1, by go_num, by omega, ?_, ?_, ?_, ?_, ?_⟩, by simp [intOf]; omega⟩
              · refine ⟨hgs.os.trans (HB5.out.os.trans (HB4.out.os.trans HGT.out.os)), hgs.tape.trans (HB5.out.tape.trans (HB4.out.tape.trans HGT.out.tape)), hgs.output.trans (HB5.out.output.trans (HB4.out.output.trans HGT.out.output)), ?_, fun i hi hn => ?_⟩
                · have := HGT.out.size
                  have := hgs.size
                  omega
                · have := HGT.out.size
                  exact (hother i (by omega) (by omega)).trans (HGT.out.block i hi hn)
              · exact (hother (hb + 3) (blk_lt HWT.out) (by omega)).trans HWT.out
              · exact (hother (hb + 2) (blk_lt HKT.out) (by omega)).trans HKT.out
              · exact blk_lt hsc
              · show _ = _
                rw [hrow]
                exact hsc
            · have hke3 : ¬ ((t : Int) < 64) := by omega
              have ht64 : t = 64 := by omega
              rw [ht64] at HVC
              obtain ⟨VL, hVL⟩ : ∃ VL, roundL WL hs 64 = VL := ⟨_, rfl⟩
              have hVLl : VL.length = 8 := by rw [← hVL]; exact roundL_len _ _ hl 64
              rw [hVL] at HVC
              clear ht64 hge ht
              go_wp2_with fail
              have hgT : Hid (wr.heap[hb]? = some (.cells H.toArray 120 (0, 0))) := (HGT.out.block hb (by omega) (by simp)).trans HHB.out
              have hrT : Hid (wr.heap[hb + 1]? = some (.cells #[.int .u32 0, .int .u32 0, .int .u32 0, .int .u32 0, .int .u32 0, .int .u32 0, .int .u32 0, .int .u32 0] 120 (0, 0))) := (HGT.out.block (hb + 1) (by omega) (by simp)).trans HRB.out
              obtain ⟨Y, hY⟩ : ∃ Y, wr = Y := ⟨_, rfl⟩
              have HYY : Hid (Y.grownBy wr (some hb)) := by
                show Y.grownBy wr _
                rw [hY]
                exact World.grownBy.refl Y _
              have HG4 : Hid (wr.heap[hb]? = some (.cells (ucells (addL hs VL 0)).toArray 120 (0, 0))) := by
                show _ = _
                rw [addL_zero, HH.out]
                exact hgT.out
              rw [hY] at HGT HWT HKT HVT HVC hrT
              clear hgT hY
              go_loopw [19] (fun i wq => ∃ (j : Nat), i = .int .i64 (j : Int) ∧ j ≤ 8 ∧ Hid (Y.grownBy wq (some hb)) ∧ Hid (wq.heap[hb]? = some (.cells (ucells (addL hs VL j)).toArray 120 (0, 0)))) (fun i _ => 8 - (intOf i).toNat)
              case atStart => exact ⟨0, rfl, by omega, HYY, HG4⟩
              case round =>
                obtain ⟨j, rfl, hj, HGJ, HGC⟩ := hrel
                rcases Nat.lt_or_ge j 8 with hlt | hge
                · obtain ⟨vx, hvx⟩ : ∃ x, VL[j]? = some x := ⟨_, List.getElem?_eq_getElem (by omega)⟩
                  obtain ⟨hx, hhx⟩ : ∃ x, hs[j]? = some x := ⟨_, List.getElem?_eq_getElem (by omega)⟩
                  have hal := addL_len hs VL j
                  have cv : wr.cell? ⟨vb, j, none⟩ = some (.int .u32 vx) := by
                    rw [World.cell?_of_block (a := ⟨vb, j, none⟩) (HGJ.out.block vb HVT.out (by simp; omega)), blk_cell HVC.out, List.getElem?_toArray]
                    exact ucells_at hvx
                  have cg : wr.cell? ⟨hb, j, none⟩ = some (.int .u32 hx) := by
                    rw [blk_cell HGC.out, List.getElem?_toArray]
                    exact ucells_at (addL_at hhx)
                  have fg := blk_free HGC.out j
                  have ij : (j : Int) < 8 := by omega
                  go_wp2_with fail
                  go_region_law (fail)
                  all_goals go_wp2_with fail
                  all_goals
                    have hh := blk_set HGC.out j (.int .u32 (addM hx vx))
                    rw [setIf_list, ucells_set, addL_step hhx hvx] at hh
                    exact ⟨⟨j + 1, by go_num, by omega, hgq_step HGJ.out j _, hh⟩, by simp [intOf]; omega⟩
                · have hke4 : ¬ ((j : Int) < 8) := by omega
                  have hj8 : j = 8 := by omega
                  rw [hj8] at HGC
                  clear hj8 hge hj
                  have HBLK : Hid (addL hs VL 8 = blk hs (xs.drop at_)) := by
                    show _ = _
                    rw [← hVL, ← hWL]
                    rfl
                  obtain ⟨F, hF⟩ : ∃ F, ucells (addL hs VL 8) = F := ⟨_, rfl⟩
                  have hFl : F.length = 8 := by rw [← hF, ucells_len, addL_len, hl]
                  have hF1 : F.toArray.all (·.oneCell') = true := all_oneCell_toArray (fun v hv => ucells_one (hF ▸ hv))
                  rw [hF] at HGC
                  have hrv : wr.rangeAt hb 0 F := by
                    intro j v hv
                    rw [Nat.zero_add, blk_cell HGC.out, List.getElem?_toArray]
                    exact hv
                  have hrbl : hb + 1 < Y.heap.size := blk_lt hrT.out
                  have hRW : wr.heap[hb + 1]? = some (.cells #[.int .u32 0, .int .u32 0, .int .u32 0, .int .u32 0, .int .u32 0, .int .u32 0, .int .u32 0, .int .u32 0] 120 (0, 0)) := (HGJ.out.block (hb + 1) hrbl (by simp)).trans hrT.out
                  have hth : wr.there (hb + 1) 0 F.toArray.size := by
                    intro j hj
                    rw [Nat.zero_add]
                    refine ⟨?_, blk_free hRW j⟩
                    rw [List.size_toArray, hFl] at hj
                    rw [blk_cell hRW, Array.getElem?_eq_getElem hj]
                    rfl
                  have HSZF : Hid ((Try.prog.info? 120).map (·.size) = some F.length) := by
                    show _ = _
                    rw [hFl]
                    kernel_rfl
                  have HSZF2 : Hid ((Try.prog.info? 120).map (·.size) = some F.toArray.size) := by
                    show _ = _
                    rw [List.size_toArray, hFl]
                    kernel_rfl
                  have HRV2 := Lib.hid hrv
                  have HTH3 := Lib.hid hth
                  have HF1 := Lib.hid hF1
                  have HF := Lib.hid hF
                  clear hrv hth hF1 hF
                  clear hRW
                  go_wp2_with (first | (refine wpList_load_mid rfl 120 (.tmp 3) rfl hb 0 rfl F _ HRV2.out Try.underlying120 rfl HSZF.out ?_) | (refine wpList_store_mid rfl 120 (.tmp 6) (.tmp 203) rfl (hb + 1) 0 F.toArray rfl rfl HTH3.out HSZF2.out HF1.out ?_))
                  have hra := World.rangeAt_setCells_same wr (hb + 1) 0 F (by have := HTH3.out; rwa [List.size_toArray] at this)
                  refine bodyPost_ret (results_cellT rfl _ (hb + 1) rfl _ F _ hra Try.underlying120 rfl HSZF.out) rfl ?_
                  refine ⟨by rw [← HF.out, HBLK.out], ?_⟩
                  have hgs := grown_setCells (hb + 1) F 0 wr
                  have h1 := HB2.out
                  rw [hhb] at h1
                  have h2 : Below hb w wr := by
                    refine (h1.grown HGT.out (by omega) (fun i hi => by cases hi; omega)).grown HGJ.out ?_ (fun i hi => by cases hi; omega)
                    have := HGT.out.size
                    omega
                  exact h2.grown hgs (by have := HGT.out.size; have := HGJ.out.size; omega) (fun i hi => by cases hi; omega)
end Go.Proofs.Ytalihocoekplgaa
