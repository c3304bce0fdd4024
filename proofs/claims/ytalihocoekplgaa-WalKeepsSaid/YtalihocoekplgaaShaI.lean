/- sha: Sum. -/
import Derived.Test.YtalihocoekplgaaShaH
set_option linter.unusedVariables false
set_option linter.unusedSimpArgs false
namespace Go.Proofs.Ytalihocoekplgaa
open Go.RowKit

theorem foldN_append : ∀ (k m : Nat) (hs : List Int) (ys : List UInt8), foldN (k + m) hs ys = foldN m (foldN k hs ys) (ys.drop (k * 64))
  | 0, m, hs, ys => by rw [Nat.zero_add, Nat.zero_mul]; rfl
  | k + 1, m, hs, ys => by
    rw [show k + 1 + m = (k + m) + 1 by omega]
    show foldN (k + m) (blk hs ys) (ys.drop 64) = foldN m (foldN k (blk hs ys) (ys.drop 64)) (ys.drop ((k + 1) * 64))
    rw [foldN_append k m, List.drop_drop]
    congr 2
    omega
theorem foldB_append (hs : List Int) (xs ys : List UInt8) (h : xs.length % 64 = 0) : foldB hs (xs ++ ys) = foldB (foldB hs xs) ys := by
  unfold foldB
  have e : (xs ++ ys).length / 64 = xs.length / 64 + ys.length / 64 := by rw [List.length_append]; omega
  rw [e, foldN_append]
  have e2 : xs.length / 64 * 64 = xs.length := by omega
  rw [e2, List.drop_left]
  congr 1
  refine foldN_take _ _ _ _ fun i hi => ?_
  rw [List.getElem?_append_left (by omega)]
/-- The digest of bytes. -/
def shaF (xs : List UInt8) : List UInt8 := outB (foldB hTab (xs ++ endB xs.length))
theorem shaF_len (xs : List UInt8) : (shaF xs).length = 32 := by
  unfold shaF
  rw [outB_len, foldB_len _ _ hTab_len]
theorem finH_eq (hs : List Int) (rest xs : List UInt8) (hr : rest.length = 64) : finH (foldB hs xs) (over rest (xs.drop (xs.length / 64 * 64)) 0) xs.length = foldB hs (xs ++ endB xs.length) := by
  have hel := endB_len xs.length
  have hK := padK_eq xs.length
  unfold finH
  by_cases h0 : xs.length % 64 = 0
  · rw [if_pos h0, foldB_append _ _ _ h0]
  · rw [if_neg h0]
    have hd : (xs.drop (xs.length / 64 * 64)).length = xs.length % 64 := by rw [List.length_drop]; omega
    have ht : (over rest (xs.drop (xs.length / 64 * 64)) 0).take (xs.length % 64) = xs.drop (xs.length / 64 * 64) := by
      unfold over
      rw [List.take_zero, List.nil_append, ← hd, List.take_left]
    rw [ht]
    have hx : xs ++ endB xs.length = xs.take (xs.length / 64 * 64) ++ ((xs.drop (xs.length / 64 * 64) ++ (endB xs.length).take (64 - xs.length % 64)) ++ (endB xs.length).drop (64 - xs.length % 64)) := by
      rw [List.append_assoc, List.take_append_drop, ← List.append_assoc, List.take_append_drop]
    have hT : (xs.take (xs.length / 64 * 64)).length % 64 = 0 := by rw [List.length_take]; omega
    have hDE : (xs.drop (xs.length / 64 * 64) ++ (endB xs.length).take (64 - xs.length % 64)).length % 64 = 0 := by rw [List.length_append, hd, List.length_take]; omega
    have hft := foldB_take hs xs rfl
    rw [hx, foldB_append hs _ _ hT, hft]
    exact (foldB_append (foldB hs xs) _ _ hDE).symm
set_option maxRecDepth 100000 in
set_option maxHeartbeats 4000000 in
theorem HSumB_any (w : World) (c : Col) (A : Option Addr) (n cp : Nat) (xs : List UInt8) (hn : n ≤ 1000000000) (hw : Wf c w) (hx : Rd kU8 w c A n cp xs) :
    Calls Try.prog 63 #[.slice A n cp] w fun e w' => e = .returned (.agg (bcells (shaF xs)).toArray) ∧ Below w.heap.size w w' := by
  obtain ⟨OO, hOO⟩ : ∃ OO, bcells (shaF xs) = OO := ⟨_, rfl⟩
  have hOl : OO.length = 32 := by rw [← hOO, bcells_length, shaF_len]
  have hO1 : OO.toArray.all (·.oneCell') = true := all_oneCell_toArray (fun v hv => bcells_one (hOO ▸ hv))
  have hxl := hx.1
  rw [hOO]
  have HOO := Lib.hid hOO
  have HO1 := Lib.hid hO1
  have HW := Lib.hid hw
  have HX := Lib.hid hx
  have HXL := Lib.hid hxl
  clear hOO hO1 hw hx hxl
  go_enter Try.func63, Try.ntmps63
  go_wp2_with fail
  have hob := heap_alloc_new w (.cells #[.int .u8 0, .int .u8 0, .int .u8 0, .int .u8 0, .int .u8 0, .int .u8 0, .int .u8 0, .int .u8 0, .int .u8 0, .int .u8 0, .int .u8 0, .int .u8 0, .int .u8 0, .int .u8 0, .int .u8 0, .int .u8 0, .int .u8 0, .int .u8 0, .int .u8 0, .int .u8 0, .int .u8 0, .int .u8 0, .int .u8 0, .int .u8 0, .int .u8 0, .int .u8 0, .int .u8 0, .int .u8 0, .int .u8 0, .int .u8 0, .int .u8 0, .int .u8 0] 108)
  have hb0 := below_alloc w (.cells #[.int .u8 0, .int .u8 0, .int .u8 0, .int .u8 0, .int .u8 0, .int .u8 0, .int .u8 0, .int .u8 0, .int .u8 0, .int .u8 0, .int .u8 0, .int .u8 0, .int .u8 0, .int .u8 0, .int .u8 0, .int .u8 0, .int .u8 0, .int .u8 0, .int .u8 0, .int .u8 0, .int .u8 0, .int .u8 0, .int .u8 0, .int .u8 0, .int .u8 0, .int .u8 0, .int .u8 0, .int .u8 0, .int .u8 0, .int .u8 0, .int .u8 0, .int .u8 0] 108)
  have hs0 : (w.alloc (.cells #[.int .u8 0, .int .u8 0, .int .u8 0, .int .u8 0, .int .u8 0, .int .u8 0, .int .u8 0, .int .u8 0, .int .u8 0, .int .u8 0, .int .u8 0, .int .u8 0, .int .u8 0, .int .u8 0, .int .u8 0, .int .u8 0, .int .u8 0, .int .u8 0, .int .u8 0, .int .u8 0, .int .u8 0, .int .u8 0, .int .u8 0, .int .u8 0, .int .u8 0, .int .u8 0, .int .u8 0, .int .u8 0, .int .u8 0, .int .u8 0, .int .u8 0, .int .u8 0] 108)).heap.size = w.heap.size + 1 := by simp
  generalize w.alloc (.cells #[.int .u8 0, .int .u8 0, .int .u8 0, .int .u8 0, .int .u8 0, .int .u8 0, .int .u8 0, .int .u8 0, .int .u8 0, .int .u8 0, .int .u8 0, .int .u8 0, .int .u8 0, .int .u8 0, .int .u8 0, .int .u8 0, .int .u8 0, .int .u8 0, .int .u8 0, .int .u8 0, .int .u8 0, .int .u8 0, .int .u8 0, .int .u8 0, .int .u8 0, .int .u8 0, .int .u8 0, .int .u8 0, .int .u8 0, .int .u8 0, .int .u8 0, .int .u8 0] 108) = w0 at *
  have HOB := Lib.hid hob
  have HB0 := Lib.hid hb0
  have HS0 := Lib.hid hs0
  clear hob hb0 hs0
  go_wp2_with fail
  refine (HNew_any w0).mono ?_
  rintro e w1 ⟨g, rfl, hg, q_HD1, q_HB1⟩
  have HD1 := Lib.hid q_HD1
  have HB1 := Lib.hid q_HB1
  clear q_HD1 q_HB1
  have hgw : w.heap.size < g := by have := HS0.out; omega
  have hB1 : Below w.heap.size w w1 := below_then HB0.out HB1.out
  have hw1 : Wf (c.set g g) w1 := by
    intro k r h
    have hgl := blk_lt HD1.out.1
    unfold Col.set at h
    split at h
    · cases h
      rename_i e
      subst e
      exact ⟨hgl, hgl⟩
    · obtain ⟨a, b⟩ := HW.out k r h
      have := hB1.size
      exact ⟨by omega, by omega⟩
  have hx1 : Rd kU8 w1 (c.set g g) A n cp xs := HX.out.kp ⟨hB1.size, fun k hk hc => ⟨by rw [Col.set_ne _ (by omega)]; exact hc, hB1.block k hk⟩⟩
  have HWR := Lib.hid (HWrite_zero w1 (c.set g g) g A n cp xs hTab zsec 0 0 rfl (by omega) hn hw1 (Col.set_same _ _ _) HD1.out hx1)
  have HBB1 := Lib.hid hB1
  clear hB1
  clear hw1 hx1
  go_wp2_with fail
  refine (HWR.out).mono ?_
  rintro e w2 ⟨rfl, q_HG2, q_HD2⟩
  have HG2 := Lib.hid q_HG2
  have HD2 := Lib.hid q_HD2
  clear q_HG2 q_HD2
  have hd2 := HD2.out
  have hnl := HXL.out
  rw [Nat.zero_add] at hd2
  have hS := HSum_any w2 g _ _ n hn hd2
  subst hnl
  rw [finH_eq hTab zsec xs zsec_len] at hS
  have hS2 : Calls Try.prog 72 #[.pointer (some ⟨g, 0, none⟩)] w2 fun e w' => e = .returned (.agg OO.toArray) ∧ Below w2.heap.size w2 w' := by
    rw [← HOO.out]
    exact hS
  have HS2 := Lib.hid hS2
  clear hS2
  clear hS hd2
  go_wp2_with fail
  refine (HS2.out).mono ?_
  rintro e w3 ⟨rfl, q_HB3⟩
  have HB3 := Lib.hid q_HB3
  clear q_HB3
  have hbw2 : Below w.heap.size w w2 := HBB1.out.grown HG2.out HBB1.out.size (fun i hi => by cases hi; omega)
  have hbw3 := below_then hbw2 HB3.out
  have hob3 : w3.heap[w.heap.size]? = some (.cells #[.int .u8 0, .int .u8 0, .int .u8 0, .int .u8 0, .int .u8 0, .int .u8 0, .int .u8 0, .int .u8 0, .int .u8 0, .int .u8 0, .int .u8 0, .int .u8 0, .int .u8 0, .int .u8 0, .int .u8 0, .int .u8 0, .int .u8 0, .int .u8 0, .int .u8 0, .int .u8 0, .int .u8 0, .int .u8 0, .int .u8 0, .int .u8 0, .int .u8 0, .int .u8 0, .int .u8 0, .int .u8 0, .int .u8 0, .int .u8 0, .int .u8 0, .int .u8 0] 108 (0, 0)) := by
    have h1 := HS0.out
    have h2 := HB1.out.size
    have h3 := HG2.out.size
    rw [HB3.out.block w.heap.size (by omega), HG2.out.block w.heap.size (by omega) (by simp; omega), HB1.out.block w.heap.size (by omega)]
    exact HOB.out
  have hth : w3.there w.heap.size 0 OO.toArray.size := by
    intro j hj
    rw [Nat.zero_add]
    refine ⟨?_, blk_free hob3 j⟩
    rw [List.size_toArray, hOl] at hj
    rw [blk_cell hob3, Array.getElem?_eq_getElem hj]
    rfl
  have HSZ : Hid ((Try.prog.info? 108).map (·.size) = some OO.length) := by
    show _ = _
    rw [hOl]
    kernel_rfl
  have HSZ2 : Hid ((Try.prog.info? 108).map (·.size) = some OO.toArray.size) := by
    show _ = _
    rw [List.size_toArray, hOl]
    kernel_rfl
  have HTH := Lib.hid hth
  have HBW3 := Lib.hid hbw3
  have HOB3 := Lib.hid hob3
  clear hth hbw3 hob3
  clear hbw2
  go_wp2_with (first | (refine wpList_store_mid rfl 108 (.tmp 2) (.tmp 9) rfl w.heap.size 0 OO.toArray rfl rfl HTH.out HSZ2.out HO1.out ?_))
  have hra := World.rangeAt_setCells_same w3 w.heap.size 0 OO (by have := HTH.out; rwa [List.size_toArray] at this)
  refine bodyPost_ret (results_cellT rfl _ w.heap.size rfl _ OO _ hra Try.underlying108 rfl HSZ.out) rfl ?_
  exact ⟨rfl, HBW3.out.grown (grown_setCells w.heap.size OO 0 w3) HBW3.out.size (fun i hi => by cases hi; exact Nat.le_refl _)⟩
end Go.Proofs.Ytalihocoekplgaa
