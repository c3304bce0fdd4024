/- sha: Write. -/
import Derived.Test.YtalihocoekplgaaShaD
set_option linter.unusedVariables false
set_option linter.unusedSimpArgs false
namespace Go.Proofs.Ytalihocoekplgaa
open Go.RowKit

theorem foldN_take : ∀ (k : Nat) (hs : List Int) (ys zs : List UInt8), (∀ i, i < k * 64 → ys[i]? = zs[i]?) → foldN k hs ys = foldN k hs zs
  | 0, _, _, _, _ => rfl
  | k + 1, hs, ys, zs, h => by
    have this : schedF ys = schedF zs := by
      funext i L
      unfold schedF
      by_cases hi : i < 16
      · rw [if_pos hi, if_pos hi]
        unfold wordOf bAt
        rw [h (4 * i) (by omega), h (4 * i + 1) (by omega), h (4 * i + 2) (by omega), h (4 * i + 3) (by omega)]
      · rw [if_neg hi, if_neg hi]
    have hb : blk hs ys = blk hs zs := by
      unfold blk
      rw [this]
    show foldN k (blk hs ys) (ys.drop 64) = foldN k (blk hs zs) (zs.drop 64)
    rw [hb]
    exact foldN_take k _ _ _ (fun i hi => by
      rw [List.getElem?_drop, List.getElem?_drop]
      exact h _ (by omega))
theorem foldB_take (hs : List Int) (xs : List UInt8) {n : Nat} (hn : xs.length = n) : foldB hs (xs.take (n / 64 * 64)) = foldB hs xs := by
  unfold foldB
  have e : (xs.take (n / 64 * 64)).length / 64 = xs.length / 64 := by rw [List.length_take]; omega
  rw [e]
  refine foldN_take _ _ _ _ fun i hi => ?_
  rw [List.getElem?_take, if_pos (by omega)]
theorem blk_len (hs : List Int) (ys : List UInt8) : (blk hs ys).length = hs.length := addL_len _ _ _
theorem foldN_len : ∀ (k : Nat) (hs : List Int) (ys : List UInt8), (foldN k hs ys).length = hs.length
  | 0, _, _ => rfl
  | k + 1, hs, ys => by
    show (foldN k (blk hs ys) (ys.drop 64)).length = _
    rw [foldN_len k, blk_len]
theorem foldB_len (hs : List Int) (ys : List UInt8) (h : hs.length = 8) : (foldB hs ys).length = 8 := by
  unfold foldB
  rw [foldN_len, h]
set_option maxRecDepth 100000 in
set_option maxHeartbeats 4000000 in
/-- Write where whole blocks were taken before. -/
theorem HWrite_zero (w : World) (c : Col) (g : Nat) (A : Option Addr) (n cp : Nat) (xs : List UInt8) (hs : List Int) (rest : List UInt8) (nn q : Nat) (hnn : nn = q * 64) (hq : q ≤ 1000000000) (hn : n ≤ 1000000000) (hw : Wf c w) (hcg : c g = some g) (hd : Dg w g hs rest nn) (hx : Rd kU8 w c A n cp xs) :
    Calls Try.prog 71 #[.pointer (some ⟨g, 0, none⟩), .slice A n cp] w fun e w' => e = .returned (.tuple #[]) ∧ w.grownBy w' (some g) ∧ Dg w' g (foldB hs xs) (over rest (xs.drop (n / 64 * 64)) 0) (nn + n) := by
  have hln := hx.1
  have c72 := hd.n
  have f72 := blk_free hd.1 72
  have hgl := blk_lt hd.1
  have hmod : ((nn : Nat) : Int) % 64 = 0 := by omega
  have hu64 : ((nn : Int) + (n : Int)) % 18446744073709551616 = ((nn + n : Nat) : Int) := by omega
  have hcw : (n : Int) % 18446744073709551616 = (n : Int) := by omega
  have hncp : n ≤ cp := hx.2.1
  have hle : (n : Int) / 64 * 64 ≤ (cp : Int) := by omega
  have hle0 : 0 ≤ (n : Int) / 64 * 64 := by omega
  have hd1 : Dg (w.setCell ⟨g, 72, none⟩ (.int .u64 ((nn + n : Nat) : Int))) g hs rest (nn + n) := hd.setN
  have hT1 : Tr (· = g) c c w (w.setCell ⟨g, 72, none⟩ (.int .u64 ((nn + n : Nat) : Int))) := (Tr.refl (· = g) hw).setCell (p := ⟨g, 72, none⟩) hcg (.inl rfl) _
  have hg1 := grown_setCell w g 72 (.int .u64 ((nn + n : Nat) : Int))
  have e1 : ((nn + n : Nat) : Int) = (q : Int) * 64 + (n : Int) := by omega
  rw [e1] at hd1 hT1 hg1
  have hx1 := hx.tr hT1
  generalize hW1 : w.setCell ⟨g, 72, none⟩ (.int .u64 ((q : Int) * 64 + (n : Int))) = W1 at hd1 hT1 hg1 hx1
  have hsrc := (src_of_rd hx1 hcg).take (m := n / 64 * 64) (by omega)
  have hB := HBlock_any W1 g A (n / 64 * 64) cp (xs.take (n / 64 * 64)) hs (dgTl rest (nn + n)) hd1.2.1 hd1.1 hsrc
  have hfb : foldB hs (xs.take (n / 64 * 64)) = foldB hs xs := foldB_take hs xs (by omega)
  rw [hfb] at hB
  have HD := Lib.hid hd
  have HX := Lib.hid hx
  have HW := Lib.hid hw
  have HLN := Lib.hid hln
  have HD1 := Lib.hid hd1
  have HT1 := Lib.hid hT1
  have HX1 := Lib.hid hx1
  have HB := Lib.hid hB
  have HG1 := Lib.hid hg1
  clear hd hx hw hln hd1 hT1 hx1 hB hg1
  clear hsrc hfb
  go_enter Try.func71, Try.ntmps71
  go_wp2_with fail
  refine (HB.out).mono ?_
  rintro e w2 ⟨rfl, hg2, hd2⟩
  have HG2 := Lib.hid hg2
  have HD2 := Lib.hid hd2
  clear hg2 hd2
  obtain ⟨qq, hqq⟩ : ∃ qq, n / 64 = qq := ⟨_, rfl⟩
  obtain ⟨q64, hq64⟩ : ∃ q64, n / 64 * 64 = q64 := ⟨_, rfl⟩
  have hq64n : q64 ≤ n := by omega
  obtain ⟨A', hcut, hrd⟩ := cut_low kU8 23 5 .i64 Try.underlying23 u8_info A n cp q64 hq64n (P := Try.prog)
  have v1 : IntKind.i64.wrap ((n : Int) / 64) = (qq : Int) := i64_id (by omega) (by omega)
  have v2 : IntKind.i64.wrap ((qq : Int) * 64) = (q64 : Int) := i64_id (by omega) (by omega)
  have hT2 : Tr (· = g) c c w w2 := HT1.out.grown HG2.out (fun k hk => by cases hk; exact ⟨g, hcg, .inl rfl⟩)
  have hD2 : Dg w2 g (foldB hs xs) rest (nn + n) := ⟨HD2.out, foldB_len _ _ HD.out.2.1, HD.out.2.2⟩
  have hrx := hrd w2 c xs (HX.out.tr hT2)
  obtain ⟨v, hcp, hv⟩ := dg_copy (w := w2.drew) (o := 0) (dl := 64) ⟨hD2.1, hD2.2.1, hD2.2.2⟩ (hrx.tr ((Tr.refl (· = g) hT2.wf).drew)) rfl (by omega)
  rw [Nat.add_zero] at hcp
  have HQQ := Lib.hid hqq
  have HQ64 := Lib.hid hq64
  have HT2 := Lib.hid hT2
  have HDD := Lib.hid hD2
  have HRX := Lib.hid hrx
  have HV := Lib.hid hv
  clear hqq hq64 hT2 hD2 hrx hv
  go_wp2_with fail
  go_region_held3 (fun _ => True) (first | trivial) (fail)
  go_wp2_with fail
  go_end0
  have hvl : v = n - q64 := by
    have h1 := HQ64.out
    have h2 := HV.out
    rw [show Nat.min (n - q64) 64 = min (n - q64) 64 from rfl] at h2
    omega
  have ht : (xs.drop q64).take v = xs.drop q64 := List.take_of_length_le (by rw [List.length_drop, HLN.out, hvl]; exact Nat.le_refl _)
  rw [ht]
  refine ⟨rfl, grownBy_trans (hgq_drew (grownBy_trans HG1.out HG2.out)) (grown_setCells g _ 8 _), ?_⟩
  have h := Dg.copy (w := w2.drew) (o := 0) ⟨HDD.out.1, HDD.out.2.1, HDD.out.2.2⟩ (xs.drop q64) (by rw [List.length_drop, HLN.out]; have := HQ64.out; omega)
  rw [HQ64.out]
  exact h
set_option maxRecDepth 100000 in
set_option maxHeartbeats 4000000 in
/-- Write where a block was begun before, and is filled. -/
theorem HWrite_pos (w : World) (c : Col) (g : Nat) (A : Option Addr) (n cp : Nat) (xs : List UInt8) (hs : List Int) (rest : List UInt8) (nn q r : Nat) (hnn : nn = q * 64 + r) (hr0 : 0 < r) (hr1 : r < 64) (hq : q ≤ 1000000000) (hn : n ≤ 1000000000) (hrn : 64 - r ≤ n) (hw : Wf c w) (hcg : c g = some g) (hd : Dg w g hs rest nn) (hx : Rd kU8 w c A n cp xs) :
    Calls Try.prog 71 #[.pointer (some ⟨g, 0, none⟩), .slice A n cp] w fun e w' => e = .returned (.tuple #[]) ∧ w.grownBy w' (some g) ∧ ∃ rest', Dg w' g (foldB (foldB hs (rest.take r ++ xs.take (64 - r))) (xs.drop (64 - r))) rest' (nn + n) := by
  have hln := hx.1
  have c72 := hd.n
  have f72 := blk_free hd.1 72
  have hgl := blk_lt hd.1
  have hmod : ((nn : Nat) : Int) % 64 = (r : Int) := by omega
  have hr0' : (0 : Int) < (r : Int) := by omega
  have hr1' : (r : Int) ≤ 64 := by omega
  have hcw : (n : Int) % 18446744073709551616 = (n : Int) := by omega
  have hncp : n ≤ cp := hx.2.1
  have hd1 : Dg (w.setCell ⟨g, 72, none⟩ (.int .u64 ((nn + n : Nat) : Int))) g hs rest (nn + n) := hd.setN
  have hT1 : Tr (· = g) c c w (w.setCell ⟨g, 72, none⟩ (.int .u64 ((nn + n : Nat) : Int))) := (Tr.refl (· = g) hw).setCell (p := ⟨g, 72, none⟩) hcg (.inl rfl) _
  have hg1 := grown_setCell w g 72 (.int .u64 ((nn + n : Nat) : Int))
  have e1 : ((nn + n : Nat) : Int) = (nn : Int) + (n : Int) := by omega
  rw [e1] at hd1 hT1 hg1
  have hu64 : ((nn : Int) + (n : Int)) % 18446744073709551616 = (nn : Int) + (n : Int) := by omega
  have hx1 := hx.tr hT1
  generalize hW1 : w.setCell ⟨g, 72, none⟩ (.int .u64 ((nn : Int) + (n : Int))) = W1 at hd1 hT1 hg1 hx1
  obtain ⟨v, hcp, hv⟩ := dg_copy (o := r) (dl := 64 - r) hd1 hx1 rfl (by omega)
  have hv2 : v = 64 - r := by
    rw [show Nat.min n (64 - r) = min n (64 - r) from rfl] at hv
    omega
  subst hv2
  have hd2 := Dg.copy hd1 (xs.take (64 - r)) r (by rw [List.length_take]; omega)
  have hg2 := grown_setCells g (bcells (xs.take (64 - r))) (8 + r) W1
  have hT2 : Tr (· = g) c c w (W1.setCells g (8 + r) (bcells (xs.take (64 - r)))) := Tr.setCells (g := g) hcg _ _ hT1 (.inl rfl)
  generalize W1.setCells g (8 + r) (bcells (xs.take (64 - r))) = W2 at hcp hd2 hg2 hT2
  obtain ⟨A1, hcut1, hrd1⟩ := cut_low kU8 23 5 .i64 Try.underlying23 u8_info A n cp (64 - r) hrn (P := Try.prog)
  have hov : over rest (xs.take (64 - r)) r = rest.take r ++ xs.take (64 - r) := by
    unfold over
    rw [List.drop_of_length_le (by rw [List.length_take, hd.2.2]; omega), List.append_nil]
  rw [hov] at hd2
  obtain ⟨R2, hR2⟩ : ∃ R2, rest.take r ++ xs.take (64 - r) = R2 := ⟨_, rfl⟩
  rw [hR2] at hd2
  have hsrc : Src W2 g W2.heap.size (some ⟨g, 8, none⟩) 64 64 R2 := ⟨hd2.2.2, Nat.le_refl _, by simp [maxLen], fun _ => ⟨g, 8, rfl, blk_lt hd2.1, fun _ => Nat.le_refl _, hd2.rest⟩⟩
  have hB := HBlock_any W2 g (some ⟨g, 8, none⟩) 64 64 R2 hs (dgTl R2 (nn + n)) hd2.2.1 hd2.1 hsrc
  have i64r : IntKind.i64.wrap ((r : Int) + ((64 - r : Nat) : Int)) = 64 := by
    have : (r : Int) + ((64 - r : Nat) : Int) = 64 := by omega
    rw [this]
    rfl
  rw [hR2]
  obtain ⟨ys, hys⟩ : ∃ ys, xs.drop (64 - r) = ys := ⟨_, rfl⟩
  rw [hys]
  have HD := Lib.hid hd
  have HX := Lib.hid hx
  have HW := Lib.hid hw
  have HLN := Lib.hid hln
  have HD1 := Lib.hid hd1
  have HT1 := Lib.hid hT1
  have HX1 := Lib.hid hx1
  have HB := Lib.hid hB
  have HG1 := Lib.hid hg1
  have HD2 := Lib.hid hd2
  have HG2 := Lib.hid hg2
  have HT2 := Lib.hid hT2
  have HV := Lib.hid hv
  have HOV := Lib.hid hov
  have HR2 := Lib.hid hR2
  have HNN := Lib.hid hnn
  have HYS := Lib.hid hys
  clear hd hx hw hln hd1 hT1 hx1 hB hg1 hd2 hg2 hT2 hv hov hR2 hnn hys
  clear hsrc e1
  go_enter Try.func71, Try.ntmps71
  go_wp2_with fail
  refine (HB.out).mono ?_
  rintro e w3 ⟨rfl, hg3, hd3⟩
  obtain ⟨n2, hn2⟩ : ∃ n2, n - (64 - r) = n2 := ⟨_, rfl⟩
  obtain ⟨cp2, hcp2⟩ : ∃ cp2, cp - (64 - r) = cp2 := ⟨_, rfl⟩
  have hT3 : Tr (· = g) c c w w3 := HT2.out.grown hg3 (fun k hk => by cases hk; exact ⟨g, hcg, .inl rfl⟩)
  have hx3 := hrd1 w3 c xs (HX.out.tr hT3)
  rw [hn2, hcp2, HYS.out] at hx3
  have hl3 := hx3.1
  have hncp2 : n2 ≤ cp2 := hx3.2.1
  have hle : (n2 : Int) / 64 * 64 ≤ (cp2 : Int) := by omega
  have hle0 : 0 ≤ (n2 : Int) / 64 * 64 := by omega
  have hn2b : n2 ≤ 1000000000 := by omega
  have hD3 : Dg w3 g (foldB hs R2) R2 (nn + n) := ⟨hd3, foldB_len _ _ HD.out.2.1, HD2.out.2.2⟩
  have hsrc4 := (src_of_rd hx3 hcg).take (m := n2 / 64 * 64) (by omega)
  have hB4 := HBlock_any w3 g A1 (n2 / 64 * 64) cp2 (ys.take (n2 / 64 * 64)) (foldB hs R2) (dgTl R2 (nn + n)) hD3.2.1 hd3 hsrc4
  have hfb : foldB (foldB hs R2) (ys.take (n2 / 64 * 64)) = foldB (foldB hs R2) ys := foldB_take _ ys (by omega)
  rw [hfb] at hB4
  rw [hn2, hcp2]
  have HN2 := Lib.hid hn2
  have HG3 := Lib.hid hg3
  have HD3' := Lib.hid hd3
  have HT3 := Lib.hid hT3
  have HX3 := Lib.hid hx3
  have HD3 := Lib.hid hD3
  have HB4 := Lib.hid hB4
  have HL3 := Lib.hid hl3
  clear hg3 hd3 hT3 hx3 hD3 hB4 hl3
  clear hsrc4 hfb hn2 hcp2 hcut1
  go_wp2_with fail
  refine (HB4.out).mono ?_
  rintro e w4 ⟨rfl, hg4, hd4⟩
  obtain ⟨qq, hqq⟩ : ∃ qq, n2 / 64 = qq := ⟨_, rfl⟩
  obtain ⟨q64, hq64⟩ : ∃ q64, n2 / 64 * 64 = q64 := ⟨_, rfl⟩
  have hq64n : q64 ≤ n2 := by omega
  obtain ⟨A', hcut, hrd⟩ := cut_low kU8 23 5 .i64 Try.underlying23 u8_info A1 n2 cp2 q64 hq64n (P := Try.prog)
  have v1 : IntKind.i64.wrap ((n2 : Int) / 64) = (qq : Int) := i64_id (by omega) (by omega)
  have v2 : IntKind.i64.wrap ((qq : Int) * 64) = (q64 : Int) := i64_id (by omega) (by omega)
  have hT4 : Tr (· = g) c c w3 w4 := (Tr.refl (· = g) HT3.out.wf).grown hg4 (fun k hk => by cases hk; exact ⟨g, hcg, .inl rfl⟩)
  have hD4 : Dg w4 g (foldB (foldB hs R2) ys) R2 (nn + n) := ⟨hd4, foldB_len _ _ HD3.out.2.1, HD3.out.2.2⟩
  have hrx := hrd w4 c ys (HX3.out.tr hT4)
  obtain ⟨v, hcp', hv'⟩ := dg_copy (w := w4.drew) (o := 0) (dl := 64) ⟨hD4.1, hD4.2.1, hD4.2.2⟩ (hrx.tr ((Tr.refl (· = g) hT4.wf).drew)) rfl (by omega)
  rw [Nat.add_zero] at hcp'
  have HQQ := Lib.hid hqq
  have HQ64 := Lib.hid hq64
  have HT4 := Lib.hid hT4
  have HDD := Lib.hid hD4
  have HRX := Lib.hid hrx
  have HV' := Lib.hid hv'
  have HG4 := Lib.hid hg4
  clear hqq hq64 hT4 hD4 hrx hv' hg4
  go_wp2_with fail
  go_region_held3 (fun _ => True) (first | trivial) (fail)
  go_wp2_with fail
  go_end0
  have hvl : v = n2 - q64 := by
    have h1 := HQ64.out
    have h2 := HV'.out
    rw [show Nat.min (n2 - q64) 64 = min (n2 - q64) 64 from rfl] at h2
    omega
  refine ⟨rfl, grownBy_trans (hgq_drew (grownBy_trans (grownBy_trans (grownBy_trans HG1.out HG2.out) HG3.out) HG4.out)) (grown_setCells g _ 8 _), _, Dg.copy (w := w4.drew) (o := 0) ⟨HDD.out.1, HDD.out.2.1, HDD.out.2.2⟩ _ (by rw [List.length_take]; have := HQ64.out; omega)⟩
end Go.Proofs.Ytalihocoekplgaa
