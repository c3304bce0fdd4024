/- wal: Open's closure. -/
import Derived.Test.YtalihocoekplgaaWalE
import Derived.Test.YtalihocoekplgaaOpen
import Derived.Deep.RegionLaw
import Derived.BigRegion
set_option linter.unusedVariables false
set_option linter.unusedSimpArgs false
namespace Go.Proofs.Ytalihocoekplgaa
open Go.RowKit

/-- Block vo holds the records so far. -/
def Outs (w : World) (c : Col) (vo : Nat) (recs : List (List UInt8)) : Prop :=
  c vo = some vo ∧ ∃ A m cp cells, w.heap[vo]? = some (.cells #[.slice A m cp] 50 (0, 0)) ∧ OwnB w c vo 23 1 (.slice A m cp) m cells ∧ Reps (kSl kU8) w c recs cells ∧ recs.length = m
theorem Outs.tr {M : Nat → Prop} {w w' : World} {c c' : Col} {vo : Nat} {recs : List (List UInt8)} (h : Outs w c vo recs) (k : Tr M c c' w w') (hM : ¬ M vo) : Outs w' c' vo recs := by
  obtain ⟨h1, A, m, cp, cells, h2, h3, h4, h5⟩ := h
  obtain ⟨a1, a2⟩ := k.at_ h1 hM
  exact ⟨a1, A, m, cp, cells, by rw [a2]; exact h2, h3.tr k hM, h4.keep k.kp, h5⟩
theorem recAt_len {Z : List (List UInt8)} {at_ num : Nat} {x : List UInt8} (h : recAt Z at_ num = some x) : x.length ≤ 20000 := by
  unfold recAt at h
  split at h
  · cases h
  · split at h
    · rename_i h1
      cases h
      rw [List.length_take]
      omega
    · cases h
theorem two_below {w w' : World} {a b : Addr} {u v : Value} (hb : Below w.heap.size w w') (h : w.cell? a = some u ∧ w.cell? b = some v) : w'.cell? a = some u ∧ w'.cell? b = some v :=
  ⟨(hb.cell (block_lt_of_cell h.1)).trans h.1, (hb.cell (block_lt_of_cell h.2)).trans h.2⟩
def nextUsed (Z : List (List UInt8)) (used num : Nat) : Nat × Nat × List (List UInt8) := match recAt Z used num with
  | none => (num, used, [])
  | some x => (num + 1, used + secN x.length, [x])
theorem wrap_succ (a : Nat) (h : a ≤ 1000000000) : IntKind.i64.wrap ((a : Int) + 1) = ((a + 1 : Nat) : Int) := i64_id (by omega) (by omega)
theorem wrap_add (a b : Nat) (h : a ≤ 1000000000) (h2 : b ≤ 1000000000000) : IntKind.i64.wrap ((a : Int) + (b : Int)) = ((a + b : Nat) : Int) := i64_id (by omega) (by omega)
theorem next_end {w5 w7 : World} {c c6 : Col} {vo gl g : Nat} {v v1 : Value} {n : Nat} {xs : List Value} {a1 a2 : Value} (hT : Tr (fun r => r = gl ∨ r = vo) c c6 w5 w7)
    (hg : w7.heap[gl]? = some (.cells #[.pointer (some ⟨g, 0, none⟩), a1, a2] 83 (0, 0))) (ho : w7.heap[vo]? = some (.cells (#[v].setIfInBounds 0 v1) 50 (0, 0))) (hw : OwnB w7 c6 vo 23 1 v1 n xs) (hcg : c6 gl = some gl) (hcv : c6 vo = some vo) (h2 : gl ≠ vo) (k1 k2 : Nat) :
    Tr (fun r => r = gl ∨ r = vo) c c6 w5 (((w7.setCell ⟨gl, 1, none⟩ (.int .i64 (k1 : Int))).setCell ⟨gl, 2, none⟩ (.int .i64 (k2 : Int))).drew) ∧
    Lg (((w7.setCell ⟨gl, 1, none⟩ (.int .i64 (k1 : Int))).setCell ⟨gl, 2, none⟩ (.int .i64 (k2 : Int))).drew) c6 gl g k1 k2 ∧
    (((w7.setCell ⟨gl, 1, none⟩ (.int .i64 (k1 : Int))).setCell ⟨gl, 2, none⟩ (.int .i64 (k2 : Int))).drew).heap[vo]? = some (.cells #[v1] 50 (0, 0)) ∧
    OwnB (((w7.setCell ⟨gl, 1, none⟩ (.int .i64 (k1 : Int))).setCell ⟨gl, 2, none⟩ (.int .i64 (k2 : Int))).drew) c6 vo 23 1 v1 n xs := by
  have b1 := blk_set hg 1 (.int .i64 (k1 : Int))
  have b2 := blk_set b1 2 (.int .i64 (k2 : Int))
  have hT1 := (hT.setCell (p := ⟨gl, 1, none⟩) hcg (.inl (.inl rfl)) (.int .i64 (k1 : Int))).setCell (p := ⟨gl, 2, none⟩) hcg (.inl (.inl rfl)) (.int .i64 (k2 : Int))
  refine ⟨hT1.drew, ⟨hcg, b2⟩, ?_, ?_⟩
  · exact (heap_of_setCell _ _ _ _ (Ne.symm h2)).trans ((heap_of_setCell _ _ _ _ (Ne.symm h2)).trans ho)
  · exact (hw.far hg (by decide) 1 _).far b1 (by decide) 2 _
theorem vl_far1 {w : World} {gl vl i j : Nat} {u v : Value} (h : gl ≠ vl) (k : w.cell? ⟨vl, j, none⟩ = some v) : (w.setCell ⟨gl, i, none⟩ u).cell? ⟨vl, j, none⟩ = some v :=
  (World.cell?_setCell_far w ⟨gl, i, none⟩ ⟨vl, j, none⟩ u h).trans k
theorem vl_near {w : World} {gl : Nat} {u v : Value} (k : w.cell? ⟨gl, 2, none⟩ = some v) : (w.setCell ⟨gl, 1, none⟩ u).cell? ⟨gl, 2, none⟩ = some v :=
  (World.cell?_setCell_other w ⟨gl, 1, none⟩ ⟨gl, 2, none⟩ u (by simp)).trans k
theorem vl_far2 {w : World} {gl vl i i2 j : Nat} {u u2 v : Value} (h : gl ≠ vl) (k : w.cell? ⟨vl, j, none⟩ = some v) : ((w.setCell ⟨gl, i, none⟩ u).setCell ⟨gl, i2, none⟩ u2).cell? ⟨vl, j, none⟩ = some v :=
  vl_far1 h (vl_far1 h k)
set_option maxRecDepth 100000 in
set_option maxHeartbeats 8000000 in
theorem WNext_any (w : World) (c : Col) (vl vo gl g n num used : Nat) (Y : List (List UInt8)) (D : Dt) (N : Nat) (recs : List (List UInt8)) (hnum : num ≤ 4096) (hused : used ≤ 4096) (hrl : recs.length ≤ 4096) (hw : Wf c w) (hD : Dk w c g n Y D N) (hL : Lg w c gl g num used) (hO : Outs w c vo recs) (hV : c vl = some vl ∧ w.heap[vl]? = some (.cells #[.pointer (some ⟨gl, 0, none⟩)] 49 (0, 0))) (h1 : gl ≠ vl) (h2 : gl ≠ vo) (h3 : vl ≠ vo) (h4 : g ≠ gl) (h5 : g ≠ vo) :
    Calls Try.prog 38 #[.pointer (some ⟨vl, 0, none⟩), .pointer (some ⟨vo, 0, none⟩)] w fun e w' => e = .returned (.bool (recAt (syncY Y D) used num).isSome) ∧ ∃ c', Tr (fun r => r = gl ∨ r = vo) c c' w w' ∧ Lg w' c' gl g (nextUsed (syncY Y D) used num).1 (nextUsed (syncY Y D) used num).2.1 ∧ Outs w' c' vo (recs ++ (nextUsed (syncY Y D) used num).2.2) := by
  have hvl := blk_cell0 hV.2
  have d2 := blk_cell2 hL.2
  have hvll := blk_lt hV.2
  have hgll := blk_lt hL.2
  obtain ⟨rc, hrc⟩ : ∃ rc, recAt (syncY Y D) used num = rc := ⟨_, rfl⟩
  have hR := WRead_any w.drew c gl g n num used Y D N used (by omega) (hw.below (below_drew (Below.refl _ w))) (hD.tr ((Tr.refl (fun _ => False) hw).drew) (fun h => h)) (hL.tr ((Tr.refl (fun _ => False) hw).drew) (fun h => h))
  unfold nextUsed
  rw [hrc] at hR ⊢
  have HR := Lib.hid hR
  have HRC := Lib.hid hrc
  have HW := Lib.hid hw
  have HD := Lib.hid hD
  have HL := Lib.hid hL
  have HO := Lib.hid hO
  have HV := Lib.hid hV
  clear hR hrc hw hD hL hO hV
  go_enter Try.func38, Try.ntmps38
  go_wp2_with fail
  go_region_held3 (fun w' => w'.cell? ⟨vl, 0, none⟩ = some (.pointer (some ⟨gl, 0, none⟩)) ∧ w'.cell? ⟨gl, 2, none⟩ = some (.int .i64 (used : Int)))
    (first | assumption | exact ⟨hvl, d2⟩ | exact two_below hb5 (by assumption))
    (first
    | (go_at_call 39; refine (HR.out).mono ?_; rintro e w5 ⟨A5, m5, cp5, b5, rfl, hb5, hbb, hx5⟩; have HX5 := Lib.hid hx5; have HBB := Lib.hid hbb; clear hx5 hbb))
  have ht5 : Tr (fun r => r = gl ∨ r = vo) c c w w5 := (Tr.refl _ HW.out).drew.then (Tr.of_below (HW.out.below (below_drew (Below.refl _ w))) hb5)
  have ht5' : Tr (fun _ => False) c c w w5 := (Tr.refl (fun _ => False) HW.out).drew.then (Tr.of_below (HW.out.below (below_drew (Below.refl _ w))) hb5)
  have HT5 := Lib.hid ht5
  have HL5 := Lib.hid (HL.out.tr ht5' (fun h => h))
  have HO5 := Lib.hid (HO.out.tr ht5' (fun h => h))
  have hv5 := (ht5'.at_ HV.out.1 (fun h => h)).2.trans HV.out.2
  have hvl5 := blk_cell0 hv5
  have HV5 := Lib.hid hv5
  clear ht5 ht5' hv5 hb5
  cases rc with
  | none =>
    have hb : b5 = false := HBB.out
    subst hb
    go_wp2_with fail
    refine bodyPost_ret (results_tmp rfl _ _ _) rfl ?_
    exact ⟨rfl, c, HT5.out, HL5.out, HO5.out⟩
  | some x =>
    have hb : b5 = true := HBB.out
    subst hb
    have hrx0 := HX5.out x rfl
    have hrx := hrx0
    have hm5b : m5 ≤ 20000 := by
      rw [← hrx0.len]
      exact recAt_len HRC.out
    obtain ⟨hco, A, m, cp, cells, ho1, ho2, ho3, ho4⟩ := HO5.out
    have o0 := blk_cell0 ho1
    have of0 := blk_free ho1 0
    have hvol := blk_lt ho1
    have HRX := Lib.hid hrx
    have HO1 := Lib.hid ho1
    have HO2 := Lib.hid ho2
    have HO3 := Lib.hid ho3
    clear hrx ho1 ho2 ho3
    have hbytes : (Try.prog.info? 23).map (fun i => (i.zero, i.size, i.bytes)) = some (some (.slice none 0 0), 1, 24) := by kernel_rfl
    go_wp2_with (at_builtin; go_must (refine app_one_st (M := fun r => r = gl ∨ r = vo) (g := vo) (.tmp 15) (.tmp 17) 50 23 (.slice none 0 0) 1 24 rfl rfl Try.underlying50 hbytes rfl (by decide) (by decide) cells _ rfl rfl rfl (one_cell rfl) (Tr.refl (fun r => r = gl ∨ r = vo) HT5.out.wf) HO2.out (.inl (.inr rfl)) hvol (by omega) ?_); intro A1 cp1 w6 c6 ht6 hown6 hkeep hcol; have hb6 := hkeep _ _ _ _ (by decide) HO1.out; have hg6 := hkeep _ _ _ _ (by decide) HL5.out.2; have hv6 := hkeep _ _ _ _ (by decide) HV5.out; have hc6 := blk_cell0 hb6; have hf6 := blk_free hb6 0; have HT6 := Lib.hid ht6; have HO6 := Lib.hid hown6; have HCOL := Lib.hid hcol; clear hkeep hcol ht6 hown6)
    have hxl := hrx0.len
    have hT7 := HT6.out.setCell (p := ⟨vo, 0, none⟩) ((HCOL.out vo hvol).trans hco) (.inl (.inr rfl)) (.slice A1 (m + 1) cp1)
    have hg7 : (w6.setCell ⟨vo, 0, none⟩ (.slice A1 (m + 1) cp1)).heap[gl]? = some (.cells #[.pointer (some ⟨g, 0, none⟩), .int .i64 (num : Int), .int .i64 (used : Int)] 83 (0, 0)) := (heap_of_setCell _ _ _ _ h2).trans hg6
    have hv7 : (w6.setCell ⟨vo, 0, none⟩ (.slice A1 (m + 1) cp1)).heap[vl]? = some (.cells #[.pointer (some ⟨gl, 0, none⟩)] 49 (0, 0)) := (heap_of_setCell _ _ _ _ h3).trans hv6
    have ho7 := blk_set hb6 0 (.slice A1 (m + 1) cp1)
    have hOw7 := HO6.out.far hb6 (by decide) 0 (.slice A1 (m + 1) cp1)
    clear hb6 hg6 hv6 hc6 hf6 hvl5 o0 of0
    generalize w6.setCell ⟨vo, 0, none⟩ (.slice A1 (m + 1) cp1) = w7 at *
    have k0 := blk_cell0 hv7
    have k1 := blk_cell1 hg7
    have k2 := blk_cell2 hg7
    have f1 := blk_free hg7 1
    have f2 := blk_free hg7 2
    have hsec : ((secN m5 : Nat) : Int) = ((secN m5 : Nat) : Int) := rfl
    have hsb : secN m5 ≤ 1000000000000 := by unfold secN; omega
    have SC := fun w => WSectors_any w A5 m5 cp5 (by omega)
    generalize hsn : secN m5 = sn at SC hsb
    have HT7 := Lib.hid hT7
    have HG7 := Lib.hid hg7
    have HV7 := Lib.hid hv7
    have HOB7 := Lib.hid ho7
    have HOW7 := Lib.hid hOw7
    have HSC := Lib.hid SC
    have HSN := Lib.hid hsn
    clear hT7 hg7 hv7 ho7 hOw7 SC hsn
    clear hsec
    obtain ⟨n1, hn1⟩ : ∃ n1 : Nat, n1 = num + 1 := ⟨_, rfl⟩
    obtain ⟨u1, hu1⟩ : ∃ u1 : Nat, u1 = used + sn := ⟨_, rfl⟩
    have e1 : IntKind.i64.wrap ((num : Int) + 1) = (n1 : Int) := by rw [hn1]; exact wrap_succ num (by omega)
    have e2 : IntKind.i64.wrap ((used : Int) + (sn : Int)) = (u1 : Int) := by rw [hu1]; exact wrap_add used sn (by omega) hsb
    have HN1 := Lib.hid hn1
    have HU1 := Lib.hid hu1
    clear hn1 hu1
    go_wp2_with fail
    refine wp_region_L (S := SL (fun w' => w'.cell? ⟨vl, 0, none⟩ = some (.pointer (some ⟨gl, 0, none⟩))) (fun w' => w'.cell? ⟨gl, 1, none⟩ = some (.int .i64 (num : Int))) (fun w' => w'.cell? ⟨gl, 2, none⟩ = some (.int .i64 (used : Int))) 16 19) (by kernel_rfl) ⟨k0, fun _ => k1, fun _ => k2⟩ (fun hHeld => ?_)
    refine wpAnyL_take (i := 0) (v := ?_) false false rfl (by kernel_rfl) (by kernel_rfl) (by kernel_rfl) (by kernel_rfl) (fun _ _ _ h => h) (Or.inl ⟨by rfl, ?_⟩) hHeld ?_
    rotate_left 1
    focus (intro w hSw; have hq1 := hSw.1; (first | have hq2 := hSw.2.1 rfl | skip); (first | have hq3 := hSw.2.2 rfl | skip); clear hSw; (try dsimp only at hq1); (try dsimp only at hq2); (try dsimp only at hq3); go_simp; try with_reducible rfl)
    replace hHeld := SL.mono 0 hHeld
    try simp only [Act.put, List.setIfInBounds_toArray, List.set_cons_zero, List.set_cons_succ]
    refine wpAnyL_take (i := 1) (v := ?_) false false rfl (by kernel_rfl) (by kernel_rfl) (by kernel_rfl) (by kernel_rfl) (fun _ _ _ h => h) (Or.inl ⟨by rfl, ?_⟩) hHeld ?_
    rotate_left 1
    focus (intro w hSw; have hq1 := hSw.1; (first | have hq2 := hSw.2.1 rfl | skip); (first | have hq3 := hSw.2.2 rfl | skip); clear hSw; (try dsimp only at hq1); (try dsimp only at hq2); (try dsimp only at hq3); go_simp; try with_reducible rfl)
    replace hHeld := SL.mono 1 hHeld
    try simp only [Act.put, List.setIfInBounds_toArray, List.set_cons_zero, List.set_cons_succ]
    refine wpAnyL_take (i := 2) (v := ?_) false false rfl (by kernel_rfl) (by kernel_rfl) (by kernel_rfl) (by kernel_rfl) (fun _ _ _ h => h) (Or.inl ⟨by rfl, ?_⟩) hHeld ?_
    rotate_left 1
    focus (intro w hSw; have hq1 := hSw.1; (first | have hq2 := hSw.2.1 rfl | skip); (first | have hq3 := hSw.2.2 rfl | skip); clear hSw; (try dsimp only at hq1); (try dsimp only at hq2); (try dsimp only at hq3); go_simp; try with_reducible rfl)
    replace hHeld := SL.mono 2 hHeld
    try simp only [Act.put, List.setIfInBounds_toArray, List.set_cons_zero, List.set_cons_succ]
    refine wpAnyL_take (i := 3) (v := ?_) false false rfl (by kernel_rfl) (by kernel_rfl) (by kernel_rfl) (by kernel_rfl) (fun _ _ _ h => h) (Or.inl ⟨by rfl, ?_⟩) hHeld ?_
    rotate_left 1
    focus (intro w hSw; have hq1 := hSw.1; (first | have hq2 := hSw.2.1 rfl | skip); (first | have hq3 := hSw.2.2 rfl | skip); clear hSw; (try dsimp only at hq1); (try dsimp only at hq2); (try dsimp only at hq3); go_simp; try with_reducible rfl)
    replace hHeld := SL.mono 3 hHeld
    try simp only [Act.put, List.setIfInBounds_toArray, List.set_cons_zero, List.set_cons_succ]
    refine wpAnyL_take (i := 4) (v := ?_) false false rfl (by kernel_rfl) (by kernel_rfl) (by kernel_rfl) (by kernel_rfl) (fun _ _ _ h => h) (Or.inl ⟨by rfl, ?_⟩) hHeld ?_
    rotate_left 1
    focus (intro w hSw; have hq1 := hSw.1; (first | have hq2 := hSw.2.1 rfl | skip); (first | have hq3 := hSw.2.2 rfl | skip); clear hSw; (try dsimp only at hq1); (try dsimp only at hq2); (try dsimp only at hq3); go_simp; try with_reducible rfl)
    replace hHeld := SL.mono 4 hHeld
    try simp only [Act.put, List.setIfInBounds_toArray, List.set_cons_zero, List.set_cons_succ]
    refine wpAnyL_take (i := 5) (v := ?_) true false rfl (by kernel_rfl) (by kernel_rfl) (by kernel_rfl) (by kernel_rfl) (fun _ _ _ h => h) (Or.inl ⟨by rfl, ?_⟩) hHeld ?_
    rotate_left 1
    focus (intro w hSw; have hq1 := hSw.1; (first | have hq2 := hSw.2.1 rfl | skip); (first | have hq3 := hSw.2.2 rfl | skip); clear hSw; (try dsimp only at hq1); (try dsimp only at hq2); (try dsimp only at hq3); go_simp; try with_reducible rfl)
    replace hHeld := SL.mono 5 hHeld
    try simp only [Act.put, List.setIfInBounds_toArray, List.set_cons_zero, List.set_cons_succ]
    refine wpAnyL_take (i := 6) (v := ?_) false false rfl (by kernel_rfl) (by kernel_rfl) (by kernel_rfl) (by kernel_rfl) (fun _ _ _ h => h) (Or.inl ⟨by rfl, ?_⟩) hHeld ?_
    rotate_left 1
    focus (intro w hSw; have hq1 := hSw.1; (first | have hq2 := hSw.2.1 rfl | skip); (first | have hq3 := hSw.2.2 rfl | skip); clear hSw; (try dsimp only at hq1); (try dsimp only at hq2); (try dsimp only at hq3); go_simp; try with_reducible rfl)
    replace hHeld := SL.mono 6 hHeld
    try simp only [Act.put, List.setIfInBounds_toArray, List.set_cons_zero, List.set_cons_succ]
    refine wpAnyL_take (i := 7) (v := ?_) false false rfl (by kernel_rfl) (by kernel_rfl) (by kernel_rfl) (by kernel_rfl) (fun _ _ _ h => h) (Or.inl ⟨by rfl, ?_⟩) hHeld ?_
    rotate_left 1
    focus (intro w hSw; have hq1 := hSw.1; (first | have hq2 := hSw.2.1 rfl | skip); (first | have hq3 := hSw.2.2 rfl | skip); clear hSw; (try dsimp only at hq1); (try dsimp only at hq2); (try dsimp only at hq3); go_simp; try with_reducible rfl)
    replace hHeld := SL.mono 7 hHeld
    try simp only [Act.put, List.setIfInBounds_toArray, List.set_cons_zero, List.set_cons_succ]
    refine wpAnyL_take (i := 8) (v := ?_) false false rfl (by kernel_rfl) (by kernel_rfl) (by kernel_rfl) (by kernel_rfl) (fun _ _ _ h => h) (Or.inl ⟨by rfl, ?_⟩) hHeld ?_
    rotate_left 1
    focus (intro w hSw; have hq1 := hSw.1; (first | have hq2 := hSw.2.1 rfl | skip); (first | have hq3 := hSw.2.2 rfl | skip); clear hSw; (try dsimp only at hq1); (try dsimp only at hq2); (try dsimp only at hq3); go_simp; try with_reducible rfl)
    replace hHeld := SL.mono 8 hHeld
    try simp only [Act.put, List.setIfInBounds_toArray, List.set_cons_zero, List.set_cons_succ]
    refine wpAnyL_take (i := 9) (v := ?_) false false rfl (by kernel_rfl) (by kernel_rfl) (by kernel_rfl) (by kernel_rfl) (fun _ _ _ h => h) (Or.inl ⟨by rfl, ?_⟩) hHeld ?_
    rotate_left 1
    focus (intro w hSw; have hq1 := hSw.1; (first | have hq2 := hSw.2.1 rfl | skip); (first | have hq3 := hSw.2.2 rfl | skip); clear hSw; (try dsimp only at hq1); (try dsimp only at hq2); (try dsimp only at hq3); go_simp; try with_reducible rfl)
    replace hHeld := SL.mono 9 hHeld
    try simp only [Act.put, List.setIfInBounds_toArray, List.set_cons_zero, List.set_cons_succ]
    refine wpAnyL_take (i := 10) (v := ?_) false true rfl (by kernel_rfl) (by kernel_rfl) (by kernel_rfl) (by kernel_rfl) (fun _ _ _ h => h) (Or.inl ⟨by rfl, ?_⟩) hHeld ?_
    rotate_left 1
    focus (intro w hSw; have hq1 := hSw.1; (first | have hq2 := hSw.2.1 rfl | skip); (first | have hq3 := hSw.2.2 rfl | skip); clear hSw; (try dsimp only at hq1); (try dsimp only at hq2); (try dsimp only at hq3); go_simp; try with_reducible rfl)
    replace hHeld := SL.mono 10 hHeld
    try simp only [Act.put, List.setIfInBounds_toArray, List.set_cons_zero, List.set_cons_succ]
    refine wpAnyL_take (i := 11) (v := ?_) false false rfl (by kernel_rfl) (by kernel_rfl) (by kernel_rfl) (by kernel_rfl) (fun _ _ _ h => h) (Or.inl ⟨by rfl, ?_⟩) hHeld ?_
    rotate_left 1
    focus (intro w hSw; have hq1 := hSw.1; (first | have hq2 := hSw.2.1 rfl | skip); (first | have hq3 := hSw.2.2 rfl | skip); clear hSw; (try dsimp only at hq1); (try dsimp only at hq2); (try dsimp only at hq3); go_simp; try with_reducible rfl)
    replace hHeld := SL.mono 11 hHeld
    try simp only [Act.put, List.setIfInBounds_toArray, List.set_cons_zero, List.set_cons_succ]
    refine wpAnyL_one (i := 12) (by kernel_rfl) rfl (fun K hK => ?_)
    go_simp
    refine (HSC.out _).mono ?_
    rintro e w8 ⟨rfl, rfl⟩
    dsimp only
    refine hK.out _ _ (SL.mono 12 hHeld) (fun hH2 => ?_)
    clear hHeld hK K
    have hHeld := hH2
    clear hH2
    refine wpAnyL_take (i := 13) (v := ?_) false false rfl (by kernel_rfl) (by kernel_rfl) (by kernel_rfl) (by kernel_rfl) (fun _ _ _ h => h) (Or.inl ⟨by rfl, ?_⟩) hHeld ?_
    rotate_left 1
    focus (intro w hSw; have hq1 := hSw.1; (first | have hq2 := hSw.2.1 rfl | skip); (first | have hq3 := hSw.2.2 rfl | skip); clear hSw; (try dsimp only at hq1); (try dsimp only at hq2); (try dsimp only at hq3); go_simp; try with_reducible rfl)
    replace hHeld := SL.mono 13 hHeld
    try simp only [Act.put, List.setIfInBounds_toArray, List.set_cons_zero, List.set_cons_succ]
    refine wpAnyL_take (i := 14) (v := ?_) false false rfl (by kernel_rfl) (by kernel_rfl) (by kernel_rfl) (by kernel_rfl) (fun _ _ _ h => h) (Or.inl ⟨by rfl, ?_⟩) hHeld ?_
    rotate_left 1
    focus (intro w hSw; have hq1 := hSw.1; (first | have hq2 := hSw.2.1 rfl | skip); (first | have hq3 := hSw.2.2 rfl | skip); clear hSw; (try dsimp only at hq1); (try dsimp only at hq2); (try dsimp only at hq3); go_simp; try with_reducible rfl)
    replace hHeld := SL.mono 14 hHeld
    try simp only [Act.put, List.setIfInBounds_toArray, List.set_cons_zero, List.set_cons_succ]
    refine wpAnyL_take (i := 15) (v := ?_) false false rfl (by kernel_rfl) (by kernel_rfl) (by kernel_rfl) (by kernel_rfl) (fun _ _ _ h => h) (Or.inl ⟨by rfl, ?_⟩) hHeld ?_
    rotate_left 1
    focus (intro w hSw; have hq1 := hSw.1; (first | have hq2 := hSw.2.1 rfl | skip); (first | have hq3 := hSw.2.2 rfl | skip); clear hSw; (try dsimp only at hq1); (try dsimp only at hq2); (try dsimp only at hq3); go_simp; try with_reducible rfl)
    replace hHeld := SL.mono 15 hHeld
    try simp only [Act.put, List.setIfInBounds_toArray, List.set_cons_zero, List.set_cons_succ]
    refine wpAnyL_one (i := 16) (by kernel_rfl) rfl (fun K hK => ?_)
    go_simp
    refine hK.out _ _ ⟨vl_far1 h1 k0, fun h => absurd h (by decide), fun _ => vl_near k2⟩ (fun hH2 => ?_)
    clear hHeld hK K
    have hHeld := hH2
    clear hH2
    refine wpAnyL_take (i := 17) (v := ?_) false false rfl (by kernel_rfl) (by kernel_rfl) (by kernel_rfl) (by kernel_rfl) (fun _ _ _ h => h) (Or.inl ⟨by rfl, ?_⟩) hHeld ?_
    rotate_left 1
    focus (intro w hSw; have hq1 := hSw.1; (first | have hq2 := hSw.2.1 rfl | skip); (first | have hq3 := hSw.2.2 rfl | skip); clear hSw; (try dsimp only at hq1); (try dsimp only at hq2); (try dsimp only at hq3); go_simp; try with_reducible rfl)
    replace hHeld := SL.mono 17 hHeld
    try simp only [Act.put, List.setIfInBounds_toArray, List.set_cons_zero, List.set_cons_succ]
    refine wpAnyL_take (i := 18) (v := ?_) false false rfl (by kernel_rfl) (by kernel_rfl) (by kernel_rfl) (by kernel_rfl) (fun _ _ _ h => h) (Or.inl ⟨by rfl, ?_⟩) hHeld ?_
    rotate_left 1
    focus (intro w hSw; have hq1 := hSw.1; (first | have hq2 := hSw.2.1 rfl | skip); (first | have hq3 := hSw.2.2 rfl | skip); clear hSw; (try dsimp only at hq1); (try dsimp only at hq2); (try dsimp only at hq3); go_simp; try with_reducible rfl)
    replace hHeld := SL.mono 18 hHeld
    try simp only [Act.put, List.setIfInBounds_toArray, List.set_cons_zero, List.set_cons_succ]
    refine wpAnyL_one (i := 19) (by kernel_rfl) rfl (fun K hK => ?_)
    go_simp
    refine hK.out _ _ ⟨vl_far2 h1 k0, fun h => absurd h (by decide), fun h => absurd h (by decide)⟩ (fun hH2 => ?_)
    clear hHeld hH2 hK K
    refine wpAnyL_done (by kernel_rfl) ?_
    all_goals go_wp2_with fail
    all_goals refine bodyPost_ret (results_tmp rfl _ _ _) rfl ?_
    all_goals
      have hcg : c6 gl = some gl := (HCOL.out gl (blk_lt HL5.out.2)).trans HL5.out.1
      have hcv : c6 vo = some vo := (HCOL.out vo (blk_lt HO1.out)).trans hco
      rw [HSN.out]
      rw [← HN1.out, ← HU1.out]
      have hf := next_end HT7.out HG7.out HOB7.out HOW7.out hcg hcv h2 n1 u1
      refine ⟨rfl, c6, HT5.out.then hf.1, hf.2.1, hcv, _, _, _, _, hf.2.2.1, hf.2.2.2, ?_, by rw [List.length_append, ho4]; rfl⟩
      have hxl := HRX.out.len
      exact (HO3.out.append (Reps.one ⟨_, _, _, rfl, HRX.out⟩)).keep hf.1.kp
end Go.Proofs.Ytalihocoekplgaa
