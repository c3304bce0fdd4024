/- The law ClientCounts: its walk. -/
import Derived.Test.YtladpckbajnbeaaCliI
import Derived.Test.YtladpckbajnbeaaOpenP
import Derived.Test.YtladpckbajnbeaaTupleBack
set_option linter.unusedVariables false
set_option linter.unusedSimpArgs false
namespace Go.Proofs.Ytladpckbajnbeaa
open Go.RowKit

abbrev bCells (s : List Bool) : Array Value := (s.map Value.bool).toArray
theorem bCells_at {s : List Bool} {i : Nat} {v : Bool} (h : s[i]? = some v) : (bCells s)[i]? = some (.bool v) := by simp [bCells, h]
theorem bCells_set (s : List Bool) (i : Nat) : (bCells s).setIfInBounds i (.bool true) = bCells (s.set i true) := by simp [bCells, List.map_set]
set_option maxRecDepth 100000 in
set_option maxHeartbeats 4000000 in
theorem ClientCounts_any (w : World) (f : Int) (r : Rep) (A : Option Addr) (n cp : Nat) (B : Option Addr) (m cq : Nat) (l : List Int) (hx : Rd kFld w (fun _ => none) A n cp r.t) (hy : Rd kInt w (fun _ => none) B m cq l) :
    Calls Try.prog 9 #[.int .i64 f, pV r A n cp, .slice B m cq] w (BoolPost w true) := by
  obtain ⟨k, hk, hk3⟩ := rem_small f 3 (by omega) (by omega)
  simp at hk
  have hln := hx.1
  have hlm := hy.1
  have hmm := hy.max
  have hok : r.ok := hx.oks
  generalize hkr : wordB r = kr
  obtain ⟨cl, sq, kd, t, lt⟩ := r
  dsimp only [pV] at *
  have HKR := Lib.hid hkr
  have HX := Lib.hid hx
  have HY := Lib.hid hy
  have HLN := Lib.hid hln
  have HLM := Lib.hid hlm
  have HOK := Lib.hid hok
  clear hx hy hln hlm hok
  clear hkr
  have ht0 := (Tr.new (c := fun _ => none) (Wf.none w) (.cells #[.int .i64 cl, .int .i64 sq, .int .i64 kd, .slice A n cp, .bool lt] 52)).hot (k := w.heap.size) (g := w.heap.size) (Nat.le_refl _) (by simp) (by simp) (.inr (Nat.le_refl _))
  have HL0 := Lib.hid (Loc.new (fun _ => none) w 52 #[.int .i64 cl, .int .i64 sq, .int .i64 kd, .slice A n cp, .bool lt])
  have HT0 := Lib.hid ht0
  have HX0 := Lib.hid (HX.out.tr ht0)
  have HY0 := Lib.hid (HY.out.tr ht0)
  generalize hc0 : Col.set (fun _ => none) w.heap.size w.heap.size = c0 at ht0 HL0 HT0 HX0 HY0
  clear ht0 hc0
  go_enter Try.func9, Try.ntmps9
  go_wp2_with fail
  refine (CNew_ok _ c0 (k : Int) (by omega) (by omega) HT0.out.wf).mono ?_
  rintro e w1 ⟨g, c1, rfl, q_HT1, hg, q_HD1⟩
  have HT1 := Lib.hid q_HT1
  have HD1 := Lib.hid q_HD1
  clear q_HT1 q_HD1
  have HL1 := Lib.hid (HL0.out.tr HT1.out (fun h => h))
  have x0 := HL1.out.cell 0
  have x1 := HL1.out.cell 1
  have x2 := HL1.out.cell 2
  have x3 := HL1.out.cell 3
  have x4 := HL1.out.cell 4
  simp at x0 x1 x2 x3 x4
  have HX1 := Lib.hid (HX0.out.tr HT1.out)
  have HY1 := Lib.hid (HY0.out.tr HT1.out)
  have hgw : w.heap.size < g := by simp at hg; omega
  cases hmp : mayP ⟨cl, sq, kd, t, lt⟩ with
  | false =>
    have HM := Lib.hid hmp
    clear hmp
    go_wp2_with fail
    refine (bool_eq HM.out (r18May_any w1 c1 ⟨cl, sq, kd, t, lt⟩ A n cp HX1.out)).mono ?_
    rintro e w2 ⟨rfl, q_HB2⟩
    have HB2 := Lib.hid q_HB2
    clear q_HB2
    go_wp2_with fail
    refine (told19 _).mono ?_
    rintro e w3 ⟨rfl, q_HB3⟩
    have HB3 := Lib.hid q_HB3
    clear q_HB3
    go_wp2_with fail
    refine bodyPost_ret (results_tmp rfl _ _ _) rfl ?_
    exact ⟨rfl, ((((HT0.out.then HT1.out).then (Tr.of_below HT1.out.wf HB2.out)).then (Tr.of_below (HT1.out.wf.below HB2.out) HB3.out))).below (fun _ _ h => h)⟩
  | true =>
    have HM := Lib.hid hmp
    have ht6 := mayP_t hmp
    clear hmp
    dsimp only at ht6
    rw [HLN.out] at ht6
    go_wp2_with fail
    refine (bool_eq HM.out (r18May_any w1 c1 ⟨cl, sq, kd, t, lt⟩ A n cp HX1.out)).mono ?_
    rintro e w2 ⟨rfl, q_HB2⟩
    have HB2 := Lib.hid q_HB2
    clear q_HB2
    have HL2 := Lib.hid (HL1.out.tr (Tr.of_below (M := fun _ => False) HT1.out.wf HB2.out) (fun h => h))
    have y3 := HL2.out.cell 3
    simp at y3
    have hn6 : ¬ ((6 : Int) < (n : Int)) := by omega
    have htb := Tr.of_below (M := fun _ => False) HT1.out.wf HB2.out
    have ht2 := (Tr.new htb.wf (.cells #[.bool false, .bool false, .bool false, .bool false, .bool false, .bool false, .bool false] 72)).hot (k := w2.heap.size) (g := w2.heap.size) (Nat.le_refl _) (by simp) (by simp) (.inr (Nat.le_refl _))
    have HS3 : Hid (Loc (w2.alloc (.cells #[.bool false, .bool false, .bool false, .bool false, .bool false, .bool false, .bool false] 72)) (c1.set w2.heap.size w2.heap.size) w2.heap.size 72 (bCells allF)) := Loc.new c1 w2 72 #[.bool false, .bool false, .bool false, .bool false, .bool false, .bool false, .bool false]
    have HL3 := Lib.hid (HL2.out.tr ht2 (fun h => h))
    have HX3 := Lib.hid ((HX1.out.tr htb).tr ht2)
    have HY3 := Lib.hid ((HY1.out.tr htb).tr ht2)
    have HT3 := Lib.hid (((HT0.out.then HT1.out).then htb).then ht2)
    have HD3 := Lib.hid ((HD1.out.tr htb (fun h => h)).tr ht2 (fun h => h))
    have hgs : g < w2.heap.size := Nat.lt_of_lt_of_le HD1.out.lt HB2.out.size
    clear htb ht2
    go_wp2_with fail
    generalize (w2.alloc (.cells #[.bool false, .bool false, .bool false, .bool false, .bool false, .bool false, .bool false] 72)) = w3 at *
    generalize c1.set w2.heap.size w2.heap.size = c3 at *
    generalize w2.heap.size = bs at *
    generalize hb0 : w.heap.size = b0 at *
    have hg0 : g ≠ b0 := by omega
    have hgs2 : g ≠ bs := by omega
    go_loopw [11, 12] (fun o v wr => ∃ (j nn : Nat) (c' : Col) (S : Sd) (T : List Rep) (s : List Bool), v = .int .i64 (j : Int) ∧ o = .int .i64 (nn : Int) ∧ j ≤ m ∧ j ≤ 40 ∧ nn ≤ 7 ∧ Hid (S kr = s) ∧ Hid (s.length = 7) ∧ Hid (s.count true = nn) ∧ Hid (T = if k < nn then [⟨cl, sq, kd, t, lt⟩] else []) ∧
      Hid (Tr (fun _ => False) (fun _ => none) c' w wr) ∧ Hid (Dsk wr c' g (k : Int) S T j) ∧ Hid (Loc wr c' b0 52 #[.int .i64 cl, .int .i64 sq, .int .i64 kd, .slice A n cp, .bool lt]) ∧ Hid (Loc wr c' bs 72 (bCells s)) ∧ Hid (Rd kFld wr c' A n cp t) ∧ Hid (Rd kInt wr c' B m cq l)) (fun _ v _ => 40 - (intOf v).toNat)
    case atStart => exact ⟨0, 0, c3, fun _ => allF, [], allF, rfl, rfl, by omega, by omega, by omega, rfl, rfl, rfl, by show _ = _; rw [if_neg (by omega)], HT3.out, HD3.out, HL3.out, HS3.out, HX3.out, HY3.out⟩
    case round =>
      obtain ⟨j, nn, c', S, T, s, rfl, rfl, hj, hj40, hn7, HSK, HSL, HSC, HTE, HT, HD, HLb, HS, HXr, HYr⟩ := hrel
      have x0 := HLb.out.cell 0
      have x1 := HLb.out.cell 1
      have x2 := HLb.out.cell 2
      have x3 := HLb.out.cell 3
      have x4 := HLb.out.cell 4
      simp at x0 x1 x2 x3 x4
      by_cases hlt : j < m ∧ j < 40
      · obtain ⟨hlt, hl40⟩ := hlt
        have hj1 : (j : Int) < (m : Int) := by omega
        have hj2 : (j : Int) < 40 := by omega
        have hj0 : (0 : Int) ≤ (j : Int) := by omega
        obtain ⟨bb, off, rfl⟩ := HYr.out.addr (by omega)
        obtain ⟨z, hz⟩ : ∃ z, l[j]? = some z := ⟨_, List.getElem?_eq_getElem (by rw [HLM.out]; exact hlt)⟩
        have hcz := HYr.out.int hz
        obtain ⟨mm, hmz, hm12⟩ := rem_small z 12 (by omega) (by omega)
        simp at hmz
        have HR := Lib.hid (rep1 HT.out.wf ⟨cl, sq, kd, t, lt⟩ HXr.out)
        have HTA := Lib.hid (HT.out.alloc (.cells #[.int .i64 cl, .int .i64 sq, .int .i64 kd, .slice A n cp, .bool lt] 52))
        have htn := Tr.new HT.out.wf (.cells #[.int .i64 cl, .int .i64 sq, .int .i64 kd, .slice A n cp, .bool lt] 52)
        have HTN := Lib.hid htn
        have HDA := Lib.hid (HD.out.tr htn (fun h => h))
        have HLA := Lib.hid (HLb.out.tr htn (fun h => h))
        have HSA := Lib.hid (HS.out.tr htn (fun h => h))
        have HXA := Lib.hid (HXr.out.tr htn)
        have HYA := Lib.hid (HYr.out.tr htn)
        clear htn hz
        by_cases hin : 2 ≤ mm ∧ mm ≤ 3 * k + 2
        · obtain ⟨i, rfl⟩ : ∃ i, mm = i + 2 := ⟨mm - 2, by omega⟩
          have hi3 : (i : Int) ≤ 3 * (k : Int) := by omega
          have hi7 : i < 7 := by omega
          have hi0 : (0 : Int) ≤ (i : Int) := by omega
          have hi77 : (i : Int) < 7 := by omega
          obtain ⟨v, hv⟩ : ∃ v, s[i]? = some v := ⟨_, List.getElem?_eq_getElem (by rw [HSL.out]; exact hi7)⟩
          cases v with
          | true =>
            have hq := hear_set (f := (k : Int)) (T := T) HM.out (show (S (wordB ⟨cl, sq, kd, t, lt⟩))[i]? = some true by rw [HKR.out, HSK.out]; exact hv)
            have HV := Lib.hid hv
            clear hv
            go_wp2_with fail
            refine (CHear_eq _ c' g k S T j i i (some ⟨wr.heap.size, 0, none⟩) 1 1 [(⟨cl, sq, kd, t, lt⟩ : Rep)] _ _ _ hq rfl (by omega) (by omega) (by omega) (by omega) HTA.out.wf HDA.out HR.out).mono ?_
            rintro e w5 ⟨B5, cp5, rfl, c5, q_HR5, q_HT5, q_HD5⟩
            have HR5 := Lib.hid q_HR5
            have HT5 := Lib.hid q_HT5
            have HD5 := Lib.hid q_HD5
            clear q_HR5 q_HT5 q_HD5
            have HS5 := Lib.hid (HSA.out.tr HT5.out (fun h => hgs2 h.symm))
            have s5 := HS5.out.cell i
            rw [bCells_at HV.out] at s5
            have HL5 := Lib.hid (HLA.out.tr HT5.out (fun h => hg0 h.symm))
            have HX5 := Lib.hid (HXA.out.tr HT5.out)
            have HY5 := Lib.hid (HYA.out.tr HT5.out)
            have HT6 := Lib.hid (HTA.out.low HT5.out (by omega))
            go_wp2_with fail
            exact ⟨⟨j + 1, nn, c5, S, T, s, by simp, rfl, by omega, by omega, hn7, HSK.out, HSL.out, HSC.out, HTE.out, HT6.out, HD5.out, HL5.out, HS5.out, HX5.out, HY5.out⟩, by simp [intOf]; omega⟩
          | false =>
            have hq := hear_new (k := k) (T := T) HM.out (show (S (wordB (⟨cl, sq, kd, t, lt⟩ : Rep)))[i]? = some false by rw [HKR.out, HSK.out]; exact hv)
            rw [HKR.out, HSK.out, HSC.out] at hq
            have HV := Lib.hid hv
            have hc1 : (s.set i true).count true = nn + 1 := by rw [count_set hv, HSC.out]
            have hc7 : nn + 1 ≤ 7 := by rw [← hc1]; exact count_le7 (by rw [List.length_set]; exact HSL.out)
            have HC1 := Lib.hid hc1
            have HSK' : Hid ((S.put kr i) kr = s.set i true) := by show _ = _; rw [Sd.put_self, HSK.out]
            have HSL' : Hid ((s.set i true).length = 7) := by show _ = _; rw [List.length_set]; exact HSL.out
            clear hv hc1
            by_cases hnk : nn = k
            · rw [if_pos hnk] at hq
              have hT0 : T = [] := by rw [HTE.out, if_neg (by omega)]
              subst hT0
              have hnk1 : ((nn : Int) + 1 == (k : Int) + 1) = true := by simp; omega
              go_wp2_with fail
              refine (CHear_eq _ c' g k S [] j i i (some ⟨wr.heap.size, 0, none⟩) 1 1 [(⟨cl, sq, kd, t, lt⟩ : Rep)] _ _ _ hq rfl (by omega) (by omega) (by omega) (by omega) HTA.out.wf HDA.out HR.out).mono ?_
              rintro e w5 ⟨B5, cp5, rfl, c5, q_HR5, q_HT5, q_HD5⟩
              have HR5 := Lib.hid q_HR5
              have HT5 := Lib.hid q_HT5
              have HD5 := Lib.hid q_HD5
              clear q_HR5 q_HT5 q_HD5
              have HS5 := Lib.hid (HSA.out.tr HT5.out (fun h => hgs2 h.symm))
              have s5 := HS5.out.cell i
              rw [bCells_at HV.out] at s5
              have sf5 := HS5.out.frozen i
              have HS6 : Hid (Loc (w5.setCell ⟨bs, i, none⟩ (.bool true)) c5 bs 72 (bCells (s.set i true))) := by
                have h := HS5.out.set_ i (.bool true)
                rw [bCells_set] at h
                exact h
              have HTs := Lib.hid ((Tr.refl (· = bs) HT5.out.wf).setCell (p := ⟨bs, i, none⟩) HS5.out.1 (.inl rfl) (.bool true))
              have HL5 := Lib.hid ((HLA.out.tr HT5.out (fun h => hg0 h.symm)).tr HTs.out (by omega))
              have HX5 := Lib.hid ((HXA.out.tr HT5.out).tr HTs.out)
              have HY5 := Lib.hid ((HYA.out.tr HT5.out).tr HTs.out)
              have HT6 := Lib.hid ((HTA.out.low HT5.out (by omega)).setCell (p := ⟨bs, i, none⟩) HS5.out.1 (.inr (by omega)) (.bool true))
              have HD6 := Lib.hid (HD5.out.tr HTs.out (fun h => hgs2 h))
              have HR6 := Lib.hid (HR5.out.tr HTs.out)
              go_wp2_with fail
              generalize w5.setCell ⟨bs, i, none⟩ (.bool true) = W6 at *
              obtain ⟨bq, oq, rfl⟩ := HR6.out.addr (by simp)
              obtain ⟨A9, n9, cp9, hR9, e0, e1, e2, e3, e4⟩ := HR6.out.rep (k := 0) (x := (⟨cl, sq, kd, t, lt⟩ : Rep)) rfl
              simp at e0 e1 e2 e3 e4
              have C0 := Lib.hid (fun d os => bool_eq (show sameP (⟨cl, sq, kd, t, lt⟩ : Rep) (⟨cl, sq, kd, t, lt⟩ : Rep) = true from sameP_iff.2 rfl) (r6SameP_any (Sort.grow (redrawn W6 d) os) c5 (⟨cl, sq, kd, t, lt⟩ : Rep) (⟨cl, sq, kd, t, lt⟩ : Rep) A9 n9 cp9 A n cp (hR9.below (below_regrown W6 d os)) (HX5.out.below (below_regrown W6 d os))))
              have z0 := HL5.out.cell 0
              have z1 := HL5.out.cell 1
              have z2 := HL5.out.cell 2
              have z3 := HL5.out.cell 3
              have z4 := HL5.out.cell 4
              simp at z0 z1 z2 z3 z4
              have i0 := cell_regrown e0
              have i1 := cell_regrown e1
              have i2 := cell_regrown e2
              have i3 := cell_regrown e3
              have i4 := cell_regrown e4
              have j0 := cell_regrown z0
              have j1 := cell_regrown z1
              have j2 := cell_regrown z2
              have j3 := cell_regrown z3
              have j4 := cell_regrown z4
              clear e0 e1 e2 e3 e4 z0 z1 z2 z3 z4 hR9
              refine wp_region_quiet_below (by kernel_rfl) (by kernel_rfl) ?_
              repeat ((with_reducible refine wpQuiet_step (fun K hK => ?_)); go_simp; first | (with_reducible refine hK _ ?_; clear hK K) | (rw [if_neg (by decide)]; with_reducible refine hK _ ?_; clear hK K) | (apply Exists.intro; refine ⟨fun _ => ?_, hK _ ?_⟩; (first | with_reducible exact regrown_bool (C0.out _ _)); clear hK K))
              with_reducible refine wpQuiet_nil ?_
              intro _ hw'
              obtain ⟨⟨dq, osq⟩, hw''⟩ := hw'
              subst hw''
              go_wp2_with fail
              have hb9 := below_regrown W6 dq osq
              have hT9 := Tr.of_below (M := fun _ => False) HTs.out.wf hb9
              refine ⟨⟨j + 1, nn + 1, c5, S.put kr i, [(⟨cl, sq, kd, t, lt⟩ : Rep)], s.set i true, by simp, by simp; omega, by omega, by omega, hc7, HSK'.out, HSL'.out, HC1.out, ?_, HT6.out.then hT9, HD6.out.tr hT9 (fun h => h), HL5.out.tr hT9 (fun h => h), HS6.out.tr hT9 (fun h => h), HX5.out.tr hT9, HY5.out.tr hT9⟩, by simp [intOf]; omega⟩
              show _ = _
              rw [if_pos (by omega)]
            · rw [if_neg hnk] at hq
              have hnk1 : ((nn : Int) + 1 == (k : Int) + 1) = false := by simp; omega
              go_wp2_with fail
              refine (CHear_eq _ c' g k S T j i i (some ⟨wr.heap.size, 0, none⟩) 1 1 [(⟨cl, sq, kd, t, lt⟩ : Rep)] _ _ _ hq rfl (by omega) (by omega) (by omega) (by omega) HTA.out.wf HDA.out HR.out).mono ?_
              rintro e w5 ⟨B5, cp5, rfl, c5, q_HR5, q_HT5, q_HD5⟩
              have HR5 := Lib.hid q_HR5
              have HT5 := Lib.hid q_HT5
              have HD5 := Lib.hid q_HD5
              clear q_HR5 q_HT5 q_HD5
              have HS5 := Lib.hid (HSA.out.tr HT5.out (fun h => hgs2 h.symm))
              have s5 := HS5.out.cell i
              rw [bCells_at HV.out] at s5
              have sf5 := HS5.out.frozen i
              have HS6 : Hid (Loc (w5.setCell ⟨bs, i, none⟩ (.bool true)) c5 bs 72 (bCells (s.set i true))) := by
                have h := HS5.out.set_ i (.bool true)
                rw [bCells_set] at h
                exact h
              have HTs := Lib.hid ((Tr.refl (· = bs) HT5.out.wf).setCell (p := ⟨bs, i, none⟩) HS5.out.1 (.inl rfl) (.bool true))
              have HL5 := Lib.hid ((HLA.out.tr HT5.out (fun h => hg0 h.symm)).tr HTs.out (by omega))
              have HX5 := Lib.hid ((HXA.out.tr HT5.out).tr HTs.out)
              have HY5 := Lib.hid ((HYA.out.tr HT5.out).tr HTs.out)
              have HT6 := Lib.hid ((HTA.out.low HT5.out (by omega)).setCell (p := ⟨bs, i, none⟩) HS5.out.1 (.inr (by omega)) (.bool true))
              have HD6 := Lib.hid (HD5.out.tr HTs.out (fun h => hgs2 h))
              go_wp2_with fail
              exact ⟨⟨j + 1, nn + 1, c5, S.put kr i, T, s.set i true, by simp, by simp, by omega, by omega, hc7, HSK'.out, HSL'.out, HC1.out, by show _ = _; rw [HTE.out]; by_cases h : k < nn; (rw [if_pos h, if_pos (by omega)]); (rw [if_neg h, if_neg (by omega)]), HT6.out, HD6.out, HL5.out, HS6.out, HX5.out, HY5.out⟩, by simp [intOf]; omega⟩
        · obtain ⟨v, hv⟩ : ∃ v : Int, (mm : Int) - 2 = v := ⟨_, rfl⟩
          have hvv : v < 0 ∨ 3 * (k : Int) < v := by omega
          go_wp2_with fail
          refine (CHear_off _ c' g k S T j v (some ⟨wr.heap.size, 0, none⟩) 1 1 (by omega) (by omega) (by rw [← hv]; omega) HDA.out).mono ?_
          rintro e w5 ⟨rfl, rfl⟩
          rcases hvv with hv0 | hv0
          · have hv1 : ¬ (0 ≤ v) := by omega
            go_wp2_with fail
            exact ⟨⟨j + 1, nn, c', S, T, s, by simp, rfl, by omega, by omega, hn7, HSK.out, HSL.out, HSC.out, HTE.out, HTA.out, HDA.out.mono (by omega), HLA.out, HSA.out, HXA.out, HYA.out⟩, by simp [intOf]; omega⟩
          · have hv1 : 0 ≤ v := by omega
            have hv2 : ¬ (v ≤ 3 * (k : Int)) := by omega
            go_wp2_with fail
            exact ⟨⟨j + 1, nn, c', S, T, s, by simp, rfl, by omega, by omega, hn7, HSK.out, HSL.out, HSC.out, HTE.out, HTA.out, HDA.out.mono (by omega), HLA.out, HSA.out, HXA.out, HYA.out⟩, by simp [intOf]; omega⟩
      · have HEND : Hid (¬ ((j : Int) < (m : Int)) ∨ ((j : Int) < (m : Int) ∧ ¬ ((j : Int) < 40))) := by
          show _ ∨ _
          omega
        have HMAY : Hid (∀ x ∈ T, mayP x = true) := by
          intro x hx
          rw [HTE.out] at hx
          split at hx
          · rw [List.mem_singleton.1 hx]; exact HM.out
          · cases hx
        have hTl : T.length = if k < nn then 1 else 0 := by rw [HTE.out]; split <;> rfl
        have hquo : (nn : Int).tdiv ((k : Int) + 1) = ((nn / (k + 1) : Nat) : Int) := by
          have : (k : Int) + 1 = ((k + 1 : Nat) : Int) := by omega
          rw [this]
          exact (Int.ofNat_tdiv nn (k + 1)).symm
        obtain ⟨d, hd⟩ : ∃ d, nn / (k + 1) = d := ⟨_, rfl⟩
        have hd1 : T.length = min d 1 := by
          rw [hTl, ← hd]
          split
          · rename_i h
            have : 1 ≤ nn / (k + 1) := (Nat.le_div_iff_mul_le (by omega)).2 (by omega)
            omega
          · rename_i h
            have : nn / (k + 1) = 0 := Nat.div_eq_of_lt (by omega)
            omega
        rw [hd] at hquo
        have HTK : Hid (∀ W, Below wr.heap.size wr W → Calls Try.prog 31 #[.pointer (some ⟨g, 0, none⟩)] W fun e w' => ∃ A cp, e = .returned (.slice A T.length cp) ∧ ∃ c2, Rd kRep w' c2 A T.length cp T ∧ Tr (fun _ => False) c' c2 W w') := by
          intro W hW
          exact CTaken_eq W c' g k S T j (by omega) HMAY.out (HT.out.wf.below hW) (HD.out.tr (Tr.of_below (M := fun _ => False) HT.out.wf hW) (fun h => h))
        have hk10 : (k : Int) + 1 ≠ 0 := by omega
        have hdn : d ≤ 7 := by rw [← hd]; exact Nat.le_trans (Nat.div_le_self _ _) hn7
        have hwk : IntKind.i64.wrap ((k : Int) + 1) = (k : Int) + 1 := i64_in _ (by omega)
        have hwd : IntKind.i64.wrap ((nn : Int).tdiv ((k : Int) + 1)) = (d : Int) := by rw [hquo]; exact i64_in _ (by omega)
        have hwd2 : IntKind.i64.wrap ((nn : Int) / ((k : Int) + 1)) = (d : Int) := by
          have e : (nn : Int) / ((k : Int) + 1) = (nn : Int).tdiv ((k : Int) + 1) := (Int.tdiv_eq_ediv_of_nonneg (by omega)).symm
          rw [e]
          exact hwd
        clear hTl hlt hquo
        obtain ⟨tl, htl⟩ : ∃ tl, T.length = tl := ⟨_, rfl⟩
        rw [htl] at HTK hd1
        have hdd : (d = 0 ∧ tl = 0) ∨ (d = 1 ∧ tl = 1) ∨ (1 < d ∧ tl = 1) := by omega
        clear hd hd1 htl
        rcases HEND.out with he | ⟨he, he2⟩ <;> rcases hdd with ⟨rfl, rfl⟩ | ⟨rfl, rfl⟩ | ⟨hd2, rfl⟩
        all_goals
          clear HEND
          try have hd3 : (1 : Int) < (d : Int) := by omega
          try have hd4 : ¬ ((d : Int) < 1) := by omega
          go_wp2_with fail
          go_region_held3 (fun _ => True) (trivial)
            (first
            | (go_at_call 30; refine (told19 _).mono ?_; rintro e w6 ⟨rfl, hb6⟩; have HBZ := Lib.hid (below_then (below_drew (Below.refl _ wr)) hb6))
            | (go_at_call 31; refine (HTK.out w6 HBZ.out).mono ?_; rintro e w7 ⟨A7, cp7, rfl, c7, hR7, hT7⟩; have HT7 := Lib.hid hT7))
          all_goals
            go_wp2_with fail
            refine bodyPost_ret (results_tmp rfl _ _ _) rfl ?_
            exact ⟨rfl, ((HT.out.then (Tr.of_below HT.out.wf HBZ.out)).then HT7.out).below (fun _ _ h => h)⟩
end Go.Proofs.Ytladpckbajnbeaa
