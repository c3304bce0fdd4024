/- client: the document's desk hears: its walk. -/
import Derived.Test.YtladpckbajnbeaaCliK
import Derived.Deep.CutRange
set_option linter.unusedVariables false
set_option linter.unusedSimpArgs false
namespace Go.Proofs.Ytladpckbajnbeaa
open Go.RowKit

set_option maxRecDepth 100000 in
theorem RHear_off (w : World) (c : Col) (g : Nat) (f : Int) (L : List Ent) (T : List Rep) (N : Nat) (v : Int) (B : Option Addr) (m cq : Nat) (hf0 : 0 ≤ f) (hf2 : f ≤ 2) (hv : v < 0 ∨ 3 * f < v) (hD : Rst w c g f L T N) :
    Calls Try.prog 34 #[.pointer (some ⟨g, 0, none⟩), .int .i64 v, .slice B m cq] w fun e w' => e = .returned (.slice none 0 0) ∧ w = w' := by
  obtain ⟨hg, A1, n1, cp1, cells, A', n', cp', cells', h1, _⟩ := hD
  have d0 := blk_cell0 h1
  have HV := Lib.hid hv
  clear hv h1
  go_enter Try.func34, Try.ntmps34
  go_wp2_with fail
  all_goals
    first
      | (refine bodyPost_ret (results_tmp rfl _ _ _) rfl ?_; exact ⟨rfl, rfl⟩)
      | (exfalso; have := HV.out; omega)
theorem place_iff {L : List Ent} {x : Rep} {j : Nat} {y : Ent} (hy : L[j]? = some y) (hj : j ≤ place L x) : sameP y.r x = true ↔ j = place L x := by
  have hlt := (List.getElem?_eq_some_iff.1 hy).1
  constructor
  · intro h
    by_cases hjp : j < place L x
    · exfalso
      have h1 := List.not_of_lt_findIdx (p := fun (e : Ent) => sameP e.r x) (xs := L) hjp
      have h2 : L[j] = y := (List.getElem?_eq_some_iff.1 hy).2
      simp only [h2, h] at h1
      simp at h1
    · omega
  · intro h
    obtain ⟨e, h1, h2⟩ := place_hit (L := L) (x := x) (by omega)
    rw [← h, hy] at h1
    cases h1
    exact sameP_iff.2 h2
set_option maxRecDepth 100000 in
set_option maxHeartbeats 8000000 in
theorem RHear_any (w : World) (c : Col) (g : Nat) (f : Int) (L : List Ent) (T : List Rep) (N : Nat) (i : Nat) (B : Option Addr) (m cq : Nat) (l : List Rep) (hi : (i : Int) ≤ 3 * f) (hf0 : 0 ≤ f) (hf2 : f ≤ 2) (hN : N + m < 1000000) (hw : Wf c w)
    (hD : Rst w c g f L T N) (hx : Rd kRep w c B m cq l) :
    Calls Try.prog 34 #[.pointer (some ⟨g, 0, none⟩), .int .i64 (i : Int), .slice B m cq] w fun e w' => ∃ A n cp, e = .returned (.slice A n cp) ∧ ∃ c', Rd kRep w' c' A n cp (refL f i ⟨L, T, []⟩ l).out ∧ Tr (· = g) c c' w w' ∧
      Rst w' c' g f (refL f i ⟨L, T, []⟩ l).L (refL f i ⟨L, T, []⟩ l).T (N + m) := by
  have hln := hx.1
  have hgl := hD.lt
  have hd := hD
  obtain ⟨hg, A1, n1, cp1, cells, A', n', cp', cells', h1, _⟩ := hd
  have d0 := blk_cell0 h1
  have hi7 : i < 7 := by omega
  have hi0 : (0 : Int) ≤ (i : Int) := by omega
  have hi77 : (i : Int) < 7 := by omega
  clear h1
  have HX := Lib.hid hx
  have HW := Lib.hid hw
  have HLN := Lib.hid hln
  have HD := Lib.hid hD
  clear hx hw hln hD
  go_enter Try.func34, Try.ntmps34
  go_wp2_with fail
  go_loopw [7, 8] (fun o v wr => ∃ (k n2 cp2 : Nat) (A2 : Option Addr) (c2 : Col) (cells2 : List Value) (q : RS2), v = .int .i64 (k : Int) ∧ o = .slice A2 n2 cp2 ∧ k ≤ m ∧ n2 ≤ k ∧ Hid (refL f i ⟨L, T, []⟩ (l.take k) = q) ∧ Hid (Tr (· = g) c c2 w wr) ∧ Hid (Rst wr c2 g f q.L q.T (N + k)) ∧
    Hid (OwnR wr c2 w.heap.size 52 5 A2 n2 cp2 cells2) ∧ Hid (Reps kRep wr c2 q.out cells2)) (fun _ v _ => m - (intOf v).toNat)
  case atStart => exact ⟨0, 0, 0, none, c, [], ⟨L, T, []⟩, rfl, rfl, by omega, by omega, rfl, Tr.refl _ HW.out, HD.out, OwnR.nil _ _ _ _ _, Reps.nil _ _ _⟩
  case round =>
    obtain ⟨k, n2, cp2, A2, c2, cells2, q, rfl, rfl, hk, hn2, HQ, HT2, HD2, HO2, HR2⟩ := hrel
    by_cases hlt : k < m
    · obtain ⟨bb, off, rfl⟩ := HX.out.addr (by omega)
      obtain ⟨x, hxk⟩ : ∃ x, l[k]? = some x := ⟨_, List.getElem?_eq_getElem (by rw [HLN.out]; exact hlt)⟩
      obtain ⟨A3, n3, cp3, hR3, e0, e1, e2, e3, e4⟩ := (HX.out.tr HT2.out).rep hxk
      have HNEXT : Hid (refL f i ⟨L, T, []⟩ (l.take (k + 1)) = refOne f i q x) := by
        show _ = _
        rw [take_snoc' hxk, refL_snoc, HQ.out]
      obtain ⟨cl, sq, kd, t, lt⟩ := x
      dsimp only at *
      have hk0 : (0 : Int) ≤ (k : Int) := Int.natCast_nonneg _
      have hk1 : (k : Int) < (m : Int) := by omega
      have HR3 := Lib.hid hR3
      have HXK := Lib.hid hxk
      clear hR3 hxk
      cases hmp : mayP ⟨cl, sq, kd, t, lt⟩ with
      | false =>
        have HM := Lib.hid hmp
        clear hmp
        go_wp2_with fail
        refine (bool_eq HM.out (r18May_any _ c2 ⟨cl, sq, kd, t, lt⟩ A3 n3 cp3 HR3.out)).mono ?_
        rintro e w3 ⟨rfl, q_HB3⟩
        have HB3 := Lib.hid q_HB3
        clear q_HB3
        have HT3 := Lib.hid (Tr.of_below (M := fun _ => False) HT2.out.wf HB3.out)
        go_wp2_with fail
        refine ⟨⟨k + 1, n2, cp2, A2, c2, cells2, q, by simp, rfl, by omega, by omega, ?_, HT2.out.trans HT3.out (fun _ _ h => absurd h (fun h => h)), (HD2.out.tr HT3.out (fun h => h)).mono (by omega), HO2.out.keep HT3.out (fun _ _ h => h), HR2.out.keep HT3.out.kp⟩, by simp [intOf]; omega⟩
        show _ = _
        rw [HNEXT.out]
        unfold refOne
        rw [if_neg (by rw [HM.out]; simp)]
      | true =>
        have HM := Lib.hid hmp
        clear hmp
        go_wp2_with fail
        refine (bool_eq HM.out (r18May_any _ c2 ⟨cl, sq, kd, t, lt⟩ A3 n3 cp3 HR3.out)).mono ?_
        rintro e w3 ⟨rfl, q_HB3⟩
        have HB3 := Lib.hid q_HB3
        clear q_HB3
        have HT3 := Lib.hid (Tr.of_below (M := fun _ => False) HT2.out.wf HB3.out)
        have HD3 := Lib.hid (HD2.out.tr HT3.out (fun h => h))
        have HR4 := Lib.hid (HR3.out.tr HT3.out)
        obtain ⟨hg3, AL, nL, cpL, cellsL, AT, nT, cpT, cellsT, h1, h2, h3, h4, h5, h6, h7, h8, h9⟩ := HD3.out
        obtain ⟨p, hp⟩ : ∃ p, place q.L ⟨cl, sq, kd, t, lt⟩ = p := ⟨_, rfl⟩
        have hpl : p ≤ nL := by rw [← hp, ← h4]; exact place_le _ _
        have HP := Lib.hid hp
        have HLN2 := Lib.hid h4
        have hml := h2.1.lt
        clear hp
        have H1 := Lib.hid h1
        have H2 := Lib.hid h2
        have H3 := Lib.hid h3
        have H5 := Lib.hid h5
        have H6 := Lib.hid h6
        have H7 := Lib.hid h7
        clear h1 h2 h3 h5 h6 h7
        clear h4
        have f0 := (HB3.out.cell (p := ⟨bb, off + k * 5, none⟩) (block_lt_of_cell e0)).trans e0
        have f1 := (HB3.out.cell (p := ⟨bb, off + k * 5 + 1, none⟩) (block_lt_of_cell e1)).trans e1
        have f2 := (HB3.out.cell (p := ⟨bb, off + k * 5 + 2, none⟩) (block_lt_of_cell e2)).trans e2
        have f3 := (HB3.out.cell (p := ⟨bb, off + k * 5 + 3, none⟩) (block_lt_of_cell e3)).trans e3
        have f4 := (HB3.out.cell (p := ⟨bb, off + k * 5 + 4, none⟩) (block_lt_of_cell e4)).trans e4
        go_wp2_with fail
        go_loopw [9] (fun v wx => ∃ (j : Nat), v = .int .i64 (j : Int) ∧ j ≤ p ∧ Hid (Below w3.heap.size w3 wx)) (fun v _ => p - (intOf v).toNat)
        case atStart => exact ⟨0, rfl, by omega, Below.refl _ _⟩
        case round =>
          obtain ⟨j, rfl, hj, HBX⟩ := hrel
          have hj0 : (0 : Int) ≤ (j : Int) := Int.natCast_nonneg _
          have g1 := cell_regrown ((HBX.out.cell (p := ⟨g, 1, none⟩) (blk_lt H1.out)).trans (blk_cell1 H1.out))
          have l0 := cell_regrown ((HBX.out.cell (p := ⟨bb, off + k * 5, none⟩) (block_lt_of_cell f0)).trans f0)
          have l1 := cell_regrown ((HBX.out.cell (p := ⟨bb, off + k * 5 + 1, none⟩) (block_lt_of_cell f1)).trans f1)
          have l2 := cell_regrown ((HBX.out.cell (p := ⟨bb, off + k * 5 + 2, none⟩) (block_lt_of_cell f2)).trans f2)
          have l3 := cell_regrown ((HBX.out.cell (p := ⟨bb, off + k * 5 + 3, none⟩) (block_lt_of_cell f3)).trans f3)
          have l4 := cell_regrown ((HBX.out.cell (p := ⟨bb, off + k * 5 + 4, none⟩) (block_lt_of_cell f4)).trans f4)
          by_cases hjn : j < nL
          · have hjn1 : (j : Int) < (nL : Int) := by omega
            obtain ⟨y, hy⟩ : ∃ y, q.L[j]? = some y := ⟨_, List.getElem?_eq_getElem (by rw [HLN2.out]; exact hjn)⟩
            obtain ⟨bl, capl, he, _, _⟩ := H2.out.1.form (by omega)
            cases he
            obtain ⟨_, ⟨A5, n5, cp5, hR5, a0, a1, a2, a3, a4⟩, _, _⟩ := ent_at H3.out hy
            have hsy : sameP y.r ⟨cl, sq, kd, t, lt⟩ = decide (j = p) := by
              rw [Bool.eq_iff_iff, decide_eq_true_eq, ← HP.out]
              exact place_iff hy (by rw [HP.out]; exact hj)
            have b0 := H2.out.1.cells rfl _ _ a0
            have b1 := H2.out.1.cells rfl _ _ a1
            have b2 := H2.out.1.cells rfl _ _ a2
            have b3 := H2.out.1.cells rfl _ _ a3
            have b4 := H2.out.1.cells rfl _ _ a4
            rw [addr_add] at b0 b1 b2 b3 b4
            simp only [Nat.zero_add] at b0 b1 b2 b3 b4
            have C0 := Lib.hid (fun d os => bool_eq hsy (r6SameP_any (Sort.grow (redrawn wr d) os) c2 y.r ⟨cl, sq, kd, t, lt⟩ A5 n5 cp5 A3 n3 cp3 ((hR5.below HBX.out).below (below_regrown wr d os)) ((HR4.out.below HBX.out).below (below_regrown wr d os))))
            generalize y.r = yr at *
            obtain ⟨ycl, ysq, ykd, yt, ylt⟩ := yr
            dsimp only at *
            have m0 := cell_regrown ((HBX.out.cell (block_lt_of_cell b0)).trans b0)
            have m1 := cell_regrown ((HBX.out.cell (block_lt_of_cell b1)).trans b1)
            have m2 := cell_regrown ((HBX.out.cell (block_lt_of_cell b2)).trans b2)
            have m3 := cell_regrown ((HBX.out.cell (block_lt_of_cell b3)).trans b3)
            have m4 := cell_regrown ((HBX.out.cell (block_lt_of_cell b4)).trans b4)
            clear b0 b1 b2 b3 b4 a0 a1 a2 a3 a4 hR5 hsy hy
            by_cases hjp : j = p
            · rw [decide_eq_true hjp] at C0
              subst hjp
              go_wp2_with fail
              refine wp_region_quiet_below (by kernel_rfl) (by kernel_rfl) ?_
              repeat ((with_reducible refine wpQuiet_step (fun K hK => ?_)); go_simp; first | (with_reducible refine hK _ ?_; clear hK K) | (rw [if_neg (by decide)]; with_reducible refine hK _ ?_; clear hK K) | (apply Exists.intro; refine ⟨fun _ => ?_, hK _ ?_⟩; (first | with_reducible exact regrown_bool (C0.out _ _)); clear hK K))
              with_reducible refine wpQuiet_nil ?_
              intro _ hw'
              obtain ⟨⟨dq, osq⟩, hw''⟩ := hw'
              subst hw''
              have HBW := Lib.hid (below_then HBX.out (below_regrown wr dq osq))
              generalize Sort.grow (redrawn wr dq) osq = W at *
              have htw := Tr.of_below (M := fun _ => False) HT3.out.wf HBW.out
              have HTW := Lib.hid ((HT2.out.trans HT3.out (fun _ _ h => absurd h (fun h => h))).trans htw (fun _ _ h => absurd h (fun h => h)))
              have HDW := Lib.hid ((HD3.out.tr htw (fun h => h)).mono (N' := N + k + 1) (by omega))
              have HOW := Lib.hid ((HO2.out.keep HT3.out (fun _ _ h => h)).keep htw (fun _ _ h => h))
              have HRW := Lib.hid ((HR2.out.keep HT3.out.kp).keep htw.kp)
              obtain ⟨ee, hee, heer⟩ := place_hit (L := q.L) (x := ⟨cl, sq, kd, t, lt⟩) (by rw [HP.out, HLN2.out]; exact hjn)
              rw [HP.out] at hee
              have HE := Lib.hid hee
              have HWN : Hid (withNew q.L ⟨cl, sq, kd, t, lt⟩ = q.L) := by
                show _ = _
                unfold withNew
                rw [if_neg]
                rw [HP.out, HLN2.out]
                omega
              clear htw hee g1 l0 l1 l2 l3 l4 m0 m1 m2 m3 m4 C0
              obtain ⟨hgW, AW, nW, cpW, cellsW, AT2, nT2, cpT2, cellsT2, h1, h2, h3, h4, h5, h6, h7, h8, h9⟩ := HDW.out
              have hpn : j < nW := by rw [← h4]; exact (List.getElem?_eq_some_iff.1 HE.out).1
              have hpn1 : (j : Int) < (nW : Int) := by omega
              have hpb : ((j : Int) == (nW : Int)) = false := by simp; omega
              have hpn0 : (0 : Int) ≤ (j : Int) := by omega
              obtain ⟨bl, capl, he_, _, _⟩ := h2.1.form (by omega)
              cases he_
              obtain ⟨hl7, _, hby, htk⟩ := ent_at h3 HE.out
              obtain ⟨v0, hv0⟩ : ∃ v, ee.by_[i]? = some v := ⟨_, List.getElem?_eq_getElem (by rw [hl7]; exact hi7)⟩
              have sc := h2.1.cells rfl _ _ (hby i v0 hv0)
              rw [addr_add] at sc
              simp only [Nat.zero_add] at sc
              rw [← Nat.add_assoc] at sc
              have sf := own_free h2.1 (j * 13 + 5 + i)
              have wg1 := blk_cell1 h1
              have hen := ent_by h3 hi7 HE.out
              rw [← Nat.add_assoc] at hen
              have hpk := Rst.poke hgW h1 h2 h5 h6 h7 h8 h9 HTW.out.wf (j * 13 + 5 + i) (.bool true) hen (by rw [List.length_set]; exact h4)
              clear hby htk h1 h2 h3 h5 h6
              have HV0 := Lib.hid hv0
              obtain ⟨k1, k3, k4, hen2, k5, k6⟩ := hpk
              have HK1 := Lib.hid k1
              have HK4 := Lib.hid k4
              have HEN2 := Lib.hid hen2
              have HK5 := Lib.hid k5
              have HK6 := Lib.hid k6
              have wg31 := blk_cell1 k3
              have wg30 := blk_cell0 k3
              have HG3 := Lib.hid k3
              have HTL := Lib.hid h4
              have HTT := Lib.hid h7
              clear k1 k3 k4 k5 k6 hen2 hv0 h4 h7
              go_wp2_with fail
              generalize W.setCell ⟨bl, j * 13 + 5 + i, none⟩ (.bool true) = W1 at *
              have hplt := (List.getElem?_eq_some_iff.1 HE.out).1
              obtain ⟨hl8, _, hby2, htk2⟩ := ent_at HEN2.out (List.getElem?_set_self hplt)
              dsimp only at hl8 hby2 htk2
              have HBIT : Hid (∀ (jj : Nat) (v : Bool), (ee.by_.set i true)[jj]? = some v → W1.cell? ⟨bl, j * 13 + 5 + jj, none⟩ = some (.bool v)) := by
                intro jj v hv
                have h := HK4.out.1.cells rfl _ _ (hby2 jj v hv)
                rw [addr_add] at h
                simp only [Nat.zero_add] at h
                rw [← Nat.add_assoc] at h
                exact h
              have tk1 := HK4.out.1.cells rfl _ _ htk2
              rw [addr_add] at tk1
              simp only [Nat.zero_add] at tk1
              have tkf := own_free HK4.out.1 (j * 13 + 12)
              generalize hbs : ee.by_.set i true = bs at *
              have HBS := Lib.hid hbs
              clear hby2 htk2 hbs sc sf wg1
              go_loopw [10, 11] (fun o v wx => ∃ jj nn : Nat, v = .int .i64 (jj : Int) ∧ o = .int .i64 (nn : Int) ∧ jj ≤ 7 ∧ nn ≤ jj ∧ Hid ((bs.take jj).count true = nn) ∧ wx = W1) (fun _ v _ => 7 - (intOf v).toNat)
              case atStart => exact ⟨0, 0, rfl, rfl, by omega, by omega, rfl, rfl⟩
              case round =>
                obtain ⟨jj, nn, rfl, rfl, hjj, hnn, HCN, rfl⟩ := hrel
                by_cases hj7 : jj < 7
                · obtain ⟨v, hv⟩ : ∃ v, bs[jj]? = some v := ⟨_, List.getElem?_eq_getElem (by rw [hl8]; exact hj7)⟩
                  have bc := HBIT.out jj v hv
                  have hjj1 : (jj : Int) < 7 := by omega
                  have hjj0 : (0 : Int) ≤ (jj : Int) := by omega
                  have hcn : (bs.take (jj + 1)).count true = nn + (if v = true then 1 else 0) := by
                    rw [take_snoc' hv, List.count_append, HCN.out]
                    cases v <;> rfl
                  have HV := Lib.hid hv
                  have HCN2 := Lib.hid hcn
                  clear hv hcn
                  cases v with
                  | true =>
                    go_wp2_with fail
                    exact ⟨⟨jj + 1, nn + 1, by simp, by simp, by omega, by omega, HCN2.out, trivial⟩, by simp [intOf]; omega⟩
                  | false =>
                    go_wp2_with fail
                    exact ⟨⟨jj + 1, nn, by simp, rfl, by omega, by omega, HCN2.out, trivial⟩, by simp [intOf]; omega⟩
                · have hj77 : jj = 7 := by omega
                  subst hj77
                  have hcnt : bs.count true = nn := by
                    have h := HCN.out
                    rw [List.take_of_length_le (by omega)] at h
                    exact h
                  have hge7 : ¬ ((7 : Int) < 7) := by omega
                  have HCT := Lib.hid hcnt
                  clear hcnt
                  by_cases hc : f < (nn : Int) ∧ ee.tk = false
                  · obtain ⟨hc1, hc2⟩ := hc
                    rw [hc2] at tk1
                    have hbs0 : ∀ e, q.L.set j e = (q.L.set j ⟨ee.r, bs, ee.tk⟩).set j e := fun e => by rw [List.set_set]
                    have hen3 := ent_tk HEN2.out (List.getElem?_set_self hplt)
                    rw [← hbs0] at hen3
                    dsimp only at hen3
                    have hpk2 := Rst.poke (N := N + k + 1) hgW HG3.out HK4.out HK5.out HK6.out HTT.out h8 h9 HK1.out.wf (j * 13 + 12) (.bool true) hen3 (by rw [List.length_set]; exact HTL.out)
                    obtain ⟨k1, k3, k4, k7, k5, k6⟩ := hpk2
                    have HTW2 := Lib.hid ((HTW.out.then HK1.out).then k1)
                    have HO22 := Lib.hid ((HOW.out.keep HK1.out (fun j hj e => by subst e; obtain ⟨_, _, _, _, _, _, _, _, _, h9, _⟩ := HD2.out; exact own_block_ne HO2.out.1 h9 (by decide) hj.symm)).keep k1 (fun j hj e => by subst e; obtain ⟨_, _, _, _, _, _, _, _, _, h9, _⟩ := HD2.out; exact own_block_ne HO2.out.1 h9 (by decide) hj.symm))
                    have HR22 := Lib.hid ((HRW.out.keep HK1.out.kp).keep k1.kp)
                    obtain ⟨A9, n9, cp9, hR9, z0, z1, z2, z3, z4⟩ := (HX.out.tr HTW2.out).rep HXK.out
                    dsimp only at hR9 z0 z1 z2 z3 z4
                    have q2 := blk_cell2 k3
                    have qf2 := blk_free k3 2
                    have hgl9 := blk_lt k3
                    have hown9 := own_block_ne k5.1 k3 (by decide)
                    have HK21 := Lib.hid k1
                    have HK23 := Lib.hid k3
                    have HK24 := Lib.hid k4
                    have HK27 := Lib.hid k7
                    have HK25 := Lib.hid k5
                    have HK26 := Lib.hid k6
                    have HR9 := Lib.hid hR9
                    clear k1 k3 k4 k7 k5 k6 hR9 hbs0 hen3
                    go_wp2_with fail
                    generalize wr.setCell ⟨bl, j * 13 + 12, none⟩ (.bool true) = W2 at *
                    have hne9 := World.new_ne W2 ⟨g, 2, none⟩ q2
                    have hneb := World.new_ne W2 ⟨bb, off + k * 5, none⟩ z0
                    go_region_law (refine step_one_st (W9 := W2) (c9 := c2) (g := g) (.tmp 135) (.tmp 140) 55 52 (.agg #[.int .i64 0, .int .i64 0, .int .i64 0, .slice none 0 0, .bool false]) 5 56 rfl rfl Try.underlying55 rep_info rfl (by decide) (by decide) cellsT2 #[.int .i64 cl, .int .i64 sq, .int .i64 kd, .slice A9 n9 cp9, .bool lt] rfl (by simp [Act.eval, Act.put]) (by simp [Act.eval, Act.put]) (by intro u hu; simp at hu; rcases hu with rfl | rfl | rfl | rfl | rfl <;> rfl) (below_alloc_drew _ _) (heap_alloc_new _ _) HK21.out.wf HK25.out hgl9 (by omega) ?_; intro A10 cp10 w10 c10 q_k1 q_k2 q_k3 q_k4; have K1 := Lib.hid q_k1; have K2 := Lib.hid q_k2; have K3 := Lib.hid q_k3; have K4 := Lib.hid q_k4; have v2 := (World.cell?_of_block (a := ⟨g, 2, none⟩) (q_k4 g hgl9 hown9)).trans q2; have vf2 := (World.frozen?_of_block (a := ⟨g, 2, none⟩) (q_k4 g hgl9 hown9)).trans qf2; clear q_k1 q_k2 q_k3 q_k4)
                    all_goals
                      have hGT := Rst.grewT (N := N + k + 1) (x := ⟨cl, sq, kd, t, lt⟩) hgW HK23.out HK24.out HK27.out (by rw [List.length_set]; exact HTL.out) HK25.out HK26.out HTT.out h8 (by have h := HD2.out.taken; rw [HTT.out] at h; omega) K1.out K2.out K3.out K4.out ⟨A9, n9, cp9, rfl, HR9.out⟩
                      have HG1 := Lib.hid hGT.1
                      have HG2 := Lib.hid hGT.2
                      clear hGT
                      generalize w10.setCell ⟨g, 2, none⟩ (.slice A10 (nT2 + 1) cp10) = W3 at *
                      have HTW3 := Lib.hid (HTW2.out.then HG1.out)
                      obtain ⟨A12, n12, cp12, hR12, y0, y1, y2, y3, y4⟩ := (HX.out.tr HTW3.out).rep HXK.out
                      dsimp only at hR12 y0 y1 y2 y3 y4
                      have HR12 := Lib.hid hR12
                      have HO23 := Lib.hid (HO22.out.keep HG1.out (fun j hj e => by subst e; obtain ⟨_, _, _, _, _, _, _, _, _, h9, _⟩ := HD2.out; exact own_block_ne HO2.out.1 h9 (by decide) hj.symm))
                      have HR23 := Lib.hid (HR22.out.keep HG1.out.kp)
                      clear hR12
                      go_wp2_with (at_builtin; go_must (refine app_one_self2 (lo := w.heap.size) (.tmp 144) (.tmp 149) 55 52 (.agg #[.int .i64 0, .int .i64 0, .int .i64 0, .slice none 0 0, .bool false]) 5 56 rfl rfl Try.underlying55 rep_info rfl (by decide) (by decide) cells2 #[.int .i64 cl, .int .i64 sq, .int .i64 kd, .slice A12 n12 cp12, .bool lt] rfl rfl (by first | rfl | (show Value.slice (some ⟨_, 0, none⟩) 1 1 = _; simp)) (by intro u hu; simp at hu; rcases hu with rfl | rfl | rfl | rfl | rfl <;> rfl) HTW3.out.wf HO23.out HTW3.out.size (by omega) ?_); intro A13 cp13 w13 c13 q_HA q_HO q_hn; have HA13 := Lib.hid q_HA; have HO13 := Lib.hid q_HO; clear q_HA q_HO q_hn)
                      refine ⟨⟨k + 1, n2 + 1, cp13, A13, c13, cells2 ++ [.int .i64 cl, .int .i64 sq, .int .i64 kd, .slice A12 n12 cp12, .bool lt], ⟨q.L.set j ⟨ee.r, bs, true⟩, q.T ++ [(⟨cl, sq, kd, t, lt⟩ : Rep)], q.out ++ [(⟨cl, sq, kd, t, lt⟩ : Rep)]⟩, by simp, rfl, by omega, by omega, ?_, ?_, ?_, ?_, ?_⟩, by simp [intOf]; omega⟩
                      · show _ = _
                        rw [HNEXT.out]
                        exact refOne_yes HM.out HP.out HWN.out HE.out HBS.out HCT.out hc1 hc2
                      · exact HTW3.out.trans HA13.out (fun r hr h => absurd (HO23.out.1.lt r h).1 (by omega))
                      · exact HG2.out.tr HA13.out (fun h => by obtain ⟨_, _, _, _, _, _, _, _, _, h9, _⟩ := HG2.out; exact own_block_ne HO23.out.1 h9 (by decide) h.symm)
                      · exact HO13.out
                      · exact (HR23.out.keep HA13.out.kp).append (Reps.one ⟨A12, n12, cp12, rfl, HR12.out.tr HA13.out⟩)
                  · have HRW1 : Hid (Rst wr c2 g f (q.L.set j ⟨ee.r, bs, ee.tk⟩) q.T (N + (k + 1))) := ⟨hgW, _, nW, cpW, _, AT2, nT2, cpT2, cellsT2, HG3.out, HK4.out, HEN2.out, by rw [List.length_set]; exact HTL.out, HK5.out, HK6.out, HTT.out, h8, h9⟩
                    have HO21 := Lib.hid (HOW.out.keep HK1.out (fun j hj e => by subst e; obtain ⟨_, _, _, _, _, _, _, _, _, h9, _⟩ := HD2.out; exact own_block_ne HO2.out.1 h9 (by decide) hj.symm))
                    have HNO := Lib.hid (refOne_no HM.out HP.out HWN.out HE.out HBS.out HCT.out hc)
                    by_cases hfn : f < (nn : Int)
                    · have htt : ee.tk = true := by
                        cases h : ee.tk with
                        | true => rfl
                        | false => exact absurd ⟨hfn, h⟩ hc
                      rw [htt] at tk1
                      clear hc htt
                      go_wp2_with fail
                      exact ⟨⟨k + 1, n2, cp2, A2, c2, cells2, ⟨q.L.set j ⟨ee.r, bs, ee.tk⟩, q.T, q.out⟩, by simp, rfl, by omega, by omega, HNEXT.out.trans HNO.out, HTW.out.then HK1.out, HRW1.out, HO21.out, HRW.out.keep HK1.out.kp⟩, by simp [intOf]; omega⟩
                    · clear hc
                      go_wp2_with fail
                      exact ⟨⟨k + 1, n2, cp2, A2, c2, cells2, ⟨q.L.set j ⟨ee.r, bs, ee.tk⟩, q.T, q.out⟩, by simp, rfl, by omega, by omega, HNEXT.out.trans HNO.out, HTW.out.then HK1.out, HRW1.out, HO21.out, HRW.out.keep HK1.out.kp⟩, by simp [intOf]; omega⟩
            · rw [decide_eq_false hjp] at C0
              go_wp2_with fail
              refine wp_region_quiet_below (by kernel_rfl) (by kernel_rfl) ?_
              repeat ((with_reducible refine wpQuiet_step (fun K hK => ?_)); go_simp; first | (with_reducible refine hK _ ?_; clear hK K) | (rw [if_neg (by decide)]; with_reducible refine hK _ ?_; clear hK K) | (apply Exists.intro; refine ⟨fun _ => ?_, hK _ ?_⟩; (first | with_reducible exact regrown_bool (C0.out _ _)); clear hK K))
              with_reducible refine wpQuiet_nil ?_
              intro _ hw'
              obtain ⟨⟨dq, osq⟩, hw''⟩ := hw'
              subst hw''
              go_wp2_with fail
              exact ⟨⟨j + 1, by simp, by omega, below_then HBX.out (below_regrown wr dq osq)⟩, by simp [intOf]; omega⟩
          · have hjL : j = nL := by omega
            subst hjL
            have hpj : p = j := by omega
            subst hpj
            have hjn1 : ¬ ((p : Int) < (p : Int)) := by omega
            go_wp2_with fail
            refine wp_region_quiet_below (by kernel_rfl) (by kernel_rfl) ?_
            repeat ((with_reducible refine wpQuiet_step (fun K hK => ?_)); go_simp; first | (with_reducible refine hK _ ?_; clear hK K) | (rw [if_neg (by decide)]; with_reducible refine hK _ ?_; clear hK K))
            with_reducible refine wpQuiet_nil ?_
            intro _ hw'
            obtain ⟨⟨dq, osq⟩, hw''⟩ := hw'
            subst hw''
            have HBW := Lib.hid (below_then HBX.out (below_regrown wr dq osq))
            generalize Sort.grow (redrawn wr dq) osq = W at *
            have htw := Tr.of_below (M := fun _ => False) HT3.out.wf HBW.out
            have HTW0 := Lib.hid ((HT2.out.trans HT3.out (fun _ _ h => absurd h (fun h => h))).trans htw (fun _ _ h => absurd h (fun h => h)))
            have HOW0 := Lib.hid ((HO2.out.keep HT3.out (fun _ _ h => h)).keep htw (fun _ _ h => h))
            have HRW0 := Lib.hid ((HR2.out.keep HT3.out.kp).keep htw.kp)
            have HRX := Lib.hid (HR4.out.tr htw)
            have q1 := (HBW.out.cell (p := ⟨g, 1, none⟩) (blk_lt H1.out)).trans (blk_cell1 H1.out)
            have z0 := (HBW.out.cell (block_lt_of_cell f0)).trans f0
            have z1 := (HBW.out.cell (block_lt_of_cell f1)).trans f1
            have z2 := (HBW.out.cell (block_lt_of_cell f2)).trans f2
            have z3 := (HBW.out.cell (block_lt_of_cell f3)).trans f3
            have z4 := (HBW.out.cell (block_lt_of_cell f4)).trans f4
            have hh1 : W.heap[g]? = some (.cells #[.int .i64 f, .slice AL p cpL, .slice AT nT cpT] 63 (0, 0)) := by rw [HBW.out.block g (blk_lt H1.out)]; exact H1.out
            have HH1 := Lib.hid hh1
            have HH2 := Lib.hid (H2.out.tr htw (fun h => h))
            have HH3 := Lib.hid (H3.out.keep htw.kp)
            have HH5 := Lib.hid (H5.out.tr htw (fun h => h))
            have HH6 := Lib.hid (H6.out.keep htw.kp)
            have HWFW := Lib.hid htw.wf
            have qf1 := blk_free hh1 1
            have hgl9 := blk_lt hh1
            have hown9 := own_block_ne HH2.out.1 hh1 (by decide)
            have hne9 := World.new_ne W ⟨g, 1, none⟩ q1
            have hneb := World.new_ne W ⟨bb, off + k * 5, none⟩ z0
            clear htw hh1 g1 l0 l1 l2 l3 l4
            go_upto_region 12 with fail
            go_cut [9] from 24 to 150 (fun a wx => a = .int .i64 (p : Int) ∧ ∃ c10, Hid (Tr (· = g) c2 c10 W wx) ∧ Hid (Rst wx c10 g f (q.L ++ [⟨⟨cl, sq, kd, t, lt⟩, allF, false⟩]) q.T (N + k + 1)))
            case first =>
              go_region_law (refine step_one_st (W9 := W) (c9 := c2) (g := g) (.tmp 72) (.tmp 78) 61 102 (.agg #[.int .i64 0, .int .i64 0, .int .i64 0, .slice none 0 0, .bool false, .bool false, .bool false, .bool false, .bool false, .bool false, .bool false, .bool false, .bool false]) 13 64 rfl rfl Try.underlying61 ent_info rfl (by decide) (by decide) cellsL #[.int .i64 cl, .int .i64 sq, .int .i64 kd, .slice A3 n3 cp3, .bool lt, .bool false, .bool false, .bool false, .bool false, .bool false, .bool false, .bool false, .bool false] rfl (by simp [Act.eval, Act.put]) (by simp [Act.eval, Act.put]) (by intro u hu; simp at hu; rcases hu with rfl | rfl | rfl | rfl | rfl | rfl <;> rfl) (below_alloc_drew _ _) (heap_alloc_new _ _) HWFW.out HH2.out hgl9 (by omega) ?_; intro A10 cp10 w10 c10 q_k1 q_k2 q_k3 q_k4; have K1 := Lib.hid q_k1; have K2 := Lib.hid q_k2; have K3 := Lib.hid q_k3; have K4 := Lib.hid q_k4; have v1 := (World.cell?_of_block (a := ⟨g, 1, none⟩) (q_k4 g hgl9 hown9)).trans q1; have vf1 := (World.frozen?_of_block (a := ⟨g, 1, none⟩) (q_k4 g hgl9 hown9)).trans qf1; clear q_k1 q_k2 q_k3 q_k4)
              all_goals
                have hGL := Rst.grewL (N := N + k + 1) (e := ⟨⟨cl, sq, kd, t, lt⟩, allF, false⟩) hg3 HH1.out HH2.out HH3.out HLN2.out HH5.out HH6.out H7.out (by omega) (by omega) K1.out K2.out K3.out K4.out ⟨A3, n3, cp3, rfl, rfl, HRX.out⟩
                have HG1 := Lib.hid hGL.1
                have HG2 := Lib.hid hGL.2
                clear hGL
                go_wp2_with fail
                go_meet
                exact ⟨rfl, c10, HG1.out, HG2.out⟩
            case rest =>
            obtain ⟨rfl, c10, HG1, HDW⟩ := hcut
            have HTW := Lib.hid (HTW0.out.then HG1.out)
            have HOW := Lib.hid (HOW0.out.keep HG1.out (fun j hj e => by subst e; obtain ⟨_, _, _, _, _, _, _, _, _, h9, _⟩ := HD2.out; exact own_block_ne HO2.out.1 h9 (by decide) hj.symm))
            have HRW := Lib.hid (HRW0.out.keep HG1.out.kp)
            obtain ⟨ee, hee⟩ : ∃ ee : Ent, (⟨⟨cl, sq, kd, t, lt⟩, allF, false⟩ : Ent) = ee := ⟨_, rfl⟩
            rw [hee] at HDW
            obtain ⟨L1, hL1⟩ : ∃ L1, q.L ++ [ee] = L1 := ⟨_, rfl⟩
            rw [hL1] at HDW
            have HE : Hid (L1[p]? = some ee) := by
              show _ = _
              rw [← hL1, ← HLN2.out]
              simp
            have HWN : Hid (withNew q.L ⟨cl, sq, kd, t, lt⟩ = L1) := by
              show _ = _
              unfold withNew
              rw [if_pos (by rw [HP.out, HLN2.out]), hee, hL1]
            clear hL1 hee q1 z0 z1 z2 z3 z4 qf1 hgl9 hown9 hne9 hneb
            obtain ⟨hgW, AW, nW, cpW, cellsW, AT2, nT2, cpT2, cellsT2, h1, h2, h3, h4, h5, h6, h7, h8, h9⟩ := HDW.out
            have hpn : p < nW := by rw [← h4]; exact (List.getElem?_eq_some_iff.1 HE.out).1
            have hpn1 : (p : Int) < (nW : Int) := by omega
            have hpb : ((p : Int) == (nW : Int)) = false := by simp; omega
            have hpn0 : (0 : Int) ≤ (p : Int) := by omega
            obtain ⟨bl, capl, he_, _, _⟩ := h2.1.form (by omega)
            cases he_
            obtain ⟨hl7, _, hby, htk⟩ := ent_at h3 HE.out
            obtain ⟨v0, hv0⟩ : ∃ v, ee.by_[i]? = some v := ⟨_, List.getElem?_eq_getElem (by rw [hl7]; exact hi7)⟩
            have sc := h2.1.cells rfl _ _ (hby i v0 hv0)
            rw [addr_add] at sc
            simp only [Nat.zero_add] at sc
            rw [← Nat.add_assoc] at sc
            have sf := own_free h2.1 (p * 13 + 5 + i)
            have wg1 := blk_cell1 h1
            have hen := ent_by h3 hi7 HE.out
            rw [← Nat.add_assoc] at hen
            have hpk := Rst.poke hgW h1 h2 h5 h6 h7 h8 h9 HTW.out.wf (p * 13 + 5 + i) (.bool true) hen (by rw [List.length_set]; exact h4)
            clear hby htk h1 h2 h3 h5 h6
            have HV0 := Lib.hid hv0
            obtain ⟨k1, k3, k4, hen2, k5, k6⟩ := hpk
            have HK1 := Lib.hid k1
            have HK4 := Lib.hid k4
            have HEN2 := Lib.hid hen2
            have HK5 := Lib.hid k5
            have HK6 := Lib.hid k6
            have wg31 := blk_cell1 k3
            have wg30 := blk_cell0 k3
            have HG3 := Lib.hid k3
            have HTL := Lib.hid h4
            have HTT := Lib.hid h7
            clear k1 k3 k4 k5 k6 hen2 hv0 h4 h7
            go_wp2_with fail
            generalize wc.setCell ⟨bl, p * 13 + 5 + i, none⟩ (.bool true) = W1 at *
            have hplt := (List.getElem?_eq_some_iff.1 HE.out).1
            obtain ⟨hl8, _, hby2, htk2⟩ := ent_at HEN2.out (List.getElem?_set_self hplt)
            dsimp only at hl8 hby2 htk2
            have HBIT : Hid (∀ (jj : Nat) (v : Bool), (ee.by_.set i true)[jj]? = some v → W1.cell? ⟨bl, p * 13 + 5 + jj, none⟩ = some (.bool v)) := by
              intro jj v hv
              have h := HK4.out.1.cells rfl _ _ (hby2 jj v hv)
              rw [addr_add] at h
              simp only [Nat.zero_add] at h
              rw [← Nat.add_assoc] at h
              exact h
            have tk1 := HK4.out.1.cells rfl _ _ htk2
            rw [addr_add] at tk1
            simp only [Nat.zero_add] at tk1
            have tkf := own_free HK4.out.1 (p * 13 + 12)
            generalize hbs : ee.by_.set i true = bs at *
            have HBS := Lib.hid hbs
            clear hby2 htk2 hbs sc sf wg1
            go_loopw [10, 11] (fun o v wx => ∃ jj nn : Nat, v = .int .i64 (jj : Int) ∧ o = .int .i64 (nn : Int) ∧ jj ≤ 7 ∧ nn ≤ jj ∧ Hid ((bs.take jj).count true = nn) ∧ wx = W1) (fun _ v _ => 7 - (intOf v).toNat)
            case atStart => exact ⟨0, 0, rfl, rfl, by omega, by omega, rfl, rfl⟩
            case round =>
              obtain ⟨jj, nn, rfl, rfl, hjj, hnn, HCN, rfl⟩ := hrel
              by_cases hj7 : jj < 7
              · obtain ⟨v, hv⟩ : ∃ v, bs[jj]? = some v := ⟨_, List.getElem?_eq_getElem (by rw [hl8]; exact hj7)⟩
                have bc := HBIT.out jj v hv
                have hjj1 : (jj : Int) < 7 := by omega
                have hjj0 : (0 : Int) ≤ (jj : Int) := by omega
                have hcn : (bs.take (jj + 1)).count true = nn + (if v = true then 1 else 0) := by
                  rw [take_snoc' hv, List.count_append, HCN.out]
                  cases v <;> rfl
                have HV := Lib.hid hv
                have HCN2 := Lib.hid hcn
                clear hv hcn
                cases v with
                | true =>
                  go_wp2_with fail
                  exact ⟨⟨jj + 1, nn + 1, by simp, by simp, by omega, by omega, HCN2.out, trivial⟩, by simp [intOf]; omega⟩
                | false =>
                  go_wp2_with fail
                  exact ⟨⟨jj + 1, nn, by simp, rfl, by omega, by omega, HCN2.out, trivial⟩, by simp [intOf]; omega⟩
              · have hj77 : jj = 7 := by omega
                subst hj77
                have hcnt : bs.count true = nn := by
                  have h := HCN.out
                  rw [List.take_of_length_le (by omega)] at h
                  exact h
                have hge7 : ¬ ((7 : Int) < 7) := by omega
                have HCT := Lib.hid hcnt
                clear hcnt
                by_cases hc : f < (nn : Int) ∧ ee.tk = false
                · obtain ⟨hc1, hc2⟩ := hc
                  rw [hc2] at tk1
                  have hbs0 : ∀ e, L1.set p e = (L1.set p ⟨ee.r, bs, ee.tk⟩).set p e := fun e => by rw [List.set_set]
                  have hen3 := ent_tk HEN2.out (List.getElem?_set_self hplt)
                  rw [← hbs0] at hen3
                  dsimp only at hen3
                  have hpk2 := Rst.poke (N := N + k + 1) hgW HG3.out HK4.out HK5.out HK6.out HTT.out h8 h9 HK1.out.wf (p * 13 + 12) (.bool true) hen3 (by rw [List.length_set]; exact HTL.out)
                  obtain ⟨k1, k3, k4, k7, k5, k6⟩ := hpk2
                  have HTW2 := Lib.hid ((HTW.out.then HK1.out).then k1)
                  have HO22 := Lib.hid ((HOW.out.keep HK1.out (fun j hj e => by subst e; obtain ⟨_, _, _, _, _, _, _, _, _, h9, _⟩ := HD2.out; exact own_block_ne HO2.out.1 h9 (by decide) hj.symm)).keep k1 (fun j hj e => by subst e; obtain ⟨_, _, _, _, _, _, _, _, _, h9, _⟩ := HD2.out; exact own_block_ne HO2.out.1 h9 (by decide) hj.symm))
                  have HR22 := Lib.hid ((HRW.out.keep HK1.out.kp).keep k1.kp)
                  obtain ⟨A9, n9, cp9, hR9, z0, z1, z2, z3, z4⟩ := (HX.out.tr HTW2.out).rep HXK.out
                  dsimp only at hR9 z0 z1 z2 z3 z4
                  have q2 := blk_cell2 k3
                  have qf2 := blk_free k3 2
                  have hgl9 := blk_lt k3
                  have hown9 := own_block_ne k5.1 k3 (by decide)
                  have HK21 := Lib.hid k1
                  have HK23 := Lib.hid k3
                  have HK24 := Lib.hid k4
                  have HK27 := Lib.hid k7
                  have HK25 := Lib.hid k5
                  have HK26 := Lib.hid k6
                  have HR9 := Lib.hid hR9
                  clear k1 k3 k4 k7 k5 k6 hR9 hbs0 hen3
                  go_wp2_with fail
                  generalize wr.setCell ⟨bl, p * 13 + 12, none⟩ (.bool true) = W2 at *
                  have hne9 := World.new_ne W2 ⟨g, 2, none⟩ q2
                  have hneb := World.new_ne W2 ⟨bb, off + k * 5, none⟩ z0
                  go_region_law (refine step_one_st (W9 := W2) (c9 := c10) (g := g) (.tmp 135) (.tmp 140) 55 52 (.agg #[.int .i64 0, .int .i64 0, .int .i64 0, .slice none 0 0, .bool false]) 5 56 rfl rfl Try.underlying55 rep_info rfl (by decide) (by decide) cellsT2 #[.int .i64 cl, .int .i64 sq, .int .i64 kd, .slice A9 n9 cp9, .bool lt] rfl (by simp [Act.eval, Act.put]) (by simp [Act.eval, Act.put]) (by intro u hu; simp at hu; rcases hu with rfl | rfl | rfl | rfl | rfl <;> rfl) (below_alloc_drew _ _) (heap_alloc_new _ _) HK21.out.wf HK25.out hgl9 (by omega) ?_; intro A10 cp10 w10 c10 q_k1 q_k2 q_k3 q_k4; have K1 := Lib.hid q_k1; have K2 := Lib.hid q_k2; have K3 := Lib.hid q_k3; have K4 := Lib.hid q_k4; have v2 := (World.cell?_of_block (a := ⟨g, 2, none⟩) (q_k4 g hgl9 hown9)).trans q2; have vf2 := (World.frozen?_of_block (a := ⟨g, 2, none⟩) (q_k4 g hgl9 hown9)).trans qf2; clear q_k1 q_k2 q_k3 q_k4)
                  all_goals
                    have hGT := Rst.grewT (N := N + k + 1) (x := ⟨cl, sq, kd, t, lt⟩) hgW HK23.out HK24.out HK27.out (by rw [List.length_set]; exact HTL.out) HK25.out HK26.out HTT.out h8 (by have h := HD2.out.taken; rw [HTT.out] at h; omega) K1.out K2.out K3.out K4.out ⟨A9, n9, cp9, rfl, HR9.out⟩
                    have HG1 := Lib.hid hGT.1
                    have HG2 := Lib.hid hGT.2
                    clear hGT
                    generalize w10.setCell ⟨g, 2, none⟩ (.slice A10 (nT2 + 1) cp10) = W3 at *
                    have HTW3 := Lib.hid (HTW2.out.then HG1.out)
                    obtain ⟨A12, n12, cp12, hR12, y0, y1, y2, y3, y4⟩ := (HX.out.tr HTW3.out).rep HXK.out
                    dsimp only at hR12 y0 y1 y2 y3 y4
                    have HR12 := Lib.hid hR12
                    have HO23 := Lib.hid (HO22.out.keep HG1.out (fun j hj e => by subst e; obtain ⟨_, _, _, _, _, _, _, _, _, h9, _⟩ := HD2.out; exact own_block_ne HO2.out.1 h9 (by decide) hj.symm))
                    have HR23 := Lib.hid (HR22.out.keep HG1.out.kp)
                    clear hR12
                    go_wp2_with (at_builtin; go_must (refine app_one_self2 (lo := w.heap.size) (.tmp 144) (.tmp 149) 55 52 (.agg #[.int .i64 0, .int .i64 0, .int .i64 0, .slice none 0 0, .bool false]) 5 56 rfl rfl Try.underlying55 rep_info rfl (by decide) (by decide) cells2 #[.int .i64 cl, .int .i64 sq, .int .i64 kd, .slice A12 n12 cp12, .bool lt] rfl rfl (by first | rfl | (show Value.slice (some ⟨_, 0, none⟩) 1 1 = _; simp)) (by intro u hu; simp at hu; rcases hu with rfl | rfl | rfl | rfl | rfl <;> rfl) HTW3.out.wf HO23.out HTW3.out.size (by omega) ?_); intro A13 cp13 w13 c13 q_HA q_HO q_hn; have HA13 := Lib.hid q_HA; have HO13 := Lib.hid q_HO; clear q_HA q_HO q_hn)
                    refine ⟨⟨k + 1, n2 + 1, cp13, A13, c13, cells2 ++ [.int .i64 cl, .int .i64 sq, .int .i64 kd, .slice A12 n12 cp12, .bool lt], ⟨L1.set p ⟨ee.r, bs, true⟩, q.T ++ [(⟨cl, sq, kd, t, lt⟩ : Rep)], q.out ++ [(⟨cl, sq, kd, t, lt⟩ : Rep)]⟩, by simp, rfl, by omega, by omega, ?_, ?_, ?_, ?_, ?_⟩, by simp [intOf]; omega⟩
                    · show _ = _
                      rw [HNEXT.out]
                      exact refOne_yes HM.out HP.out HWN.out HE.out HBS.out HCT.out hc1 hc2
                    · exact HTW3.out.trans HA13.out (fun r hr h => absurd (HO23.out.1.lt r h).1 (by omega))
                    · exact HG2.out.tr HA13.out (fun h => by obtain ⟨_, _, _, _, _, _, _, _, _, h9, _⟩ := HG2.out; exact own_block_ne HO23.out.1 h9 (by decide) h.symm)
                    · exact HO13.out
                    · exact (HR23.out.keep HA13.out.kp).append (Reps.one ⟨A12, n12, cp12, rfl, HR12.out.tr HA13.out⟩)
                · have HRW1 : Hid (Rst wr c10 g f (L1.set p ⟨ee.r, bs, ee.tk⟩) q.T (N + (k + 1))) := ⟨hgW, _, nW, cpW, _, AT2, nT2, cpT2, cellsT2, HG3.out, HK4.out, HEN2.out, by rw [List.length_set]; exact HTL.out, HK5.out, HK6.out, HTT.out, h8, h9⟩
                  have HO21 := Lib.hid (HOW.out.keep HK1.out (fun j hj e => by subst e; obtain ⟨_, _, _, _, _, _, _, _, _, h9, _⟩ := HD2.out; exact own_block_ne HO2.out.1 h9 (by decide) hj.symm))
                  have HNO := Lib.hid (refOne_no HM.out HP.out HWN.out HE.out HBS.out HCT.out hc)
                  by_cases hfn : f < (nn : Int)
                  · have htt : ee.tk = true := by
                      cases h : ee.tk with
                      | true => rfl
                      | false => exact absurd ⟨hfn, h⟩ hc
                    rw [htt] at tk1
                    clear hc htt
                    go_wp2_with fail
                    exact ⟨⟨k + 1, n2, cp2, A2, c10, cells2, ⟨L1.set p ⟨ee.r, bs, ee.tk⟩, q.T, q.out⟩, by simp, rfl, by omega, by omega, HNEXT.out.trans HNO.out, HTW.out.then HK1.out, HRW1.out, HO21.out, HRW.out.keep HK1.out.kp⟩, by simp [intOf]; omega⟩
                  · clear hc
                    go_wp2_with fail
                    exact ⟨⟨k + 1, n2, cp2, A2, c10, cells2, ⟨L1.set p ⟨ee.r, bs, ee.tk⟩, q.T, q.out⟩, by simp, rfl, by omega, by omega, HNEXT.out.trans HNO.out, HTW.out.then HK1.out, HRW1.out, HO21.out, HRW.out.keep HK1.out.kp⟩, by simp [intOf]; omega⟩
    · have hkm : k = m := by omega
      subst hkm
      have htk : l.take k = l := by rw [← HLN.out]; exact List.take_length
      have HE := Lib.hid ((congrArg (refL f i ⟨L, T, []⟩) htk).symm.trans HQ.out)
      have hge : ¬ ((k : Int) < (k : Int)) := by omega
      go_wp2_with fail
      refine bodyPost_ret (results_tmp rfl _ _ _) rfl ?_
      have hql : q.out.length = n2 := by
        have a := HR2.out.1
        rw [HO2.out.len] at a
        have a' : n2 * 5 = q.out.length * 5 := a
        omega
      rw [HE.out]
      cases A2 with
      | none =>
        obtain ⟨A', cp', he, hR⟩ := HR2.out.rd HO2.out.1 hql (fun j hj => by cases hj)
        cases he
        exact ⟨none, n2, cp2, rfl, c2, hR, HT2.out, HD2.out⟩
      | some ad =>
        have hob : (Value.slice (some ad) n2 cp2).ownBlock = some ad.block := rfl
        have hlo := (HO2.out.1.lt _ hob).1
        have hcb := HO2.out.2 _ hob
        obtain ⟨A', cp', he, hR⟩ := (HR2.out.keep (c' := fun j => if j = ad.block then none else c2 j) (Kp.of_col wr fun j hj hn => by split <;> simp_all)).rd HO2.out.1 hql (fun j hj => by cases hj; simp)
        cases he
        refine ⟨some ad, n2, cp2, rfl, _, hR, HT2.out.cool ad.block hlo, HD2.out.cool ad.block ?_⟩
        rw [hcb]
        intro e
        cases e
        have := HT2.out.size
        omega
end Go.Proofs.Ytladpckbajnbeaa
