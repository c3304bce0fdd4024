/- client: Hear. -/
import Derived.Test.YtladpckbajnbeaaCliD
set_option linter.unusedVariables false
set_option linter.unusedSimpArgs false
namespace Go.Proofs.Ytladpckbajnbeaa
open Go.RowKit

structure HS where
  S : Sd
  T : List Rep
  out : List Rep
def hearOne (f : Int) (i : Nat) (s : HS) (x : Rep) : HS :=
  if mayP x = true then (if sayR f (s.S (wordB x)) i = true then ⟨s.S.put (wordB x) i, s.T ++ [x], s.out ++ [x]⟩ else ⟨s.S.put (wordB x) i, s.T, s.out⟩) else s
def hearL (f : Int) (i : Nat) (s : HS) (l : List Rep) : HS := l.foldl (hearOne f i) s
theorem hearL_snoc (f : Int) (i : Nat) (s : HS) (l : List Rep) (x : Rep) : hearL f i s (l ++ [x]) = hearOne f i (hearL f i s l) x := by simp [hearL, List.foldl_append]
theorem CHear_nil (w : World) (v : Int) (B : Option Addr) (m cq : Nat) : Calls Try.prog 29 #[.pointer none, .int .i64 v, .slice B m cq] w fun e w' => e = .returned (.slice none 0 0) ∧ w = w' := by
  go_enter Try.func29, Try.ntmps29
  go_wp2_with fail
  refine bodyPost_ret (results_tmp rfl _ _ _) rfl ?_
  exact ⟨rfl, rfl⟩
theorem CHear_off (w : World) (c : Col) (g : Nat) (f : Int) (S : Sd) (T : List Rep) (N : Nat) (v : Int) (B : Option Addr) (m cq : Nat) (hf0 : 0 ≤ f) (hf2 : f ≤ 2) (hv : v < 0 ∨ 3 * f < v) (hD : Dsk w c g f S T N) :
    Calls Try.prog 29 #[.pointer (some ⟨g, 0, none⟩), .int .i64 v, .slice B m cq] w fun e w' => e = .returned (.slice none 0 0) ∧ w = w' := by
  obtain ⟨hg, m', A1, n1, cp1, φ, cells, h1, _⟩ := hD
  have d0 := blk_cell0 h1
  have HV := Lib.hid hv
  clear hv h1
  go_enter Try.func29, Try.ntmps29
  go_wp2_with fail
  all_goals
    first
      | (refine bodyPost_ret (results_tmp rfl _ _ _) rfl ?_; exact ⟨rfl, rfl⟩)
      | (exfalso; have := HV.out; omega)
set_option maxRecDepth 100000 in
set_option maxHeartbeats 4000000 in
theorem CHear_any (w : World) (c : Col) (g : Nat) (f : Int) (S : Sd) (T : List Rep) (N : Nat) (i : Nat) (B : Option Addr) (m cq : Nat) (l : List Rep) (hi : (i : Int) ≤ 3 * f) (hf0 : 0 ≤ f) (hf2 : f ≤ 2) (hN : N + m < 1000000) (hw : Wf c w)
    (hD : Dsk w c g f S T N) (hx : Rd kRep w c B m cq l) :
    Calls Try.prog 29 #[.pointer (some ⟨g, 0, none⟩), .int .i64 (i : Int), .slice B m cq] w fun e w' => ∃ A n cp, e = .returned (.slice A n cp) ∧ ∃ c', Rd kRep w' c' A n cp (hearL f i ⟨S, T, []⟩ l).out ∧ Tr (· = g) c c' w w' ∧
      Dsk w' c' g f (hearL f i ⟨S, T, []⟩ l).S (hearL f i ⟨S, T, []⟩ l).T (N + m) := by
  have hln := hx.1
  have hd := hD
  obtain ⟨hg, m', A1, n1, cp1, φ, cells, h1, _⟩ := hd
  have d0 := blk_cell0 h1
  have hgl := blk_lt h1
  clear h1
  have hi7 : i < 7 := by omega
  have HX := Lib.hid hx
  have HW := Lib.hid hw
  have HLN := Lib.hid hln
  have HD := Lib.hid hD
  clear hx hw hln hD
  go_enter Try.func29, Try.ntmps29
  go_wp2_with fail
  go_loopw [7, 27] (fun o v wr => ∃ (k n2 cp2 : Nat) (A2 : Option Addr) (c2 : Col) (cells2 : List Value) (q : HS), v = .int .i64 (k : Int) ∧ o = .slice A2 n2 cp2 ∧ k ≤ m ∧ n2 ≤ k ∧ Hid (hearL f i ⟨S, T, []⟩ (l.take k) = q) ∧ Hid (Tr (· = g) c c2 w wr) ∧ Hid (Dsk wr c2 g f q.S q.T (N + k)) ∧
    Hid (OwnR wr c2 w.heap.size 52 5 A2 n2 cp2 cells2) ∧ Hid (Reps kRep wr c2 q.out cells2)) (fun _ v _ => m - (intOf v).toNat)
  case atStart => exact ⟨0, 0, 0, none, c, [], ⟨S, T, []⟩, rfl, rfl, by omega, by omega, rfl, Tr.refl _ HW.out, HD.out, OwnR.nil _ _ _ _ _, Reps.nil _ _ _⟩
  case round =>
    obtain ⟨k, n2, cp2, A2, c2, cells2, q, rfl, rfl, hk, hn2, HQ, HT2, HD2, HO2, HR2⟩ := hrel
    by_cases hlt : k < m
    · obtain ⟨bb, off, rfl⟩ := HX.out.addr (by omega)
      obtain ⟨x, hxk⟩ : ∃ x, l[k]? = some x := ⟨_, List.getElem?_eq_getElem (by rw [HLN.out]; exact hlt)⟩
      obtain ⟨A3, n3, cp3, hR3, e0, e1, e2, e3, e4⟩ := (HX.out.tr HT2.out).rep hxk
      obtain ⟨cl, sq, kd, t, lt⟩ := x
      dsimp only at *
      have hk0 : (0 : Int) ≤ (k : Int) := Int.natCast_nonneg _
      have hk1 : (k : Int) < (m : Int) := by omega
      have hrow : ∀ j, (Value.slice A2 n2 cp2).ownBlock = some j → j < wr.heap.size := fun j hj => (HO2.out.1.lt j hj).2
      have hrg : ∀ j, (Value.slice A2 n2 cp2).ownBlock = some j → j ≠ g := by
        intro j hj e
        subst e
        obtain ⟨_, m9, A9, n9, cp9, φ9, cells9, h9, _⟩ := HD2.out
        exact own_block_ne HO2.out.1 h9 (by decide) hj.symm
      have ht1 := ((Tr.refl (fun _ => False) HT2.out.wf).alloc (.cells #[.int .i64 cl, .int .i64 sq, .int .i64 kd, .slice A3 n3 cp3, .bool lt] 52)).hot (k := wr.heap.size) (g := wr.heap.size) (Nat.le_refl _) (by simp) (by simp) (.inr (Nat.le_refl _))
      have HL1 := Lib.hid (Loc.new c2 wr 52 #[.int .i64 cl, .int .i64 sq, .int .i64 kd, .slice A3 n3 cp3, .bool lt])
      have HRX1 := Lib.hid (hR3.hot_new (.cells #[.int .i64 cl, .int .i64 sq, .int .i64 kd, .slice A3 n3 cp3, .bool lt] 52) wr.heap.size)
      have HT1 := Lib.hid ht1
      generalize hc1 : c2.set wr.heap.size wr.heap.size = c1 at ht1 HL1 HRX1 HT1
      have HR3 := Lib.hid hR3
      have HXK := Lib.hid hxk
      have HROW := Lib.hid hrow
      have HRG := Lib.hid hrg
      clear hR3 hxk hrow hrg
      clear hc1 ht1
      have HNEXT : Hid (hearL f i ⟨S, T, []⟩ (l.take (k + 1)) = hearOne f i q ⟨cl, sq, kd, t, lt⟩) := by
        show _ = _
        rw [take_snoc' HXK.out, hearL_snoc, HQ.out]
      cases hmp : mayP ⟨cl, sq, kd, t, lt⟩ with
      | false =>
        have HM := Lib.hid hmp
        clear hmp
        go_wp2_with fail
        refine (bool_eq HM.out (CMay_any _ c1 ⟨cl, sq, kd, t, lt⟩ A3 n3 cp3 HRX1.out)).mono ?_
        rintro e w3 ⟨rfl, q_HB3⟩
        have HB3 := Lib.hid q_HB3
        clear q_HB3
        go_wp2_with fail
        have HT3 := Lib.hid (HT1.out.then (Tr.of_below HT1.out.wf HB3.out))
        refine ⟨⟨k + 1, n2, cp2, A2, c1, cells2, q, by simp, rfl, by omega, by omega, ?_, HT2.out.trans HT3.out (fun _ _ h => absurd h (fun h => h)), (HD2.out.tr HT3.out (fun h => h)).mono (by omega), HO2.out.keep HT3.out (fun _ _ h => h), HR2.out.keep HT3.out.kp⟩, by simp [intOf]; omega⟩
        show _ = _
        rw [HNEXT.out]
        unfold hearOne
        rw [if_neg (by rw [HM.out]; simp)]
      | true =>
        have HM := Lib.hid hmp
        clear hmp
        go_wp2_with fail
        refine (bool_eq HM.out (CMay_any _ c1 ⟨cl, sq, kd, t, lt⟩ A3 n3 cp3 HRX1.out)).mono ?_
        rintro e w3 ⟨rfl, q_HB3⟩
        have HB3 := Lib.hid q_HB3
        clear q_HB3
        have HT3 := Lib.hid (HT1.out.then (Tr.of_below HT1.out.wf HB3.out))
        have HL3 := Lib.hid (HL1.out.tr (Tr.of_below (M := fun _ => False) HT1.out.wf HB3.out) (fun h => h))
        have HRX3 := Lib.hid (HRX1.out.below HB3.out)
        have x0 := HL3.out.cell 0
        have x1 := HL3.out.cell 1
        have x2 := HL3.out.cell 2
        have x3 := HL3.out.cell 3
        have x4 := HL3.out.cell 4
        simp at x0 x1 x2 x3 x4
        have HSAY := Lib.hid (CSay_any w3 c1 g f q.S q.T (N + k) ⟨cl, sq, kd, t, lt⟩ A3 n3 cp3 i hi7 hf0 hf2 (by omega) HM.out HT3.out.wf (HD2.out.tr HT3.out (fun h => h)) HRX3.out)
        cases hsy : sayR f (q.S (wordB ⟨cl, sq, kd, t, lt⟩)) i with
        | false =>
          rw [hsy] at HSAY
          have HSY := Lib.hid hsy
          clear hsy
          go_wp2_with fail
          refine (HSAY.out).mono ?_
          rintro e w4 ⟨rfl, c4, q_HT4, q_HD4⟩
          have HT4 := Lib.hid q_HT4
          have HD4 := Lib.hid q_HD4
          clear q_HT4 q_HD4
          go_wp2_with fail
          have ht4 := HT3.out.mono (M' := (· = g)) (fun _ _ h => h.elim)
          have HT5 := Lib.hid (ht4.then HT4.out)
          refine ⟨⟨k + 1, n2, cp2, A2, c4, cells2, ⟨q.S.put (wordB ⟨cl, sq, kd, t, lt⟩) i, q.T, q.out⟩, by simp, rfl, by omega, by omega, ?_, HT2.out.then HT5.out, HD4.out, HO2.out.keep HT5.out (fun j hj h => HRG.out j hj h), HR2.out.keep HT5.out.kp⟩, by simp [intOf]; omega⟩
          show _ = _
          rw [HNEXT.out]
          unfold hearOne
          rw [if_pos HM.out, if_neg (by rw [HSY.out]; simp)]
        | true =>
          rw [hsy] at HSAY
          have HSY := Lib.hid hsy
          clear hsy
          go_wp2_with fail
          refine (HSAY.out).mono ?_
          rintro e w4 ⟨rfl, c4, q_HT4, q_HD4⟩
          have HT4 := Lib.hid q_HT4
          have HD4 := Lib.hid q_HD4
          clear q_HT4 q_HD4
          have HT5 := Lib.hid ((HT3.out.mono (M' := (· = g)) (fun _ _ h => h.elim)).then HT4.out)
          have hgw : g < wr.heap.size := Nat.lt_of_lt_of_le hgl HT2.out.size
          have hgb : wr.heap.size ≠ g := by omega
          have HL4 := Lib.hid (HL3.out.tr HT4.out hgb)
          have y3 := HL4.out.cell 3
          simp at y3
          have hn3 : n3 ≤ 6 := by
            rw [← HRX3.out.len]
            have hm := HM.out
            unfold mayP at hm
            simp only [Bool.and_eq_true] at hm
            have h5 := hm.2
            split at h5
            · exact (mayB_all h5).2.1
            · simp only [Bool.and_eq_true, List.isEmpty_iff] at h5
              simp [h5.2.2.1]
          go_wp2_with fail
          refine (CloneF_rd w4 c4 A3 n3 cp3 t (by omega) HT4.out.wf (HRX3.out.tr HT4.out)).mono ?_
          rintro e w5 ⟨A5, n5, cp5, rfl, q_HR5, q_HB5⟩
          have HR5 := Lib.hid q_HR5
          have HB5 := Lib.hid q_HB5
          clear q_HR5 q_HB5
          have HL5 := Lib.hid (HL4.out.tr (Tr.of_below (M := fun _ => False) HT4.out.wf HB5.out) (fun h => h))
          have HT6 := Lib.hid ((HT5.out.then (Tr.of_below HT4.out.wf HB5.out)).setCell (p := ⟨wr.heap.size, 3, none⟩) HL5.out.1 (.inr (Nat.le_refl _)) (.slice A5 n5 cp5))
          have HTb := Lib.hid ((Tr.refl (· = wr.heap.size) (HT4.out.wf.below HB5.out)).setCell (p := ⟨wr.heap.size, 3, none⟩) HL5.out.1 (.inl rfl) (.slice A5 n5 cp5))
          have HL6 : Hid (Loc (w5.setCell ⟨wr.heap.size, 3, none⟩ (.slice A5 n5 cp5)) c4 wr.heap.size 52 #[.int .i64 cl, .int .i64 sq, .int .i64 kd, .slice A5 n5 cp5, .bool lt]) := HL5.out.set_ 3 (.slice A5 n5 cp5)
          have HO6 := Lib.hid (HO2.out.keep HT6.out (fun j hj h => HRG.out j hj h))
          have l3 := HL5.out.cell 3
          simp at l3
          have lf3 := HL5.out.frozen 3
          have z0 := HL6.out.cell 0
          have z1 := HL6.out.cell 1
          have z2 := HL6.out.cell 2
          have z3 := HL6.out.cell 3
          have z4 := HL6.out.cell 4
          simp at z0 z1 z2 z3 z4
          go_wp2_with (at_builtin; go_must (refine app_one_self2 (lo := w.heap.size) (.tmp 43) (.tmp 45) 55 52 (.agg #[.int .i64 0, .int .i64 0, .int .i64 0, .slice none 0 0, .bool false]) 5 56 rfl rfl Try.underlying55 rep_info rfl (by decide) (by decide) cells2 #[.int .i64 cl, .int .i64 sq, .int .i64 kd, .slice A5 n5 cp5, .bool lt] rfl rfl (by first | rfl | (show Value.slice (some ⟨_, 0, none⟩) 1 1 = _; simp)) (by intro u hu; simp at hu; rcases hu with rfl | rfl | rfl | rfl | rfl <;> rfl) HT6.out.wf HO6.out (Nat.le_trans HT2.out.size HT6.out.size) (by omega) ?_); intro A7 cp7 w7 c7 q_HA7 q_HO7 q_hn7; have HN7 := Lib.hid q_hn7; have HA7 := Lib.hid q_HA7; have HO7 := Lib.hid q_HO7; have HL7 := Lib.hid (HL6.out.tr q_HA7 (fun h => Nat.lt_irrefl _ (HROW.out _ h))); have u0 := HL7.out.cell 0; have u1 := HL7.out.cell 1; have u2 := HL7.out.cell 2; have u3 := HL7.out.cell 3; have u4 := HL7.out.cell 4; simp at u0 u1 u2 u3 u4; clear q_HA7 q_HO7 q_hn7)
          have hn5 : n5 ≤ 6 := by rw [← HR5.out.len, HRX3.out.len]; exact hn3
          have HR7 := Lib.hid ((HR5.out.tr HTb.out).tr HA7.out)
          refine (CloneF_rd w7 c7 A5 n5 cp5 t (by omega) HA7.out.wf HR7.out).mono ?_
          rintro e w8 ⟨A8, n8, cp8, rfl, q_HR8, q_HB8⟩
          have HR8 := Lib.hid q_HR8
          have HB8 := Lib.hid q_HB8
          clear q_HR8 q_HB8
          have HL8 := Lib.hid (HL7.out.tr (Tr.of_below (M := fun _ => False) HA7.out.wf HB8.out) (fun h => h))
          have HTc := Lib.hid ((Tr.refl (· = wr.heap.size) (HA7.out.wf.below HB8.out)).setCell (p := ⟨wr.heap.size, 3, none⟩) HL8.out.1 (.inl rfl) (.slice A8 n8 cp8))
          have HTd := Lib.hid (((Tr.refl (· = wr.heap.size) HA7.out.wf).then (Tr.of_below HA7.out.wf HB8.out)).then HTc.out)
          have HL9 : Hid (Loc (w8.setCell ⟨wr.heap.size, 3, none⟩ (.slice A8 n8 cp8)) c7 wr.heap.size 52 #[.int .i64 cl, .int .i64 sq, .int .i64 kd, .slice A8 n8 cp8, .bool lt]) := HL8.out.set_ 3 (.slice A8 n8 cp8)
          have r3 := HL8.out.cell 3
          simp at r3
          have rf3 := HL8.out.frozen 3
          have p0 := HL9.out.cell 0
          have p1 := HL9.out.cell 1
          have p2 := HL9.out.cell 2
          have p3 := HL9.out.cell 3
          have p4 := HL9.out.cell 4
          simp at p0 p1 p2 p3 p4
          have hgb' : ¬ (g = wr.heap.size) := fun e => hgb e.symm
          have HD9 := Lib.hid ((((HD4.out.tr (Tr.of_below (M := fun _ => False) HT4.out.wf HB5.out) (fun h => h)).tr HTb.out hgb').tr HA7.out (fun h => HRG.out _ h rfl)).tr HTd.out hgb')
          obtain ⟨hg9, m9, A9, n9, cp9, φ9, cells9, h1, h2, h3, h4, h5, h6, h7, h8⟩ := HD9.out
          have hq9 := HD2.out.taken
          have hn9 : n9 ≤ N + k := by rw [← h7]; exact hq9
          have q2 := blk_cell2 h1
          have qf2 := blk_free h1 2
          have hgl9 := blk_lt h1
          have hown9 := own_block_ne h5.1 h1 (by decide)
          have H1 := Lib.hid h1
          have H2 := Lib.hid h2
          have H3 := Lib.hid h3
          have H4 := Lib.hid h4
          have H5 := Lib.hid h5
          have H6 := Lib.hid h6
          have H7 := Lib.hid h7
          have H8 := Lib.hid h8
          have HG9 := Lib.hid hg9
          clear h2 h3 h4 h5 h6 h7 h8 hg9
          clear h1
          go_wp2_with fail
          have HRx := Lib.hid (HR8.out.tr HTc.out)
          generalize hW9 : w8.setCell ⟨wr.heap.size, 3, none⟩ (.slice A8 n8 cp8) = W9 at *
          have hne9 := World.new_ne W9 ⟨g, 2, none⟩ q2
          go_region_law (refine step_one_st (W9 := W9) (c9 := c7) (g := g) (.tmp 55) (.tmp 57) 55 52 (.agg #[.int .i64 0, .int .i64 0, .int .i64 0, .slice none 0 0, .bool false]) 5 56 rfl rfl Try.underlying55 rep_info rfl (by decide) (by decide) cells9 #[.int .i64 cl, .int .i64 sq, .int .i64 kd, .slice A8 n8 cp8, .bool lt] rfl (by simp [Act.eval, Act.put]) (by simp [Act.eval, Act.put]) (by intro u hu; simp at hu; rcases hu with rfl | rfl | rfl | rfl | rfl <;> rfl) (below_alloc_drew _ _) (heap_alloc_new _ _) HTc.out.wf H5.out hgl9 (by omega) ?_; intro A10 cp10 w10 c10 q_k1 q_k2 q_k3 q_k4; have K1 := Lib.hid q_k1; have K2 := Lib.hid q_k2; have K3 := Lib.hid q_k3; have K4 := Lib.hid q_k4; have v2 := (World.cell?_of_block (a := ⟨g, 2, none⟩) (q_k4 g hgl9 hown9)).trans q2; have vf2 := (World.frozen?_of_block (a := ⟨g, 2, none⟩) (q_k4 g hgl9 hown9)).trans qf2; clear q_k1 q_k2 q_k3 q_k4)
          all_goals
            have hGR := Dsk.grew (x := ⟨cl, sq, kd, t, lt⟩) HG9.out H1.out H2.out H3.out H4.out H5.out H6.out H7.out (by omega) K1.out K2.out K3.out K4.out ⟨A8, n8, cp8, rfl, HRx.out⟩
            have HG1 := Lib.hid hGR.1
            have HG2 := Lib.hid hGR.2
            clear hGR
            go_wp2_with fail
            refine ⟨⟨k + 1, n2 + 1, cp7, A7, c10, cells2 ++ [.int .i64 cl, .int .i64 sq, .int .i64 kd, .slice A5 n5 cp5, .bool lt], ⟨q.S.put (wordB ⟨cl, sq, kd, t, lt⟩) i, q.T ++ [(⟨cl, sq, kd, t, lt⟩ : Rep)], q.out ++ [(⟨cl, sq, kd, t, lt⟩ : Rep)]⟩, by simp, rfl, by omega, by omega, ?_, ?_, ?_, ?_, ?_⟩, by simp [intOf]; omega⟩
            · show _ = _
              rw [HNEXT.out]
              unfold hearOne
              rw [if_pos HM.out, if_pos HSY.out]
            · exact ((((HT2.out.then HT6.out).trans HA7.out (fun r hr h => absurd (HO2.out.1.lt r h).1 (by omega))).trans HTd.out (fun r hr h => absurd h (by have := HT2.out.size; omega))).then HG1.out)
            · exact HG2.out
            · refine (HO7.out.keep HTd.out (fun j hj e => ?_)).keep HG1.out (fun j hj e => ?_)
              · subst e
                rcases HN7.out _ hj with h | h
                · exact Nat.lt_irrefl _ (HROW.out _ h)
                · exact absurd h (by have := blk_lt HL6.out.2; omega)
              · subst e
                exact own_block_ne (HO7.out.keep HTd.out (fun j hj e => by
                  subst e
                  rcases HN7.out _ hj with h | h
                  · exact Nat.lt_irrefl _ (HROW.out _ h)
                  · exact absurd h (by have := blk_lt HL6.out.2; omega))).1 H1.out (by decide) hj.symm
            · exact ((((HR2.out.keep HT6.out.kp).keep HA7.out.kp).append (Reps.one ⟨A5, n5, cp5, rfl, HR7.out⟩)).keep HTd.out.kp).keep HG1.out.kp
    · have hkm : k = m := by omega
      subst hkm
      have htk : l.take k = l := by rw [← HLN.out]; exact List.take_length
      have HE := Lib.hid ((congrArg (hearL f i ⟨S, T, []⟩) htk).symm.trans HQ.out)
      have hge : ¬ ((k : Int) < (k : Int)) := by omega
      go_wp2_with fail
      refine bodyPost_ret (results_tmp rfl _ _ _) rfl ?_
      have hql : q.out.length = n2 := by
        have a := HR2.out.1
        rw [HO2.out.len] at a
        have a' : n2 * 5 = q.out.length * 5 := a
        omega
      rw [HE.out]
      cases A2 with
      | none =>
        obtain ⟨A', cp', he, hR⟩ := HR2.out.rd HO2.out.1 hql (fun j hj => by cases hj)
        cases he
        exact ⟨none, n2, cp2, rfl, c2, hR, HT2.out, HD2.out⟩
      | some ad =>
        have hob : (Value.slice (some ad) n2 cp2).ownBlock = some ad.block := rfl
        have hlo := (HO2.out.1.lt _ hob).1
        have hcb := HO2.out.2 _ hob
        obtain ⟨A', cp', he, hR⟩ := (HR2.out.keep (c' := fun j => if j = ad.block then none else c2 j) (Kp.of_col wr fun j hj hn => by split <;> simp_all)).rd HO2.out.1 hql (fun j hj => by cases hj; simp)
        cases he
        refine ⟨some ad, n2, cp2, rfl, _, hR, HT2.out.cool ad.block hlo, HD2.out.cool ad.block ?_⟩
        rw [hcb]
        intro e
        cases e
        have := HT2.out.size
        omega
end Go.Proofs.Ytladpckbajnbeaa
