/- TupleMatch: the walk. -/
import Derived.Test.YtladpckbajnbeaaTupM
import Derived.Test.YtladpckbajnbeaaTupleBack
import Derived.Deep.DeepCutAuto
import Derived.Outline
set_option linter.unusedVariables false
set_option linter.unusedSimpArgs false
namespace Go.Proofs.Ytladpckbajnbeaa
open Go.RowKit

set_option maxRecDepth 100000 in
set_option maxHeartbeats 4000000 in
theorem TupleMatch_any (w : World) (A : Option Addr) (n cp : Nat) (t : List Fld) (op wh : Int) (hx : Rd kFld w (fun _ => none) A n cp t) :
    Calls Try.prog 13 #[.slice A n cp, .int .i64 op, .int .i64 wh] w (BoolPost w true) := by
  have HOK := Lib.hid hx.all_ok
  have hln := hx.1
  have HX := Lib.hid hx
  clear hx
  cases hm : mayB t with
  | false =>
    have HM := Lib.hid hm
    have HL := Lib.hid hln
    clear hm hln
    go_enter Try.func13, Try.ntmps13
    go_wp2_with fail
    refine (bool_eq HM.out (May_any w _ A n cp t HX.out)).mono ?_
    rintro e w1 ⟨rfl, q_HB1⟩
    have HB1 := Lib.hid q_HB1
    clear q_HB1
    go_wp2_with fail
    refine (told6 w1).mono ?_
    rintro e w2 ⟨rfl, q_HB2⟩
    have HB2 := Lib.hid q_HB2
    clear q_HB2
    go_wp2_with fail
    refine bodyPost_ret (results_tmp rfl _ _ _) rfl ?_
    exact ⟨rfl, below_then HB1.out HB2.out⟩
  | true =>
  obtain ⟨h1, h6, hpl⟩ := mayB_all hm
  rw [hln] at h1 h6
  have HM := Lib.hid hm
  have HL := Lib.hid hln
  have HPL := Lib.hid hpl
  clear hm hln hpl
  go_enter Try.func13, Try.ntmps13
  go_wp2_with fail
  refine (bool_eq HM.out (May_any w _ A n cp t HX.out)).mono ?_
  rintro e w1 ⟨rfl, q_HB1⟩
  have HB1 := Lib.hid q_HB1
  clear q_HB1
  go_wp2_with (at_builtin; go_must (refine app_rows (K := kFld) (c := fun _ => none) (.tmp 16) (.tmp 17) 50 54 (.agg #[.int .i64 0, .int .i64 0, .string ⟨#[]⟩]) 32 rfl rfl Try.underlying50 fld_info rfl [] t rfl rfl (by omega) (below_alloc _ _).size (own_empty3 w1 w1 _ _ (Nat.le_refl _)) (HX.out.below (below_then HB1.out (below_alloc _ _))) (by omega) (by decide) ?_; intro A2 cp2 w2 cells2 q_hr2 q_ho2 q_hg2; obtain ⟨g2, rfl, q_h2⟩ := own_fresh q_ho2 q_hr2 (by omega); have HO2 := Lib.hid q_h2; have HB2 := Lib.hid ((below_alloc w1 _).grown q_hg2 (below_alloc w1 _).size (fun k hk => by cases hk; exact Nat.le_refl _)); clear q_hr2 q_ho2 q_hg2 q_h2))
  go_loopw [8] (fun i wr => ∃ (k : Nat) (pl : List Fld), i = .int .i64 (k : Int) ∧ k ≤ n ∧ Hid (OpenL t pl) ∧ Hid (∀ j, k ≤ j → pl[j]? = t[j]?) ∧ Hid (wr.ownsRow w1.heap.size 54 3 (.slice (some ⟨g2, 0, none⟩) n cp2) n (pl.flatMap fCells)) ∧ Hid (Below w1.heap.size w1 wr)) (fun i _ => n - (intOf i).toNat)
  case atStart => exact ⟨0, t, rfl, by omega, OpenL.refl t, fun _ _ => rfl, HO2.out, HB2.out⟩
  case round =>
    obtain ⟨k, pl, rfl, hk, hop, hrest, hown, hbl⟩ := hrel
    by_cases hlt : k < n
    · have hel := getD_at' t ⟨0, 0, []⟩ (k := k) (by have := HL.out; omega)
      generalize t[k]?.getD ⟨0, 0, []⟩ = x at hel
      have hplk : pl[k]? = some x := (hrest.out k (Nat.le_refl _)).trans hel
      have hklen : k < pl.length := by have := hop.out.1; have := HL.out; omega
      have hxk := plain_kind (HPL.out k x hel)
      have hxk1 : 1 ≤ x.kind := by omega
      have hxk2 : x.kind ≤ 2 := by omega
      obtain ⟨hc0, _, _⟩ := fcells_at hplk
      have hcell := (hown.out.cellAt (k * 3) (by omega)).trans hc0
      have f0 := hown.out.frozenAt (k * 3)
      have f1 := hown.out.frozenAt (k * 3 + 1)
      have f2 := hown.out.frozenAt (k * 3 + 2)
      have e0 := hown.out.cellAt (k * 3) (by omega)
      have e1 := (hown.out.cellAt (k * 3 + 1) (by omega)).trans (fcells_at hplk).2.1
      have e2 := (hown.out.cellAt (k * 3 + 2) (by omega)).trans (fcells_at hplk).2.2
      have HS5 := Lib.hid (own_stored3 hown.out (k * 3) (.int .i64 5) (.int .i64 0) (.string ⟨#[]⟩))
      have HS3 := Lib.hid (own_stored3 hown.out (k * 3) (.int .i64 (3 + x.kind - 1)) (.int .i64 0) (.string ⟨#[]⟩))
      have HF5 := Lib.hid (fcells_set pl k ⟨5, 0, []⟩ hklen)
      have HF3 := Lib.hid (fcells_set pl k ⟨3 + x.kind - 1, 0, []⟩ hklen)
      have HO5 := Lib.hid (hop.out.set (k := k) hel (y := ⟨5, 0, []⟩) (.inr (.inl rfl)))
      have HO3 := Lib.hid (hop.out.set (k := k) hel (y := ⟨3 + x.kind - 1, 0, []⟩) (.inr (.inr (by congr 1; omega))))
      have HR := Lib.hid (fun (y : Fld) (j : Nat) (h : k + 1 ≤ j) => show (pl.set k y)[j]? = t[j]? by rw [List.getElem?_set_ne (by omega)]; exact hrest.out j (by omega))
      have HGB := Lib.hid (fun (W : World) (h : wr.grownBy W (some g2)) => hbl.out.grown h hbl.out.size (fun j hj => by cases hj; exact (hown.out.lt g2 rfl).1))
      clear hel hplk hxk hc0 e0
      go_upto_region 8 with fail
      generalize bits BinOp.and IntKind.i64 (op / 2 ^ (2 * k)) 3 = z
      by_cases hz1 : z = 1
      · have hb1 : (z == 1) = true := by simp [hz1]
        clear hz1
        go_wp2_with fail
        exact ⟨⟨k + 1, pl.set k ⟨5, 0, []⟩, by go_num, by omega, HO5.out, HR.out _, HF5.out ▸ HS5.out.1, HGB.out _ HS5.out.2⟩, by simp [intOf]; omega⟩
      · have hb1 : (z == 1) = false := by simp [hz1]
        by_cases hz2 : z = 2
        · have hb2 : (z == 2) = true := by simp [hz2]
          clear hz1 hz2
          go_wp2_with fail
          exact ⟨⟨k + 1, pl.set k ⟨3 + x.kind - 1, 0, []⟩, by go_num, by omega, HO3.out, HR.out _, HF3.out ▸ HS3.out.1, HGB.out _ HS3.out.2⟩, by simp [intOf]; omega⟩
        · have hb2 : (z == 2) = false := by simp [hz2]
          clear hz1 hz2
          go_wp2_with fail
          exact ⟨⟨k + 1, pl, by go_num, by omega, hop.out, fun j hj => hrest.out j (by omega), hown.out, hbl.out⟩, by simp [intOf]; omega⟩
    · obtain rfl : k = n := by omega
      have HBW := Lib.hid (below_then HB1.out hbl.out)
      obtain ⟨i, hi, hin⟩ := rem_small wh k h1 (by omega)
      have hel := getD_at' t ⟨0, 0, []⟩ (k := i) (by have := HL.out; omega)
      generalize t[i]?.getD ⟨0, 0, []⟩ = x at hel
      have HEL := Lib.hid hel
      have HPX := Lib.hid (HPL.out i x hel)
      have HXOK : Hid x.ok := HOK.out x (List.mem_of_getElem? hel)
      have HIL : Hid (i < t.length) := by show _ < _; have := HL.out; omega
      clear hel
      go_upto_if 65 with (at_builtin; go_must (refine app_rows (K := kFld) (c := fun _ => none) (.tmp 50) (.tmp 51) 50 54 (.agg #[.int .i64 0, .int .i64 0, .string ⟨#[]⟩]) 32 rfl rfl Try.underlying50 fld_info rfl [] t rfl rfl (by omega) (below_alloc _ _).size (own_empty3 wr wr _ _ (Nat.le_refl _)) (HX.out.below (below_then HBW.out (below_alloc _ _))) (by omega) (by decide) ?_; intro A3 cp3 w3 cells3 q_hr3 q_ho3 q_hg3; obtain ⟨g3, rfl, q_h3⟩ := own_fresh q_ho3 q_hr3 (by omega); have HO3 := Lib.hid q_h3; have HB3 := Lib.hid ((below_alloc wr _).grown q_hg3 (below_alloc wr _).size (fun k hk => by cases hk; exact Nat.le_refl _)); clear q_hr3 q_ho3 q_hg3 q_h3; have e0 := (HO3.out.cellAt (i * 3) (by omega)).trans (fcells_at HEL.out).1; have e1 := (HO3.out.cellAt (i * 3 + 1) (by omega)).trans (fcells_at HEL.out).2.1; have e2 := (HO3.out.cellAt (i * 3 + 2) (by omega)).trans (fcells_at HEL.out).2.2; have f0 := HO3.out.frozenAt (i * 3); have f1 := HO3.out.frozenAt (i * 3 + 1); have f2 := HO3.out.frozenAt (i * 3 + 2)))
      go_cut [9] (fun a wx => a = .slice (some ⟨g3, 0, none⟩) k cp3 ∧ ∃ f : Fld, Hid (plainB f = true) ∧ Hid (f.kind = 1) ∧ Hid (x ≠ f) ∧ Hid f.ok ∧ Hid (wx.ownsRow wr.heap.size 54 3 (.slice (some ⟨g3, 0, none⟩) k cp3) k ((t.set i f).flatMap fCells)) ∧ Hid (Below wr.heap.size wr wx))
      case first =>
        have hc := plain_kind HPX.out
        rcases hc with ⟨hc, hs⟩ | hc
        · have hb : (x.kind == 1) = true := by simp [hc]
          obtain ⟨hx1, hx2, hx3⟩ := xor1 x.n
          generalize hz : bits .xor .i64 x.n 1 = z at hx1 hx2 hx3
          have hst := HO3.out.stored (i * 3 + 1) (.int .i64 z)
          have hset := fcells_set1 t i x z HEL.out
          rw [hc] at hset
          rw [hset] at hst
          have HST := Lib.hid hst
          have HF : Hid (plainB ⟨1, z, x.s⟩ = true ∧ x ≠ ⟨1, z, x.s⟩ ∧ (⟨1, z, x.s⟩ : Fld).ok) := by
            refine ⟨?_, fun e => ?_, ?_⟩
            · unfold plainB; simp [hs]
            · have := congrArg Fld.n e
              exact hx1 this.symm
            · exact ⟨⟨by simp, by simp⟩, ⟨hx2, hx3⟩, HXOK.out.2.2⟩
          clear hc hs hst hset
          go_wp2_with fail
          go_meet
          exact ⟨rfl, ⟨1, z, x.s⟩, HF.out.1, rfl, HF.out.2.1, HF.out.2.2, HST.out.1, HB3.out.grown HST.out.2 HB3.out.size (fun j hj => by cases hj; exact (HO3.out.lt g3 rfl).1)⟩
        · have hb : (x.kind == 1) = false := by simp [hc]
          have hst := own_stored3 HO3.out (i * 3) (.int .i64 1) (.int .i64 5) (.string ⟨#[]⟩)
          have hset := fcells_set t i ⟨1, 5, []⟩ HIL.out
          rw [hset] at hst
          have HST := Lib.hid hst
          have HF : Hid (x ≠ ⟨1, 5, []⟩) := by
            show _ ≠ _
            intro e
            have := congrArg Fld.kind e
            rw [hc] at this
            cases this
          clear hc hst hset
          go_wp2_with fail
          go_meet
          exact ⟨rfl, ⟨1, 5, []⟩, rfl, rfl, HF.out, ⟨by decide, by decide, by decide⟩, HST.out.1, HB3.out.grown HST.out.2 HB3.out.size (fun j hj => by cases hj; exact (HO3.out.lt g3 rfl).1)⟩
      case rest =>
        obtain ⟨rfl, f, HF1, HF2, HF3, HF4, HOF, HBF⟩ := hcut
        have HBC := Lib.hid (below_then HBW.out HBF.out)
        have tok1 : True := trivial
        go_upto_region 18 with (first
          | (at_builtin; have _t := tok1; go_must (refine app_rows (K := kFld) (c := fun _ => none) (.tmp 80) (.tmp 81) 50 54 (.agg #[.int .i64 0, .int .i64 0, .string ⟨#[]⟩]) 32 rfl rfl Try.underlying50 fld_info rfl [] t rfl rfl (by omega) (below_alloc _ _).size (own_empty3 wc wc _ _ (Nat.le_refl _)) (HX.out.below (below_then HBC.out (below_alloc _ _))) (by omega) (by decide) ?_; intro A4 cp4 w4 cells4 q_hr4 q_ho4 q_hg4; obtain ⟨g4, rfl, q_h4⟩ := own_fresh q_ho4 q_hr4 (by omega); have HO4 := Lib.hid q_h4; have HB4 := Lib.hid ((below_alloc wc _).grown q_hg4 (below_alloc wc _).size (fun k hk => by cases hk; exact Nat.le_refl _)); clear q_hr4 q_ho4 q_hg4 q_h4 tok1))
          | (at_builtin; go_must (refine app_one_own (base := wc.heap.size) (.tmp 82) (.tmp 84) 50 54 (.agg #[.int .i64 0, .int .i64 0, .string ⟨#[]⟩]) 3 32 rfl rfl Try.underlying50 fld_info rfl (by decide) (by decide) (t.flatMap fCells) _ rfl rfl rfl (by intro u hu; simp at hu; rcases hu with rfl | rfl | rfl <;> rfl) HB4.out.size HB4.out HO4.out (by omega) ?_; intro A5 cp5 w5 q_hb5 q_ho5 hs5; have HB5 := Lib.hid q_hb5; have HO5 := Lib.hid q_ho5; clear q_hb5 q_ho5)))
        have HB15 := Lib.hid (below_then HBC.out HB5.out)
        have hopok : ∀ y ∈ pl, y.ok := fun y hy => by
          obtain ⟨j, hj⟩ := List.mem_iff_getElem?.1 hy
          have hjl : j < t.length := by rw [← hop.out.1]; exact (List.getElem?_eq_some_iff.1 hj).1
          have ht := List.getElem?_eq_getElem hjl
          have hk := plain_kind (HPL.out j _ ht)
          rcases hop.out.2 j _ y ht hj with rfl | rfl | rfl
          · exact HOK.out _ (List.getElem_mem hjl)
          · exact ⟨by decide, by decide, by decide⟩
          · exact ⟨by dsimp only; omega, ⟨by simp, by simp⟩, by simp⟩
        have huok : ∀ y ∈ t.set i f, y.ok := fun y hy => by
          rcases List.mem_or_eq_of_mem_set hy with h | rfl
          · exact HOK.out y h
          · exact HF4.out
        have hsok : ∀ y ∈ t ++ [⟨1, 0, []⟩], Fld.ok y := fun y hy => by
          rcases List.mem_append.1 hy with h | h
          · exact HOK.out y h
          · simp at h; subst h; exact (show Fld.ok ⟨1, 0, []⟩ from ⟨by decide, by decide, by decide⟩)
        have HRT := Lib.hid (fun W (h : Below w5.heap.size w5 W) => HX.out.below (below_then HB15.out h))
        have HRP : Hid (∀ W, Below wr.heap.size wr W → Rd kFld W (fun _ => none) (some ⟨g2, 0, none⟩) k cp2 pl) := by
          intro W hW
          obtain ⟨A', cp', he, hr⟩ := Rd.of_own (K := kFld) (c := fun _ => none) hown.out (by rw [hop.out.1]; exact HL.out) (fun _ _ => rfl) (fun j x hj => flds_rep hopok j x hj)
          cases he
          exact hr.below hW
        have HRU : Hid (∀ W, Below wc.heap.size wc W → Rd kFld W (fun _ => none) (some ⟨g3, 0, none⟩) k cp3 (t.set i f)) := by
          intro W hW
          obtain ⟨A', cp', he, hr⟩ := Rd.of_own (K := kFld) (c := fun _ => none) HOF.out (by rw [List.length_set]; exact HL.out) (fun _ _ => rfl) (fun j x hj => flds_rep huok j x hj)
          cases he
          exact hr.below hW
        have HRS : Hid (∀ W, Below w5.heap.size w5 W → Rd kFld W (fun _ => none) A5 (k + 1) cp5 (t ++ [⟨1, 0, []⟩])) := by
          intro W hW
          have ho := HO5.out
          have e : t.flatMap fCells ++ #[Value.int .i64 1, .int .i64 0, .string ⟨#[]⟩].toList = (t ++ [(⟨1, 0, []⟩ : Fld)]).flatMap fCells := by rw [List.flatMap_append, List.flatMap_singleton]; rfl
          rw [e] at ho
          obtain ⟨A', cp', he, hr⟩ := Rd.of_own (K := kFld) (c := fun _ => none) ho (by rw [List.length_append, HL.out]; rfl) (fun _ _ => rfl) (fun j x hj => flds_rep hsok j x hj)
          cases he
          exact hr.below hW
        have HBR := Lib.hid (below_then HBF.out HB5.out)
        obtain ⟨y, hy⟩ : ∃ y, pl[i]? = some y := ⟨_, List.getElem?_eq_getElem (by rw [hop.out.1]; exact HIL.out)⟩
        have hlaw := hop.out.match_set HM.out HEL.out hy HF1.out HF2.out HF3.out
        have c0 : ∀ d os, Calls Try.prog 39 #[] (Sort.grow (redrawn w5 d) os) (BoolPost (Sort.grow (redrawn w5 d) os) true) := fun d os => told6 _
        have c1 : ∀ d os, Calls Try.prog 49 #[.slice A k cp, .slice A k cp] (Sort.grow (redrawn w5 d) os) (BoolPost (Sort.grow (redrawn w5 d) os) true) := fun d os =>
          bool_eq ((OpenL.refl t).match_ HM.out) (Match_any _ _ A A k cp k cp t t (HRT.out _ (below_regrown w5 d os)) (HRT.out _ (below_regrown w5 d os)))
        have c2 : ∀ d os, Calls Try.prog 49 #[.slice (some ⟨g2, 0, none⟩) k cp2, .slice A k cp] (Sort.grow (redrawn w5 d) os) (BoolPost (Sort.grow (redrawn w5 d) os) true) := fun d os =>
          bool_eq (hop.out.match_ HM.out) (Match_any _ _ _ A k cp2 k cp pl t (HRP.out _ (below_then HBR.out (below_regrown w5 d os))) (HRT.out _ (below_regrown w5 d os)))
        have c3 : ∀ d os, Calls Try.prog 49 #[.slice A k cp, .slice (some ⟨g3, 0, none⟩) k cp3] (Sort.grow (redrawn w5 d) os) (BoolPost (Sort.grow (redrawn w5 d) os) false) := fun d os =>
          bool_eq (match_set_no HM.out HEL.out HF3.out) (Match_any _ _ A _ k cp k cp3 t _ (HRT.out _ (below_regrown w5 d os)) (HRU.out _ (below_then HB5.out (below_regrown w5 d os))))
        have c4 : ∀ d os, Calls Try.prog 47 #[.slice (some ⟨g3, 0, none⟩) k cp3] (Sort.grow (redrawn w5 d) os) (BoolPost (Sort.grow (redrawn w5 d) os) true) := fun d os =>
          bool_eq (may_set HM.out i HF1.out) (May_any _ _ _ k cp3 _ (HRU.out _ (below_then HB5.out (below_regrown w5 d os))))
        have c5 : ∀ d os, Calls Try.prog 49 #[.slice (some ⟨g2, 0, none⟩) k cp2, .slice (some ⟨g3, 0, none⟩) k cp3] (Sort.grow (redrawn w5 d) os) (BoolPost (Sort.grow (redrawn w5 d) os) (y.kind == 5 || (y.kind == 3 && x.kind == 1))) := fun d os =>
          bool_eq hlaw (Match_any _ _ _ _ k cp2 k cp3 pl _ (HRP.out _ (below_then HBR.out (below_regrown w5 d os))) (HRU.out _ (below_then HB5.out (below_regrown w5 d os))))
        have c6 : ∀ d os, Calls Try.prog 49 #[.slice A k cp, .slice A5 (k + 1) cp5] (Sort.grow (redrawn w5 d) os) (BoolPost (Sort.grow (redrawn w5 d) os) false) := fun d os =>
          bool_eq (match_more t _) (Match_any _ _ A _ k cp (k + 1) cp5 t _ (HRT.out _ (below_regrown w5 d os)) (HRS.out _ (below_regrown w5 d os)))
        obtain ⟨b0, off0, rfl⟩ := HX.out.addr (by omega)
        have l0 := cell_regrown (((HRP.out w5 HBR.out).fld hy).2.1)
        rw [Nat.zero_add] at l0
        have l1 := cell_regrown (((HRT.out w5 (Below.refl _ _)).fld HEL.out).2.1)
        generalize y.kind = yk at l0 hlaw c5
        generalize x.kind = xk at l1 hlaw c5
        have hk0 : (0 : Int) ≤ (i : Int) := Int.natCast_nonneg _
        have hk1 : (i : Int) < (k : Int) := by omega
        have C0 := Lib.hid c0
        have C1 := Lib.hid c1
        have C2 := Lib.hid c2
        have C3 := Lib.hid c3
        have C4 := Lib.hid c4
        have C5 := Lib.hid c5
        have C6 := Lib.hid c6
        have HY := Lib.hid hy
        have HLAW := Lib.hid hlaw
        clear c0 c1 c2 c3 c4 c5 c6 hy hlaw
        clear hopok huok hsok
        cases hy5 : (yk == 5) with
        | true =>
          rw [hy5, Bool.true_or] at C5
          refine wp_region_quiet_below (by kernel_rfl) (by kernel_rfl) ?_
          repeat ((with_reducible refine wpQuiet_step (fun K hK => ?_)); go_simp; first | (with_reducible refine hK _ ?_; clear hK K) | (rw [if_neg (by decide)]; with_reducible refine hK _ ?_; clear hK K) | (apply Exists.intro; refine ⟨fun _ => ?_, hK _ ?_⟩; (first | with_reducible exact regrown_bool (C0.out _ _) | with_reducible exact regrown_bool (C1.out _ _) | with_reducible exact regrown_bool (C2.out _ _) | with_reducible exact regrown_bool (C3.out _ _) | with_reducible exact regrown_bool (C4.out _ _) | with_reducible exact regrown_bool (C5.out _ _) | with_reducible exact regrown_bool (C6.out _ _)); clear hK K))
          with_reducible refine wpQuiet_nil ?_
          intro _ hw'
          obtain ⟨⟨dq, osq⟩, hw''⟩ := hw'
          subst hw''
          go_wp2_with fail
          go_ret
          exact ⟨rfl, below_then HB15.out (below_regrown w5 dq osq)⟩
        | false =>
          rw [hy5, Bool.false_or] at C5
          cases hy3 : (yk == 3) with
          | true =>
            rw [hy3, Bool.true_and] at C5
            cases hx1 : (xk == 1) with
            | true =>
              rw [hx1] at C5
              refine wp_region_quiet_below (by kernel_rfl) (by kernel_rfl) ?_
              repeat ((with_reducible refine wpQuiet_step (fun K hK => ?_)); go_simp; first | (with_reducible refine hK _ ?_; clear hK K) | (rw [if_neg (by decide)]; with_reducible refine hK _ ?_; clear hK K) | (apply Exists.intro; refine ⟨fun _ => ?_, hK _ ?_⟩; (first | with_reducible exact regrown_bool (C0.out _ _) | with_reducible exact regrown_bool (C1.out _ _) | with_reducible exact regrown_bool (C2.out _ _) | with_reducible exact regrown_bool (C3.out _ _) | with_reducible exact regrown_bool (C4.out _ _) | with_reducible exact regrown_bool (C5.out _ _) | with_reducible exact regrown_bool (C6.out _ _)); clear hK K))
              with_reducible refine wpQuiet_nil ?_
              intro _ hw'
              obtain ⟨⟨dq, osq⟩, hw''⟩ := hw'
              subst hw''
              go_wp2_with fail
              go_ret
              exact ⟨rfl, below_then HB15.out (below_regrown w5 dq osq)⟩
            | false =>
              rw [hx1] at C5
              refine wp_region_quiet_below (by kernel_rfl) (by kernel_rfl) ?_
              repeat ((with_reducible refine wpQuiet_step (fun K hK => ?_)); go_simp; first | (with_reducible refine hK _ ?_; clear hK K) | (rw [if_neg (by decide)]; with_reducible refine hK _ ?_; clear hK K) | (apply Exists.intro; refine ⟨fun _ => ?_, hK _ ?_⟩; (first | with_reducible exact regrown_bool (C0.out _ _) | with_reducible exact regrown_bool (C1.out _ _) | with_reducible exact regrown_bool (C2.out _ _) | with_reducible exact regrown_bool (C3.out _ _) | with_reducible exact regrown_bool (C4.out _ _) | with_reducible exact regrown_bool (C5.out _ _) | with_reducible exact regrown_bool (C6.out _ _)); clear hK K))
              with_reducible refine wpQuiet_nil ?_
              intro _ hw'
              obtain ⟨⟨dq, osq⟩, hw''⟩ := hw'
              subst hw''
              go_wp2_with fail
              go_ret
              exact ⟨rfl, below_then HB15.out (below_regrown w5 dq osq)⟩
          | false =>
            rw [hy3, Bool.false_and] at C5
            refine wp_region_quiet_below (by kernel_rfl) (by kernel_rfl) ?_
            repeat ((with_reducible refine wpQuiet_step (fun K hK => ?_)); go_simp; first | (with_reducible refine hK _ ?_; clear hK K) | (rw [if_neg (by decide)]; with_reducible refine hK _ ?_; clear hK K) | (apply Exists.intro; refine ⟨fun _ => ?_, hK _ ?_⟩; (first | with_reducible exact regrown_bool (C0.out _ _) | with_reducible exact regrown_bool (C1.out _ _) | with_reducible exact regrown_bool (C2.out _ _) | with_reducible exact regrown_bool (C3.out _ _) | with_reducible exact regrown_bool (C4.out _ _) | with_reducible exact regrown_bool (C5.out _ _) | with_reducible exact regrown_bool (C6.out _ _)); clear hK K))
            with_reducible refine wpQuiet_nil ?_
            intro _ hw'
            obtain ⟨⟨dq, osq⟩, hw''⟩ := hw'
            subst hw''
            go_wp2_with fail
            go_ret
            exact ⟨rfl, below_then HB15.out (below_regrown w5 dq osq)⟩
end Go.Proofs.Ytladpckbajnbeaa
