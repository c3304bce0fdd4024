/- client: the document's answer on replies. -/
import Derived.Test.YtladpckbajnbeaaCliF
set_option linter.unusedVariables false
set_option linter.unusedSimpArgs false
namespace Go.Proofs.Ytladpckbajnbeaa
open Go.RowKit

set_option maxHeartbeats 1000000 in
theorem r18May_any (w : World) (c : Col) (x : Rep) (A : Option Addr) (n cp : Nat) (hx : Rd kFld w c A n cp x.t) :
    Calls Try.prog 35 #[pV x A n cp] w (BoolPost w (mayP x)) := by
  have hln := hx.1
  have hmn := hx.max
  have HX := Lib.hid hx
  have HLN := Lib.hid hln
  clear hx hln
  obtain ⟨cl, sq, kd, t, lt⟩ := x
  dsimp only [pV] at *
  generalize hr : mayP ⟨cl, sq, kd, t, lt⟩ = r
  unfold mayP at hr
  by_cases hN : numsP ⟨cl, sq, kd, t, lt⟩ = true ∧ 1 ≤ kd ∧ kd ≤ 7
  · obtain ⟨hN, n5, n6⟩ := hN
    rw [hN, Bool.true_and] at hr
    obtain ⟨n1, n2, n3, n4⟩ := numsP_iff.1 hN
    dsimp only at n1 n2 n3 n4 hr
    clear hN
    by_cases h2 : kd = 2
    · subst h2
      rw [if_pos rfl] at hr
      have HR := Lib.hid hr
      clear hr
      go_enter Try.func35, Try.ntmps35
      go_wp2_with fail
      refine (bool_eq HR.out (r6MayT_any _ c A n cp t (HX.out.below (below_alloc _ _)))).mono ?_
      rintro e w1 ⟨rfl, q_HB1⟩
      have HB1 := Lib.hid q_HB1
      clear q_HB1
      go_wp2_with fail
      refine bodyPost_ret (results_tmp rfl _ _ _) rfl ?_
      exact ⟨rfl, below_then (below_alloc _ _) HB1.out⟩
    · rw [if_neg h2] at hr
      have hb2 : (kd == 2) = false := by simpa using h2
      have HR := Lib.hid hr
      clear hr h2
      go_enter Try.func35, Try.ntmps35
      go_wp2_with fail
      all_goals
        refine bodyPost_ret (results_tmp rfl _ _ _) rfl ?_
        refine ⟨ret_bool ?_, below_alloc _ _⟩
        rw [← HR.out, emp_len HLN.out, Bool.eq_iff_iff]
        simp
        try omega
        try (cases lt <;> simp <;> omega)
  · have HR : Hid (r = false) := by
      show _ = _
      rw [← hr]
      cases hb : numsP ⟨cl, sq, kd, t, lt⟩ with
      | false => rfl
      | true =>
        have h3 : ¬ (1 ≤ kd ∧ kd ≤ 7) := fun h => hN ⟨hb, h⟩
        rw [Bool.true_and]
        dsimp only
        rw [if_neg (by omega)]
        cases h4 : decide (1 ≤ kd) with
        | false => rfl
        | true =>
          have : decide (kd ≤ 7) = false := by simp at h4 ⊢; omega
          rw [this]; rfl
    have HN : Hid (¬ ((0 ≤ cl ∧ cl < 4 ∧ 1 ≤ sq ∧ sq ≤ 1073741824) ∧ 1 ≤ kd ∧ kd ≤ 7)) := by
      intro h
      exact hN ⟨numsP_iff.2 h.1, h.2⟩
    clear hr hN
    go_enter Try.func35, Try.ntmps35
    go_wp2_with fail
    all_goals
      first
        | (refine bodyPost_ret (results_tmp rfl _ _ _) rfl ?_; exact ⟨ret_bool HR.out.symm, below_alloc _ _⟩)
        | (exfalso; have := HN.out; omega)
def sameP (x y : Rep) : Bool := x.client == y.client && (x.seq == y.seq && (x.kind == y.kind && (x.late == y.late && sameL x.t y.t)))
theorem sameP_iff {x y : Rep} : sameP x y = true ↔ x = y := by
  unfold sameP
  simp only [Bool.and_eq_true, beq_iff_eq, sameL_iff]
  constructor
  · rintro ⟨h1, h2, h3, h4, h5⟩
    exact Rep.ext' h1 h2 h3 h5 h4
  · rintro rfl
    exact ⟨rfl, rfl, rfl, rfl, rfl⟩
set_option maxHeartbeats 2000000 in
theorem r6SameP_any (w : World) (c : Col) (x y : Rep) (A : Option Addr) (n cp : Nat) (B : Option Addr) (m cq : Nat) (hx : Rd kFld w c A n cp x.t) (hy : Rd kFld w c B m cq y.t) :
    Calls Try.prog 36 #[pV x A n cp, pV y B m cq] w (BoolPost w (sameP x y)) := by
  have HX := Lib.hid hx
  have HY := Lib.hid hy
  clear hx hy
  obtain ⟨cl, sq, kd, t, lt⟩ := x
  obtain ⟨cl2, sq2, kd2, t2, lt2⟩ := y
  have hb2 : Hid (∀ o1 o2, Below w.heap.size w ((w.alloc o1).alloc o2)) := fun o1 o2 => below_then (below_alloc w o1) (below_alloc _ o2)
  by_cases hN : cl = cl2 ∧ sq = sq2 ∧ kd = kd2 ∧ lt = lt2
  · obtain ⟨rfl, rfl, rfl, rfl⟩ := hN
    have HR : Hid (sameP ⟨cl, sq, kd, t, lt⟩ ⟨cl, sq, kd, t2, lt⟩ = sameL t t2) := by show _ = _; unfold sameP; simp
    generalize sameP ⟨cl, sq, kd, t, lt⟩ ⟨cl, sq, kd, t2, lt⟩ = r at HR
    go_enter Try.func36, Try.ntmps36
    go_wp2_with fail
    refine (bool_eq HR.out.symm (r6Same_any _ c A B n cp m cq t t2 (HX.out.below (hb2.out _ _)) (HY.out.below (hb2.out _ _)))).mono ?_
    rintro e w1 ⟨rfl, q_HB1⟩
    have HB1 := Lib.hid q_HB1
    clear q_HB1
    go_wp2_with fail
    go_ret
    exact ⟨rfl, below_then (hb2.out _ _) HB1.out⟩
  · have HR : Hid (sameP ⟨cl, sq, kd, t, lt⟩ ⟨cl2, sq2, kd2, t2, lt2⟩ = false) := by
      show _ = _
      rw [← Bool.not_eq_true]
      intro e
      have e := sameP_iff.1 e
      cases e
      exact hN ⟨rfl, rfl, rfl, rfl⟩
    generalize sameP ⟨cl, sq, kd, t, lt⟩ ⟨cl2, sq2, kd2, t2, lt2⟩ = r at HR
    have HN := Lib.hid hN
    clear hN
    go_enter Try.func36, Try.ntmps36
    go_wp2_with fail
    all_goals
      first
        | (go_ret; exact ⟨ret_bool HR.out.symm, hb2.out _ _⟩)
        | (exfalso; have := HN.out; simp_all)
set_option maxRecDepth 100000 in
set_option maxHeartbeats 2000000 in
theorem r6SameReplies_any (w : World) (c : Col) (A B : Option Addr) (n cp m cq : Nat) (p t : List Rep) (hx : Rd kRep w c A n cp p) (hy : Rd kRep w c B m cq t) :
    Calls Try.prog 33 #[.slice A n cp, .slice B m cq] w (BoolPost w (all2 sameP p t)) := by
  have hln := hx.1
  have hmx := hx.max
  have hln2 := hy.1
  have hmx2 := hy.max
  have HX := Lib.hid hx
  have HL := Lib.hid hln
  have HY := Lib.hid hy
  have HL2 := Lib.hid hln2
  clear hx hln hy hln2
  generalize hr : all2 sameP p t = r
  by_cases hnm : n = m
  case neg =>
    have HP : Hid (r = false) := by
      show _ = _
      rw [← hr]
      exact all2_len_ne (by rw [HL.out, HL2.out]; exact hnm)
    have hne : ((n : Int) == (m : Int)) = false := by simp; omega
    have hne2 : ((n : Int) != (m : Int)) = true := by simp; omega
    clear hr
    go_enter Try.func33, Try.ntmps33
    go_wp2_with fail
    refine bodyPost_ret (results_tmp rfl _ _ _) rfl ?_
    rw [HP.out]
    exact ⟨rfl, Below.refl _ _⟩
  subst hnm
  have HR := Lib.hid hr
  clear hr
  go_enter Try.func33, Try.ntmps33
  go_wp2_with fail
  go_loopw [5] (fun i wr => ∃ k : Nat, i = .int .i64 (k : Int) ∧ k ≤ n ∧ Hid (∀ (j : Nat) (x y : Rep), j < k → p[j]? = some x → t[j]? = some y → sameP x y = true) ∧ Hid (Below w.heap.size w wr)) (fun i _ => n - (intOf i).toNat)
  case atStart => exact ⟨0, rfl, by omega, fun j _ _ h => absurd h (by omega), Below.refl _ _⟩
  case round =>
    obtain ⟨k, rfl, hk, hall, hbl⟩ := hrel
    by_cases hlt : k < n
    · obtain ⟨bb, off, rfl⟩ := HX.out.addr (by omega)
      obtain ⟨b2, off2, rfl⟩ := HY.out.addr (by omega)
      obtain ⟨x, hxk⟩ : ∃ x, p[k]? = some x := ⟨_, List.getElem?_eq_getElem (by rw [HL.out]; exact hlt)⟩
      obtain ⟨y, hyk⟩ : ∃ y, t[k]? = some y := ⟨_, List.getElem?_eq_getElem (by rw [HL2.out]; exact hlt)⟩
      obtain ⟨A3, n3, cp3, hR3, e0, e1, e2, e3, e4⟩ := (HX.out.below hbl.out).rep hxk
      obtain ⟨A4, n4, cp4, hR4, f0, f1, f2, f3, f4⟩ := (HY.out.below hbl.out).rep hyk
      have C0 := Lib.hid (fun d os => r6SameP_any (Sort.grow (redrawn wr d) os) c x y A3 n3 cp3 A4 n4 cp4 (hR3.below (below_regrown wr d os)) (hR4.below (below_regrown wr d os)))
      obtain ⟨cl, sq, kd, tt, lt⟩ := x
      obtain ⟨cl2, sq2, kd2, t2, lt2⟩ := y
      dsimp only at *
      have i0 := cell_regrown e0
      have i1 := cell_regrown e1
      have i2 := cell_regrown e2
      have i3 := cell_regrown e3
      have i4 := cell_regrown e4
      have j0 := cell_regrown f0
      have j1 := cell_regrown f1
      have j2 := cell_regrown f2
      have j3 := cell_regrown f3
      have j4 := cell_regrown f4
      have hk0 : (0 : Int) ≤ (k : Int) := Int.natCast_nonneg _
      have hk1 : (k : Int) < (n : Int) := by omega
      have HR3 := Lib.hid hR3
      have HR4 := Lib.hid hR4
      have HXK := Lib.hid hxk
      have HYK := Lib.hid hyk
      clear hR3 hR4 hxk hyk
      clear e0 e1 e2 e3 e4 f0 f1 f2 f3 f4
      cases hs : sameP ⟨cl, sq, kd, tt, lt⟩ ⟨cl2, sq2, kd2, t2, lt2⟩ with
      | true =>
        rw [hs] at C0
        have HS := Lib.hid hs
        clear hs
        go_wp2_with fail
        refine wp_region_quiet_below (by kernel_rfl) (by kernel_rfl) ?_
        repeat ((with_reducible refine wpQuiet_step (fun K hK => ?_)); go_simp; first | (with_reducible refine hK _ ?_; clear hK K) | (rw [if_neg (by decide)]; with_reducible refine hK _ ?_; clear hK K) | (apply Exists.intro; refine ⟨fun _ => ?_, hK _ ?_⟩; (first | with_reducible exact regrown_bool (C0.out _ _)); clear hK K))
        with_reducible refine wpQuiet_nil ?_
        intro _ hw'
        obtain ⟨⟨dq, osq⟩, hw''⟩ := hw'
        subst hw''
        go_wp2_with fail
        refine ⟨⟨k + 1, by simp, by omega, fun j x y hj hx hy => ?_, below_then hbl.out (below_regrown wr dq osq)⟩, by simp [intOf]; omega⟩
        by_cases hjk : j < k
        · exact hall.out j x y hjk hx hy
        · have : j = k := by omega
          subst this
          rw [HXK.out] at hx
          rw [HYK.out] at hy
          cases hx; cases hy
          exact HS.out
      | false =>
        rw [hs] at C0
        have HRF : Hid (r = false) := by show _ = _; rw [← HR.out]; exact all2_false HXK.out HYK.out hs
        clear hs
        go_wp2_with fail
        refine wp_region_quiet_below (by kernel_rfl) (by kernel_rfl) ?_
        repeat ((with_reducible refine wpQuiet_step (fun K hK => ?_)); go_simp; first | (with_reducible refine hK _ ?_; clear hK K) | (rw [if_neg (by decide)]; with_reducible refine hK _ ?_; clear hK K) | (apply Exists.intro; refine ⟨fun _ => ?_, hK _ ?_⟩; (first | with_reducible exact regrown_bool (C0.out _ _)); clear hK K))
        with_reducible refine wpQuiet_nil ?_
        intro _ hw'
        obtain ⟨⟨dq, osq⟩, hw''⟩ := hw'
        subst hw''
        go_wp2_with fail
        refine bodyPost_ret (results_tmp rfl _ _ _) rfl ?_
        rw [HRF.out]
        exact ⟨rfl, below_then hbl.out (below_regrown wr dq osq)⟩
    · have hkn : k = n := by omega
      subst hkn
      have HRT : Hid (r = true) := by
        show _ = _
        rw [← HR.out, all2_iff]
        exact ⟨by rw [HL.out, HL2.out], fun j x y hx hy => hall.out j x y (by have := (List.getElem?_eq_some_iff.1 hx).1; rw [HL.out] at this; exact this) hx hy⟩
      have hge : ¬ ((k : Int) < (k : Int)) := by omega
      go_wp2_with fail
      refine bodyPost_ret (results_tmp rfl _ _ _) rfl ?_
      rw [HRT.out]
      exact ⟨rfl, hbl.out⟩
def fewS (l : List Rep) : Bool := decide (l.length ≤ 10) && l.all fun x => fewB x.t
abbrev sdV (v : Int) (A : Option Addr) (n cp : Nat) : Value := .agg #[.int .i64 v, .slice A n cp]
set_option maxRecDepth 100000 in
set_option maxHeartbeats 2000000 in
theorem l19few_any (w : World) (c : Col) (v : Int) (A : Option Addr) (n cp : Nat) (l : List Rep) (hx : Rd kRep w c A n cp l) :
    Calls Try.prog 32 #[sdV v A n cp] w (BoolPost w (fewS l)) := by
  have hln := hx.1
  have hmx := hx.max
  have HX := Lib.hid hx
  have HL := Lib.hid hln
  clear hx hln
  generalize hr : fewS l = r
  unfold fewS at hr
  rw [HL.out] at hr
  have HR := Lib.hid hr
  clear hr
  by_cases h10 : n ≤ 10
  case neg =>
    have HP : Hid (r = false) := by
      show _ = _
      rw [← HR.out]
      simp [h10]
    have hgt : (10 : Int) < (n : Int) := by omega
    clear h10
    go_enter Try.func32, Try.ntmps32
    go_wp2_with fail
    refine bodyPost_ret (results_tmp rfl _ _ _) rfl ?_
    rw [HP.out]
    exact ⟨rfl, below_alloc _ _⟩
  have hgt : ¬ ((10 : Int) < (n : Int)) := by omega
  go_enter Try.func32, Try.ntmps32
  go_wp2_with fail
  go_loopw [3] (fun i wr => ∃ k : Nat, i = .int .i64 (k : Int) ∧ k ≤ n ∧ Hid (∀ (j : Nat) (x : Rep), j < k → l[j]? = some x → fewB x.t = true) ∧ Hid (Below (w.alloc (.cells #[.int .i64 v, .slice A n cp] 66)).heap.size (w.alloc (.cells #[.int .i64 v, .slice A n cp] 66)) wr)) (fun i _ => n - (intOf i).toNat)
  case atStart => exact ⟨0, rfl, by omega, fun j _ h => absurd h (by omega), Below.refl _ _⟩
  case round =>
    obtain ⟨k, rfl, hk, hall, hbl⟩ := hrel
    have x1 := below_newcell hbl.out 1 _ rfl
    have HBW := Lib.hid (below_then (below_alloc w _) hbl.out)
    by_cases hlt : k < n
    · obtain ⟨bb, off, rfl⟩ := HX.out.addr (by omega)
      obtain ⟨x, hxk⟩ : ∃ x, l[k]? = some x := ⟨_, List.getElem?_eq_getElem (by rw [HL.out]; exact hlt)⟩
      obtain ⟨A3, n3, cp3, hR3, e0, e1, e2, e3, e4⟩ := (HX.out.below HBW.out).rep hxk
      have HFW := Lib.hid (l7Few_any wr c ⟨0, 0, 0, [], x.t, 0⟩ none 0 0 A3 n3 cp3 (Rd.nil _ _ _) hR3)
      have hfx : fewR ⟨0, 0, 0, [], x.t, 0⟩ = fewB x.t := by simp [fewR, fewB]
      rw [hfx] at HFW
      have hk0 : (0 : Int) ≤ (k : Int) := Int.natCast_nonneg _
      have hk1 : (k : Int) < (n : Int) := by omega
      have HR3 := Lib.hid hR3
      have HXK := Lib.hid hxk
      clear hR3 hxk
      clear e0 e1 e2 e4 hfx
      cases hs : fewB x.t with
      | true =>
        rw [hs] at HFW
        have HS := Lib.hid hs
        clear hs
        go_wp2_with fail
        refine (HFW.out).mono ?_
        rintro e w2 ⟨rfl, q_HB2⟩
        have HB2 := Lib.hid q_HB2
        clear q_HB2
        go_wp2_with fail
        refine ⟨⟨k + 1, by simp, by omega, fun j x hj hx => ?_, below_then hbl.out HB2.out⟩, by simp [intOf]; omega⟩
        by_cases hjk : j < k
        · exact hall.out j x hjk hx
        · have : j = k := by omega
          subst this
          rw [HXK.out] at hx
          cases hx
          exact HS.out
      | false =>
        rw [hs] at HFW
        have HRF : Hid (r = false) := by
          show _ = _
          rw [← HR.out]
          have : (l.all fun x => fewB x.t) = false := by
            rw [← Bool.not_eq_true, List.all_eq_true]
            intro h
            have := h x (List.mem_of_getElem? HXK.out)
            rw [hs] at this
            cases this
          rw [this, Bool.and_false]
        clear hs
        go_wp2_with fail
        refine (HFW.out).mono ?_
        rintro e w2 ⟨rfl, q_HB2⟩
        have HB2 := Lib.hid q_HB2
        clear q_HB2
        go_wp2_with fail
        refine bodyPost_ret (results_tmp rfl _ _ _) rfl ?_
        rw [HRF.out]
        exact ⟨rfl, below_then HBW.out HB2.out⟩
    · have hkn : k = n := by omega
      subst hkn
      have HRT : Hid (r = true) := by
        show _ = _
        rw [← HR.out]
        have : (l.all fun x => fewB x.t) = true := by
          rw [List.all_eq_true]
          intro x hx
          obtain ⟨j, hj⟩ := List.getElem?_of_mem hx
          exact hall.out j x (by have := (List.getElem?_eq_some_iff.1 hj).1; rw [HL.out] at this; exact this) hj
        rw [this, Bool.and_true]
        exact decide_eq_true h10
      have hge : ¬ ((k : Int) < (k : Int)) := by omega
      go_wp2_with fail
      refine bodyPost_ret (results_tmp rfl _ _ _) rfl ?_
      rw [HRT.out]
      exact ⟨rfl, HBW.out⟩
end Go.Proofs.Ytladpckbajnbeaa
