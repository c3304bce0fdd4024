/- ref1.Cat; ref6.PutRequest. -/
import Derived.Test.YtcdapcljpkohbaaOperB
import Derived.Test.YtcdapcljpkohbaaOpen
set_option linter.unusedVariables false
set_option linter.unusedSimpArgs false
namespace Go.Proofs.Ytcdapcljpkohbaa
open Go.RowKit

theorem flat_take {α : Type} {ls : List (List α)} {k : Nat} {x : List α} (h : ls[k]? = some x) : (ls.take (k + 1)).flatten = (ls.take k).flatten ++ x := by
  rw [take_snoc' h, List.flatten_append]
  simp
theorem flat_take_le {α : Type} (ls : List (List α)) (k : Nat) : ((ls.take k).flatten).length ≤ ls.flatten.length := by
  conv => rhs; rw [← List.take_append_drop k ls, List.flatten_append, List.length_append]
  omega
set_option maxHeartbeats 2000000 in
theorem Cat_any (w : World) (c : Col) (A : Option Addr) (n cp : Nat) (ls : List (List UInt8)) (hl : ls.flatten.length ≤ 1000000000000) (hx : Rd (kSl kU8) w c A n cp ls) :
    Calls Try.prog 32 #[.slice A n cp] w (OwnPost w ls.flatten) := by
  have hln := hx.1
  have hmx := hx.max
  have HX := Lib.hid hx
  have HL := Lib.hid hln
  have HLL := Lib.hid hl
  clear hx hln hl
  go_enter Try.func32, Try.ntmps32
  go_wp2_with fail
  go_loopw [3, 4] (fun o i wr => ∃ (k m : Nat) (A1 : Option Addr) (cp1 : Nat), i = .int .i64 (k : Int) ∧ o = .slice A1 m cp1 ∧ k ≤ n ∧ Hid (((ls.take k).flatten).length = m) ∧ Hid (wr.ownsRow w.heap.size 5 1 (.slice A1 m cp1) m (bcells (ls.take k).flatten)) ∧ Hid (Below w.heap.size w wr)) (fun _ i _ => n - (intOf i).toNat)
  case atStart => exact ⟨0, 0, none, 0, rfl, rfl, by omega, by show _ = _; simp, by show World.ownsRow _ _ _ _ _ _ _; simp; exact own_none w w _, Below.refl _ _⟩
  case round =>
    obtain ⟨k, m, A1, cp1, rfl, rfl, hk, HM, ho, hbl⟩ := hrel
    by_cases hlt : k < n
    · obtain ⟨bb, off, rfl⟩ := HX.out.addr (by omega)
      have hel := getD_at' ls [] (k := k) (by have := HL.out; omega)
      generalize ls[k]?.getD [] = x at hel
      obtain ⟨A2, m2, cq2, h0, HR⟩ := (HX.out.below hbl.out).row hel
      have HFT := Lib.hid (flat_take hel)
      have HTL : Hid (m + m2 ≤ 1000000000000) := by
        show _ ≤ _
        have h1 := flat_take_le ls (k + 1)
        rw [HFT.out, List.length_append, HM.out, HR.1] at h1
        have := HLL.out
        omega
      have hbs := hbl.out.size
      have HRR := Lib.hid HR
      have HEL := Lib.hid hel
      clear HR hel
      go_wp2_with (at_builtin; go_must (refine app_bytes (c := c) (.tmp 11) (.tmp 15) 25 5 rfl rfl Try.underlying25 u8_info (ls.take k).flatten x rfl rfl hbs ho.out HRR.out (by have := HTL.out; omega) ?_; intro A3 cp3 w3 q_ho3 q_hg3 _; have HO3 := Lib.hid q_ho3; have HB3 := Lib.hid (hbl.out.grown q_hg3 hbs (fun j hj => (ho.out.lt j hj).1)); clear q_ho3 q_hg3))
      exact ⟨⟨k + 1, m + m2, A3, cp3, by go_num, rfl, by omega, by show _ = _; rw [HFT.out, List.length_append, HM.out, HRR.out.1], by show World.ownsRow _ _ _ _ _ _ _; rw [HFT.out]; exact HO3.out, HB3.out⟩, by simp [intOf]; omega⟩
    · obtain rfl : k = n := by omega
      have HE : Hid ((ls.take k).flatten = ls.flatten) := by show _ = _; rw [List.take_of_length_le (by have := HL.out; omega)]
      go_wp2_with fail
      go_ret
      exact ⟨A1, m, cp1, rfl, by rw [← HE.out]; exact ho.out, hbl.out⟩
theorem r6Put_nil (w : World) (A : Option Addr) (cp : Nat) : Calls Try.prog 35 #[.slice A 0 cp] w (OwnPost w []) := by
  go_enter Try.func35, Try.ntmps35
  go_wp2_with fail
  refine bodyPost_ret (results_tmp rfl _ _ _) rfl ?_
  exact ⟨none, 0, 0, rfl, own_none w w _, Below.refl _ _⟩
theorem r6PutF_any (w : World) (c : Col) (A : Option Addr) (n cp : Nat) (l : List Fld) (hm : mayTB l = true ∨ l = []) (hw : Wf c w) (hx : Rd kFld w c A n cp l) :
    Calls Try.prog 35 #[.slice A n cp] w (OwnPost w (fB l)) := by
  unfold fB
  rcases hm with hm | rfl
  · rw [if_pos hm]
    exact r6Put_any w c A n cp l hm hw hx
  · have h0 : n = 0 := by have := hx.1; simpa using this.symm
    subst h0
    exact r6Put_nil w A cp
theorem may_tmpl {t : List Fld} (h : mayB t = true) : mayTB t = true := (OpenL.refl t).mayT h
theorem mayR_p {x : Req} (h : mayR x = true) : mayTB x.p = true ∨ x.p = [] := by
  unfold mayR at h
  simp only [Bool.and_eq_true] at h
  have h1 := h.2.2
  unfold pPart at h1
  split at h1
  · exact .inl h1
  · exact .inr (by simpa using h1)
theorem mayR_t {x : Req} (h : mayR x = true) : mayTB x.t = true ∨ x.t = [] := by
  unfold mayR at h
  simp only [Bool.and_eq_true] at h
  have h1 := h.2.1
  unfold tPart at h1
  split at h1
  · simp only [Bool.and_eq_true] at h1
    exact .inl (may_tmpl h1.1)
  · simp only [Bool.and_eq_true] at h1
    exact .inr (by simpa using h1.1)
theorem box6_keep {w w' : World} {b : Nat} {v0 v1 v2 v3 v4 v5 : Value} (hb : Below w.heap.size w w')
    (h : w.cell? ⟨b, 0, none⟩ = some v0 ∧ w.cell? ⟨b, 1, none⟩ = some v1 ∧ w.cell? ⟨b, 2, none⟩ = some v2 ∧ w.cell? ⟨b, 3, none⟩ = some v3 ∧ w.cell? ⟨b, 4, none⟩ = some v4 ∧ w.cell? ⟨b, 5, none⟩ = some v5) :
    w'.cell? ⟨b, 0, none⟩ = some v0 ∧ w'.cell? ⟨b, 1, none⟩ = some v1 ∧ w'.cell? ⟨b, 2, none⟩ = some v2 ∧ w'.cell? ⟨b, 3, none⟩ = some v3 ∧ w'.cell? ⟨b, 4, none⟩ = some v4 ∧ w'.cell? ⟨b, 5, none⟩ = some v5 := by
  have hlt := World.block_lt_of_cell? w _ h.1
  have g : ∀ i, w'.cell? ⟨b, i, none⟩ = w.cell? ⟨b, i, none⟩ := fun i => hb.cell (p := ⟨b, i, none⟩) hlt
  simp only [g]
  exact h
/-- A literal of slices reads. -/
theorem Rd.lits {α : Type} {K : Kd α} {w : World} {c : Col} (hc : Wf c w) (t : TypeId) (cells : Array Value) (xs : List (List α)) (hm : xs.length ≤ 1000000)
    (h : ∀ (j : Nat) (x : List α), xs[j]? = some x → ∃ (A : Option Addr) (n cp : Nat), cells[j]? = some (Value.slice A n cp) ∧ Rd K w c A n cp x) : Rd (kSl K) (w.alloc (.cells cells t)) c (some ⟨w.heap.size, 0, none⟩) xs.length xs.length xs := by
  refine ⟨rfl, Nat.le_refl _, by simp only [maxLen]; omega, fun hp => ⟨_, 0, rfl, by simp, hc.fresh (Nat.le_refl _), fun j x hj => ?_⟩⟩
  obtain ⟨A, n, cp, hcell, hr⟩ := h j x hj
  refine ⟨_, ⟨A, n, cp, rfl, hr.below (below_alloc _ _)⟩, fun i u hi => ?_⟩
  have hi0 : i = 0 := by
    have := (List.getElem?_eq_some_iff.1 hi).1
    simp at this
    exact this
  subst hi0
  have : 0 + (j * (kSl K).sz + 0) = j := by simp [kSl]
  rw [this, cell_of_row _ _ _ cells t (0, 0) (heap_alloc_new w _), hcell]
  exact hi
theorem Rd.six {α : Type} {K : Kd α} {w : World} {c : Col} (hc : Wf c w) (t : TypeId) {A1 A2 A3 A4 A5 A6 : Option Addr} {n1 n2 n3 n4 n5 n6 p1 p2 p3 p4 p5 p6 : Nat} {x1 x2 x3 x4 x5 x6 : List α} (h1 : Rd K w c A1 n1 p1 x1) (h2 : Rd K w c A2 n2 p2 x2) (h3 : Rd K w c A3 n3 p3 x3) (h4 : Rd K w c A4 n4 p4 x4) (h5 : Rd K w c A5 n5 p5 x5) (h6 : Rd K w c A6 n6 p6 x6) :
    Rd (kSl K) (w.alloc (.cells #[.slice A1 n1 p1, .slice A2 n2 p2, .slice A3 n3 p3, .slice A4 n4 p4, .slice A5 n5 p5, .slice A6 n6 p6] t)) c (some ⟨w.heap.size, 0, none⟩) 6 6 [x1, x2, x3, x4, x5, x6] := by
  refine Rd.lits hc t _ [x1, x2, x3, x4, x5, x6] (by simp) fun j x hj => ?_
  match j, hj with
  | 0, hj => simp at hj; subst hj; exact ⟨_, _, _, rfl, h1⟩
  | 1, hj => simp at hj; subst hj; exact ⟨_, _, _, rfl, h2⟩
  | 2, hj => simp at hj; subst hj; exact ⟨_, _, _, rfl, h3⟩
  | 3, hj => simp at hj; subst hj; exact ⟨_, _, _, rfl, h4⟩
  | 4, hj => simp at hj; subst hj; exact ⟨_, _, _, rfl, h5⟩
  | 5, hj => simp at hj; subst hj; exact ⟨_, _, _, rfl, h6⟩
  | j + 6, hj => simp at hj
theorem u64_id {x : Int} (h0 : 0 ≤ x) (h1 : x ≤ 9223372036854775807) : IntKind.u64.wrap x = x := by
  rw [u64_mod]
  exact Int.emod_eq_of_lt h0 (by omega)
set_option maxRecDepth 100000 in
set_option maxHeartbeats 4000000 in
theorem r6PutR_any (w : World) (c : Col) (x : Req) (A : Option Addr) (n cp : Nat) (B : Option Addr) (m cq : Nat) (hm : mayR x = true) (hw : Wf c w) (hx : Rd kFld w c A n cp x.p) (hy : Rd kFld w c B m cq x.t) :
    Calls Try.prog 13 #[rV x A n cp B m cq] w (OwnPost w (reqB x)) := by
  have HP := Lib.hid (mayR_p hm)
  have HT := Lib.hid (mayR_t hm)
  obtain ⟨n1, n2, n3, n4, n5, n6⟩ := mayR_nums hm
  obtain ⟨n7, n8⟩ := mayR_lease hm
  have HX := Lib.hid hx
  have HY := Lib.hid hy
  have HM := Lib.hid hm
  have HW := Lib.hid hw
  clear hx hy hm hw
  obtain ⟨cl, sq, kd, p, t, ls⟩ := x
  dsimp only at n1 n2 n3 n4 n5 n6 n7 n8 HP HT HX HY
  go_enter Try.func13, Try.ntmps13
  have hu1 := u64_id n1 (by omega)
  have hu2 := u64_id (x := sq) (by omega) (by omega)
  have hu3 := u64_id (x := kd) (by omega) (by omega)
  have hu4 := u64_id n7 (by omega)
  have HFL : Hid ([numB cl.toNat (1 : Int).toNat, numB sq.toNat (4 : Int).toNat, numB kd.toNat (1 : Int).toNat, numB ls.toNat (8 : Int).toNat, textB (fB p), textB (fB t)].flatten = reqB ⟨cl, sq, kd, p, t, ls⟩) := by
    show _ = _
    unfold reqB
    simp
  have HLEN : Hid ([numB cl.toNat (1 : Int).toNat, numB sq.toNat (4 : Int).toNat, numB kd.toNat (1 : Int).toNat, numB ls.toNat (8 : Int).toNat, textB (fB p), textB (fB t)].flatten.length ≤ 1000000000000) := by
    show _ ≤ _
    rw [HFL.out]
    have := reqB_len ⟨cl, sq, kd, p, t, ls⟩
    omega
  have tk1 : True := trivial
  have tk2 : True := trivial
  have tk3 : True := trivial
  have tk4 : True := trivial
  have tk5 : True := trivial
  have tk6 : True := trivial
  have tk7 : True := trivial
  have tk8 : True := trivial
  go_wp2_with fail
  go_region_held3 (fun w' => w'.cell? ⟨w.heap.size, 0, none⟩ = some (.int .i64 cl) ∧ w'.cell? ⟨w.heap.size, 1, none⟩ = some (.int .i64 sq) ∧ w'.cell? ⟨w.heap.size, 2, none⟩ = some (.int .i64 kd) ∧ w'.cell? ⟨w.heap.size, 3, none⟩ = some (.slice A n cp) ∧ w'.cell? ⟨w.heap.size, 4, none⟩ = some (.slice B m cq) ∧ w'.cell? ⟨w.heap.size, 5, none⟩ = some (.int .i64 ls)) (first | exact box6_keep hb9 (by assumption) | exact box6_keep hb8 (by assumption) | exact box6_keep hb7 (by assumption) | exact box6_keep hb6 (by assumption) | exact box6_keep hb5 (by assumption) | exact box6_keep hb4 (by assumption) | exact box6_keep hb3 (by assumption) | exact box6_keep hb2 (by assumption) | exact box6_keep hb1 (by assumption) | exact box6_keep (below_alloc _ _) (by assumption) | (simp; done))
    (first
    | (go_at_call 33; have _t := tk1; clear tk1; refine (R1Num_good _ cl 1 (by omega) (by omega) (by omega)).mono ?_; rintro e w1 ⟨A1, m1, cp1, rfl, ho1, hb1⟩; have HO1 := Lib.hid ho1; have HC1 := Lib.hid (below_then (below_alloc_drew w _) hb1))
    | (go_at_call 33; have _t := tk2; clear tk2; refine (R1Num_good _ sq 4 (by omega) (by omega) (by omega)).mono ?_; rintro e w2 ⟨A2, m2, cp2, rfl, ho2, hb2⟩; have HO2 := Lib.hid ho2; have HC2 := Lib.hid (below_then HC1.out hb2))
    | (go_at_call 33; have _t := tk3; clear tk3; refine (R1Num_good _ kd 1 (by omega) (by omega) (by omega)).mono ?_; rintro e w3 ⟨A3, m3, cp3, rfl, ho3, hb3⟩; have HO3 := Lib.hid ho3; have HC3 := Lib.hid (below_then HC2.out hb3))
    | (go_at_call 33; have _t := tk4; clear tk4; refine (R1Num_good _ ls 8 (by omega) (by omega) (by omega)).mono ?_; rintro e w4 ⟨A4, m4, cp4, rfl, ho4, hb4⟩; have HO4 := Lib.hid ho4; have HC4 := Lib.hid (below_then HC3.out hb4))
    | (go_at_call 35; have _t := tk5; clear tk5; refine (r6PutF_any w4 c A n cp p HP.out (HW.out.below HC4.out) (HX.out.below HC4.out)).mono ?_; rintro e w5 ⟨A5, m5, cp5, rfl, ho5, hb5⟩; have HO5 := Lib.hid ho5; have HC5 := Lib.hid (below_then HC4.out hb5))
    | (go_at_call 34; have _t := tk6; clear tk6; refine (R1Text_any w5 c A5 m5 cp5 (fB p) (by have := own_len HO5.out; have := fB_len p; omega) (HW.out.below HC5.out) (own_rd HO5.out (HW.out.below HC4.out))).mono ?_; rintro e w6 ⟨A6, m6, cp6, rfl, ho6, hb6⟩; have HO6 := Lib.hid ho6; have HC6 := Lib.hid (below_then HC5.out hb6))
    | (go_at_call 35; have _t := tk7; clear tk7; refine (r6PutF_any w6 c B m cq t HT.out (HW.out.below HC6.out) (HY.out.below HC6.out)).mono ?_; rintro e w7 ⟨A7, m7, cp7, rfl, ho7, hb7⟩; have HO7 := Lib.hid ho7; have HC7 := Lib.hid (below_then HC6.out hb7))
    | (go_at_call 34; have _t := tk8; clear tk8; refine (R1Text_any w7 c A7 m7 cp7 (fB t) (by have := own_len HO7.out; have := fB_len t; omega) (HW.out.below HC7.out) (own_rd HO7.out (HW.out.below HC6.out))).mono ?_; rintro e w8 ⟨A8, m8, cp8, rfl, ho8, hb8⟩; have HO8 := Lib.hid ho8; have HC8 := Lib.hid (below_then HC7.out hb8))
    | (go_at_call 32; have d7 := hb8; have d6 := below_then hb7 d7; have d5 := below_then hb6 d6; have d4 := below_then hb5 d5; have d3 := below_then hb4 d4; have d2 := below_then hb3 d3; have d1 := below_then hb2 d2; have hsix := Lib.hid (Rd.six (HW.out.below HC8.out) 25 ((own_rd HO1.out (HW.out.below (below_alloc_drew w _))).below d1) ((own_rd HO2.out (HW.out.below HC1.out)).below d2) ((own_rd HO3.out (HW.out.below HC2.out)).below d3) ((own_rd HO4.out (HW.out.below HC3.out)).below d4) ((own_rd HO6.out (HW.out.below HC5.out)).below d6) (own_rd HO8.out (HW.out.below HC7.out))); clear d1 d2 d3 d4 d5 d6 d7; refine (Cat_any _ c _ 6 6 _ HLEN.out hsix.out).mono ?_; rintro e w9 ⟨A9, m9, cp9, rfl, ho9, hb9⟩; have HO9 := Lib.hid ho9))
  have HBA := Lib.hid (below_then HC8.out (below_then (below_alloc _ _) hb9))
  have hlt8 := HC8.out.size
  go_wp2_with fail
  go_ret
  have ho := HO9.out
  rw [HFL.out] at ho
  exact ⟨A9, m9, cp9, rfl, own_weak ho (by simp; omega), HBA.out⟩
end Go.Proofs.Ytcdapcljpkohbaa
