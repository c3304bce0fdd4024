/- oper.Get. -/
import Derived.Test.YtcdapcljpkohbaaOperP
import Derived.Test.YtcdapcljpkohbaaTupD
set_option linter.unusedVariables false
set_option linter.unusedSimpArgs false
namespace Go.Proofs.Ytcdapcljpkohbaa
open Go.RowKit

set_option maxHeartbeats 2000000 in
theorem EqualB_any (w : World) (c : Col) (A B : Option Addr) (n cp m cq : Nat) (p t : List UInt8) (hx : Rd kU8 w c A n cp p) (hy : Rd kU8 w c B m cq t) :
    Calls Try.prog 41 #[.slice A n cp, .slice B m cq] w (BoolPost w (p == t)) := by
  have hln := hx.1
  have hmx := hx.max
  have hln2 := hy.1
  have hmx2 := hy.max
  have HX := Lib.hid hx
  have HL := Lib.hid hln
  have HY := Lib.hid hy
  have HL2 := Lib.hid hln2
  clear hx hln hy hln2
  generalize hr : (p == t) = r
  by_cases hnm : n = m
  case neg =>
    have HP : Hid (r = false) := by
      show _ = _
      rw [← hr, beq_eq_false_iff_ne]
      intro e
      have := congrArg List.length e
      rw [HL.out, HL2.out] at this
      exact hnm this
    have hne : ((n : Int) == (m : Int)) = false := by simp; omega
    have hne2 : ((n : Int) != (m : Int)) = true := by simp; omega
    clear hr
    go_enter Try.func41, Try.ntmps41
    go_wp2_with fail
    refine bodyPost_ret (results_tmp rfl _ _ _) rfl ?_
    rw [HP.out]
    exact ⟨rfl, Below.refl _ _⟩
  subst hnm
  have HR := Lib.hid hr
  clear hr
  go_enter Try.func41, Try.ntmps41
  go_wp2_with fail
  go_loopw [13] (fun i wr => ∃ k : Nat, i = .int .i64 (k : Int) ∧ k ≤ n ∧ Hid (∀ j, j < k → p[j]? = t[j]?) ∧ Hid (Below w.heap.size w wr)) (fun i _ => n - (intOf i).toNat)
  case atStart => exact ⟨0, rfl, by omega, fun j h => absurd h (by omega), Below.refl _ _⟩
  case round =>
    obtain ⟨k, rfl, hk, hall, hbl⟩ := hrel
    by_cases hlt : k < n
    · obtain ⟨bb, off, rfl⟩ := HX.out.addr (by omega)
      obtain ⟨b2, off2, rfl⟩ := HY.out.addr (by omega)
      have h0 := (HX.out.below hbl.out).byte hlt
      have g0 := (HY.out.below hbl.out).byte hlt
      have hel := getD_at' p 0 (k := k) (by have := HL.out; omega)
      have hel2 := getD_at' t 0 (k := k) (by have := HL2.out; omega)
      generalize p[k]?.getD 0 = x at hel h0
      generalize t[k]?.getD 0 = y at hel2 g0
      have HEL := Lib.hid hel
      have HEL2 := Lib.hid hel2
      clear hel hel2
      have hk0 : (0 : Int) ≤ (k : Int) := Int.natCast_nonneg _
      have hk1 : (k : Int) < (n : Int) := by omega
      by_cases hp : x = y
      · have hb : ((x.toNat : Int) == (y.toNat : Int)) = true := by simp [hp]
        have hb2 : ((x.toNat : Int) != (y.toNat : Int)) = false := by simp [hp]
        have HPE := Lib.hid hp
        clear hp
        go_wp2_with fail
        go_quiet (fail)
        have HB := Lib.hid (Drew.below hbl.out nq)
        go_wp2_with fail
        refine ⟨⟨k + 1, by go_num, by omega, fun j hj => ?_, HB.out⟩, by simp [intOf]; omega⟩
        rcases Nat.lt_or_ge j k with h | h
        · exact hall.out j h
        · obtain rfl : j = k := by omega
          rw [HEL.out, HEL2.out, HPE.out]
      · have hne : x.toNat ≠ y.toNat := fun e => hp (UInt8.toNat_inj.1 e)
        have hb : ((x.toNat : Int) == (y.toNat : Int)) = false := by simp; omega
        have hb2 : ((x.toNat : Int) != (y.toNat : Int)) = true := by simp; omega
        have HP : Hid (r = false) := by
          show _ = _
          rw [← HR.out, beq_eq_false_iff_ne]
          intro e
          have := HEL.out
          rw [e, HEL2.out] at this
          exact hp (Option.some.inj this).symm
        clear hp hne
        go_wp2_with fail
        go_quiet (fail)
        have HB := Lib.hid (Drew.below hbl.out nq)
        go_wp2_with fail
        refine bodyPost_ret (results_tmp rfl _ _ _) rfl ?_
        rw [HP.out]
        exact ⟨rfl, HB.out⟩
    · obtain rfl : k = n := by omega
      have HP : Hid (r = true) := by
        show _ = _
        rw [← HR.out, beq_iff_eq]
        apply List.ext_getElem?
        intro j
        rcases Nat.lt_or_ge j k with h | h
        · exact hall.out j h
        · rw [List.getElem?_eq_none (by rw [HL.out]; exact h), List.getElem?_eq_none (by rw [HL2.out]; exact h)]
      go_wp2_with fail
      go_ret
      rw [HP.out]
      exact ⟨rfl, hbl.out⟩
theorem OPut_yes (w : World) (c : Col) (x : Req) (A : Option Addr) (n cp : Nat) (B : Option Addr) (m cq : Nat) (hm : mayR x = true) (hw : Wf c w) (hx : Rd kFld w c A n cp x.p) (hy : Rd kFld w c B m cq x.t) :
    Calls Try.prog 10 #[rV x A n cp B m cq] w fun e w' => ∃ A' n' cp', e = .returned (.tuple #[.slice A' n' cp', .int .i64 0]) ∧ w'.ownsRow w.heap.size 5 1 (.slice A' n' cp') n' (bcells (reqB x)) ∧ Below w.heap.size w w' := by
  refine (OPut_any w c x A n cp B m cq hw hx hy).mono fun e w' h => ?_
  unfold PutPost at h
  rw [if_pos hm] at h
  obtain ⟨hb, A', n', cp', he, ho⟩ := h
  exact ⟨A', n', cp', he, ho, hb⟩
theorem OPut_no (w : World) (c : Col) (x : Req) (A : Option Addr) (n cp : Nat) (B : Option Addr) (m cq : Nat) (hm : mayR x = false) (hw : Wf c w) (hx : Rd kFld w c A n cp x.p) (hy : Rd kFld w c B m cq x.t) :
    Calls Try.prog 10 #[rV x A n cp B m cq] w fun e w' => e = .returned (.tuple #[.slice none 0 0, .int .i64 1]) ∧ Below w.heap.size w w' := by
  refine (OPut_any w c x A n cp B m cq hw hx hy).mono fun e w' h => ?_
  unfold PutPost at h
  rw [if_neg (by simp [hm])] at h
  exact ⟨h.2, h.1⟩
theorem set6_tr {M : Nat → Prop} {c c1 : Col} {w w1 : World} {b : Nat} (h : Tr M c c1 w w1) (hp : c1 b = some b) (hg : M b ∨ w.heap.size ≤ b) (u0 u1 u2 u3 u4 u5 : Value) :
    Tr M c c1 w ((((((w1.setCell ⟨b, 0, none⟩ u0).setCell ⟨b, 1, none⟩ u1).setCell ⟨b, 2, none⟩ u2).setCell ⟨b, 3, none⟩ u3).setCell ⟨b, 4, none⟩ u4).setCell ⟨b, 5, none⟩ u5) :=
  (((((h.setCell (p := ⟨b, 0, none⟩) hp hg u0).setCell (p := ⟨b, 1, none⟩) hp hg u1).setCell (p := ⟨b, 2, none⟩) hp hg u2).setCell (p := ⟨b, 3, none⟩) hp hg u3).setCell (p := ⟨b, 4, none⟩) hp hg u4).setCell (p := ⟨b, 5, none⟩) hp hg u5
def ReqPost (w : World) (c : Col) (x : Req) (v : Int) (e : Ending) (w' : World) : Prop :=
  ∃ A n cp B m cq, e = .returned (.tuple #[rV x A n cp B m cq, .int .i64 v]) ∧ Rd kFld w' c A n cp x.p ∧ Rd kFld w' c B m cq x.t ∧ Below w.heap.size w w'
set_option maxRecDepth 100000 in
set_option maxHeartbeats 4000000 in
theorem OGet_any (w : World) (c : Col) (A : Option Addr) (n cp : Nat) (b : List UInt8) (hw : Wf c w) (hl : n ≤ 1000000000) (hx : Rd kU8 w c A n cp b) :
    Calls Try.prog 14 #[.slice A n cp] w (ReqPost w c (reqGet b).1 (if (reqGet b).2 = true then 0 else 2)) := by
  have hbl : b.length ≤ 1000000000 := by rw [hx.1]; exact hl
  have hgt : reqGet b = if (reqParse b).2.fin = 0 ∧ mayR (reqParse b).1 = true ∧ reqB (reqParse b).1 = b then ((reqParse b).1, true) else (Req.zero, false) := rfl
  have hps : reqParse b = (⟨(reqNums b).1.1, (reqNums b).1.2.1, (reqNums b).1.2.2.1, (tupGet ((reqNums b).2.text 1000).1).1, (tupGet (((reqNums b).2.text 1000).2.text 1000).1).1, wrap64 (reqNums b).1.2.2.2⟩, (((reqNums b).2.text 1000).2.text 1000).2) := rfl
  have hnm : reqNums b = (((RS.num ⟨b, false⟩ 1).1, ((RS.num ⟨b, false⟩ 1).2.num 4).1, (((RS.num ⟨b, false⟩ 1).2.num 4).2.num 1).1, ((((RS.num ⟨b, false⟩ 1).2.num 4).2.num 1).2.num 8).1), ((((RS.num ⟨b, false⟩ 1).2.num 4).2.num 1).2.num 8).2) := rfl
  generalize reqGet b = res at *
  obtain ⟨xr, okr⟩ := res
  dsimp only
  generalize hvr : (if okr = true then (0 : Int) else 2) = vr
  cases h1 : RS.num ⟨b, false⟩ 1 with
  | mk v1 r1 =>
  cases h2 : r1.num 4 with
  | mk v2 r2 =>
  cases h3 : r2.num 1 with
  | mk v3 r3 =>
  cases h4 : r3.num 8 with
  | mk v4 r4 =>
  simp only [h1, h2, h3, h4] at hnm
  rw [hnm] at hps
  dsimp only at hps
  cases h5 : r4.text 1000 with
  | mk t5 r5 =>
  cases h6 : r5.text 1000 with
  | mk t6 r6 =>
  simp only [h5, h6] at hps
  rw [hps] at hgt
  dsimp only at hgt
  have q1 := RS.num_le ⟨b, false⟩ 1
  have b1 := RS.num1_lt ⟨b, false⟩
  have q2 := RS.num_le r1 4
  have b2 := RS.num_lt r1
  have q3 := RS.num_le r2 1
  have b3 := RS.num1_lt r2
  have q4 := RS.num_le r3 8
  have q5 := RS.text_le' r4 1000
  have q5o := RS.text_out r4 1000
  have q6o := RS.text_out r5 1000
  simp only [h1, h2, h3, h4, h5, h6] at q1 q2 q3 q4 q5 q5o q6o b1 b2 b3
  clear hps hnm
  have HVR := Lib.hid hvr
  have HGT := Lib.hid hgt
  have H1 := Lib.hid h1
  have H2 := Lib.hid h2
  have H3 := Lib.hid h3
  have H4 := Lib.hid h4
  have H5 := Lib.hid h5
  have H6 := Lib.hid h6
  have HX := Lib.hid hx
  have HW := Lib.hid hw
  have Q1 := Lib.hid q1
  have Q2 := Lib.hid q2
  have Q3 := Lib.hid q3
  have Q4 := Lib.hid q4
  have Q5 := Lib.hid q5
  have Q5O := Lib.hid q5o
  have Q6O := Lib.hid q6o
  clear hvr hgt h1 h2 h3 h4 h5 h6 hx hw q1 q2 q3 q4 q5 q5o q6o
  have HT0 := Lib.hid ((Tr.new HW.out (.cells #[.int .i64 0, .int .i64 0, .int .i64 0, .slice none 0 0, .slice none 0 0, .int .i64 0] 24)).hot (Nat.le_refl _) (by simp) (by simp) (.inr (Nat.le_refl _)))
  have HL0 := Lib.hid (Loc.new c w 24 #[.int .i64 0, .int .i64 0, .int .i64 0, .slice none 0 0, .slice none 0 0, .int .i64 0])
  generalize hc0 : Col.set c w.heap.size w.heap.size = c0 at HT0 HL0
  clear hc0
  go_enter Try.func14, Try.ntmps14
  go_wp2_with fail
  refine (New_any _ c0 b A n cp (by omega) HT0.out.wf (HX.out.tr HT0.out)).mono ?_
  rintro e w1 ⟨g, rfl, hg, q_HA1, q_HW1⟩
  have HA1 := Lib.hid q_HA1
  have HW1 := Lib.hid q_HW1
  clear q_HA1 q_HW1
  have HT1 := Lib.hid (HT0.out.then HA1.out)
  have HL1 := Lib.hid (HL0.out.tr HA1.out (fun h => h))
  have hgw : w.heap.size < g := by simp at hg; omega
  have hgw' : w.heap.size ≠ g := by omega
  go_wp2_with fail
  refine (RNum_eq _ _ g ⟨b, false⟩ 1 v1 r1 H1.out HT1.out.wf HW1.out).mono ?_
  rintro e w2 ⟨rfl, q_HA2, q_HW2⟩
  have HA2 := Lib.hid q_HA2
  have HW2 := Lib.hid q_HW2
  clear q_HA2 q_HW2
  have HT2 := Lib.hid (HT1.out.low HA2.out (by omega))
  have HL2 := Lib.hid (HL1.out.tr HA2.out hgw')
  go_wp2_with fail
  refine (RNum_eq _ _ g r1 4 v2 r2 H2.out HT2.out.wf HW2.out).mono ?_
  rintro e w3 ⟨rfl, q_HA3, q_HW3⟩
  have HA3 := Lib.hid q_HA3
  have HW3 := Lib.hid q_HW3
  clear q_HA3 q_HW3
  have HT3 := Lib.hid (HT2.out.low HA3.out (by omega))
  have HL3 := Lib.hid (HL2.out.tr HA3.out hgw')
  go_wp2_with fail
  refine (RNum_eq _ _ g r2 1 v3 r3 H3.out HT3.out.wf HW3.out).mono ?_
  rintro e w4 ⟨rfl, q_HA4, q_HW4⟩
  have HA4 := Lib.hid q_HA4
  have HW4 := Lib.hid q_HW4
  clear q_HA4 q_HW4
  have HT4 := Lib.hid (HT3.out.low HA4.out (by omega))
  have HL4 := Lib.hid (HL3.out.tr HA4.out hgw')
  go_wp2_with fail
  refine (RNum_eq _ _ g r3 8 v4 r4 H4.out HT4.out.wf HW4.out).mono ?_
  rintro e w5 ⟨rfl, q_HA5, q_HW5⟩
  have HA5 := Lib.hid q_HA5
  have HW5 := Lib.hid q_HW5
  clear q_HA5 q_HW5
  have HT5 := Lib.hid (HT4.out.low HA5.out (by omega))
  have HL5 := Lib.hid (HL4.out.tr HA5.out hgw')
  have HAX := Lib.hid ((Tr.new HT5.out.wf (.cells #[.int .i64 (v1 : Int), .int .i64 (v2 : Int), .int .i64 (v3 : Int), .slice none 0 0, .slice none 0 0, .int .i64 (wrap64 (v4 : Int))] 24)).hot (k := w5.heap.size) (g := w5.heap.size) (Nat.le_refl _) (by simp) (by simp) (.inr (Nat.le_refl _)))
  have HLX := Lib.hid (Loc.new (c0.set g g) w5 24 #[.int .i64 (v1 : Int), .int .i64 (v2 : Int), .int .i64 (v3 : Int), .slice none 0 0, .slice none 0 0, .int .i64 (wrap64 (v4 : Int))])
  generalize hcx : (c0.set g g).set w5.heap.size w5.heap.size = c2 at HAX HLX
  clear hcx
  have HTX := Lib.hid (HT5.out.then HAX.out)
  have HLR := Lib.hid (HL5.out.tr HAX.out (fun h => h))
  have HWX := Lib.hid (HW5.out.tr HAX.out (fun h => h))
  have hk5 : w.heap.size ≤ w5.heap.size := HT5.out.size
  have hg5 : g < w5.heap.size := HW5.out.lt
  generalize hkx : w5.heap.size = kx at HAX HLX HTX HLR HWX hk5 hg5
  go_wp2_with fail
  refine (RText_eq _ c2 g r4 1000 t5 r5 H5.out (by omega) (by have := Q1.out; have := Q2.out; have := Q3.out; have := Q4.out; omega) HTX.out.wf HWX.out).mono ?_
  rintro e w6 ⟨A6, n6, cp6, rfl, q_HA6, q_HW6, q_HR6⟩
  have HA6 := Lib.hid q_HA6
  have HW6 := Lib.hid q_HW6
  have HR6 := Lib.hid q_HR6
  clear q_HA6 q_HW6 q_HR6
  have HT6 := Lib.hid (HTX.out.low HA6.out (by omega))
  have HLX6 := Lib.hid (HLX.out.tr HA6.out (by omega))
  have HLR6 := Lib.hid (HLR.out.tr HA6.out hgw')
  go_wp2_with fail
  refine (TGet_any w6 c2 A6 n6 cp6 t5 HT6.out.wf (by have := HR6.out.1; have := Q1.out; have := Q2.out; have := Q3.out; have := Q4.out; have := Q5O.out; omega) HR6.out).mono ?_
  rintro e w7 ⟨q_HB7, A7, n7, cp7, rfl, q_HR7⟩
  have HB7 := Lib.hid q_HB7
  have HR7 := Lib.hid q_HR7
  clear q_HB7 q_HR7
  generalize (if (tupGet t5).2 = true then (0 : Int) else 2) = zz5
  generalize (tupGet t5).1 = p at HR7 HGT
  have HS7 := Lib.hid (Tr.of_below (M := fun _ => False) HT6.out.wf HB7.out)
  have HL7 := Lib.hid (HLX6.out.tr HS7.out (fun h => h))
  have HLR7 := Lib.hid (HLR6.out.tr HS7.out (fun h => h))
  have HW7 := Lib.hid (HW6.out.tr HS7.out (fun h => h))
  have HT7 := Lib.hid (HT6.out.then HS7.out)
  have f3 := HL7.out.frozen 3
  have e3 := HL7.out.cell 3
  have HA8 := Lib.hid ((Tr.refl (· = kx) HT7.out.wf).setCell (p := ⟨kx, 3, none⟩) HL7.out.1 (.inl rfl) (.slice A7 n7 cp7))
  have HL8 := Lib.hid (HL7.out.set_ 3 (.slice A7 n7 cp7))
  have hgk : g ≠ kx := by omega
  have hwk : w.heap.size ≠ kx := by omega
  have HT8 := Lib.hid (HT7.out.low HA8.out hk5)
  have HLR8 := Lib.hid (HLR7.out.tr HA8.out hwk)
  have HW8 := Lib.hid (HW7.out.tr HA8.out hgk)
  have HR8 := Lib.hid (HR7.out.tr HA8.out)
  go_wp2_with fail
  refine (RText_eq _ c2 g r5 1000 t6 r6 H6.out (by omega) (by have := Q1.out; have := Q2.out; have := Q3.out; have := Q4.out; have := Q5.out; omega) HT8.out.wf HW8.out).mono ?_
  rintro e w9 ⟨A9, n9, cp9, rfl, q_HA9, q_HW9, q_HR9⟩
  have HA9 := Lib.hid q_HA9
  have HW9 := Lib.hid q_HW9
  have HR9 := Lib.hid q_HR9
  clear q_HA9 q_HW9 q_HR9
  clear f3 e3
  have HT9 := Lib.hid (HT8.out.low HA9.out (by omega))
  have HL9 := Lib.hid (HL8.out.tr HA9.out (by omega))
  have HLR9 := Lib.hid (HLR8.out.tr HA9.out hgw')
  have HRP9 := Lib.hid (HR8.out.tr HA9.out)
  go_wp2_with fail
  refine (TGet_any w9 c2 A9 n9 cp9 t6 HT9.out.wf (by have := HR9.out.1; have := Q1.out; have := Q2.out; have := Q3.out; have := Q4.out; have := Q5.out; have := Q6O.out; omega) HR9.out).mono ?_
  rintro e w10 ⟨q_HB10, A10, n10, cp10, rfl, q_HR10⟩
  have HB10 := Lib.hid q_HB10
  have HR10 := Lib.hid q_HR10
  clear q_HB10 q_HR10
  generalize (if (tupGet t6).2 = true then (0 : Int) else 2) = zz6
  generalize (tupGet t6).1 = t at HR10 HGT
  have HS10 := Lib.hid (Tr.of_below (M := fun _ => False) HT9.out.wf HB10.out)
  have HL10 := Lib.hid (HL9.out.tr HS10.out (fun h => h))
  have HLR10 := Lib.hid (HLR9.out.tr HS10.out (fun h => h))
  have HW10 := Lib.hid (HW9.out.tr HS10.out (fun h => h))
  have HT10 := Lib.hid (HT9.out.then HS10.out)
  have HRP10 := Lib.hid (HRP9.out.tr HS10.out)
  have f4 := HL10.out.frozen 4
  have e4 := HL10.out.cell 4
  have HA11 := Lib.hid ((Tr.refl (· = kx) HT10.out.wf).setCell (p := ⟨kx, 4, none⟩) HL10.out.1 (.inl rfl) (.slice A10 n10 cp10))
  have HL11 := Lib.hid (HL10.out.set_ 4 (.slice A10 n10 cp10))
  have HT11 := Lib.hid (HT10.out.low HA11.out hk5)
  have HLR11 := Lib.hid (HLR10.out.tr HA11.out hwk)
  have HW11 := Lib.hid (HW10.out.tr HA11.out hgk)
  have HRP11 := Lib.hid (HRP10.out.tr HA11.out)
  have HRT11 := Lib.hid (HR10.out.tr HA11.out)
  have x0 := HL11.out.cell 0
  have x1 := HL11.out.cell 1
  have x2 := HL11.out.cell 2
  have x3 := HL11.out.cell 3
  have x4 := HL11.out.cell 4
  have x5 := HL11.out.cell 5
  generalize hfin : r6.fin = fin at HGT
  have HFIN := Lib.hid hfin
  clear hfin
  cases hmay : mayR ⟨v1, v2, v3, p, t, wrap64 v4⟩ with
  | false =>
    have HM := Lib.hid hmay
    have HRES : Hid ((xr, okr) = (Req.zero, false)) := by show _ = _; rw [HGT.out, if_neg (by rw [hmay]; simp)]
    clear hmay
    go_wp2_with fail
    refine (OPut_no _ c2 ⟨v1, v2, v3, p, t, wrap64 v4⟩ A7 n7 cp7 A10 n10 cp10 HM.out HT11.out.wf HRP11.out HRT11.out).mono ?_
    rintro e w12 ⟨rfl, q_HB12⟩
    have HB12 := Lib.hid q_HB12
    clear q_HB12
    have HS12 := Lib.hid (Tr.of_below (M := fun _ => False) HT11.out.wf HB12.out)
    have HT12 := Lib.hid (HT11.out.then HS12.out)
    have HW12 := Lib.hid (HW11.out.tr HS12.out (fun h => h))
    go_wp2_with fail
    refine (REnd_eq w12 c2 g r6 fin HFIN.out HT12.out.wf HW12.out).mono ?_
    rintro e w13 ⟨rfl, q_HA13, q_HW13⟩
    have HA13 := Lib.hid q_HA13
    have HW13 := Lib.hid q_HW13
    clear q_HA13 q_HW13
    have HT13 := Lib.hid (HT12.out.low HA13.out (by omega))
    have HLR13 := Lib.hid ((HLR11.out.tr HS12.out (fun h => h)).tr HA13.out hgw')
    clear x0 x1 x2 x3 x4 x5
    have z0 := HLR13.out.cell 0
    have z1 := HLR13.out.cell 1
    have z2 := HLR13.out.cell 2
    have z3 := HLR13.out.cell 3
    have z4 := HLR13.out.cell 4
    have z5 := HLR13.out.cell 5
    have k0 := HLR13.out.frozen 0
    have k1 := HLR13.out.frozen 1
    have k2 := HLR13.out.frozen 2
    have k3 := HLR13.out.frozen 3
    have k4 := HLR13.out.frozen 4
    have k5 := HLR13.out.frozen 5
    by_cases hf : fin = 0
    · have hb1 : (fin != 0) = false := by simp [hf]
      clear hf
      go_wp2_with fail
      refine bodyPost_ret (v := .tuple #[rV Req.zero none 0 0 none 0 0, .int .i64 2]) (by simp [results, Try.results14, go_sem, z0, z1, z2, z3, z4, z5, Req.zero]) rfl ?_
      have hrs := HRES.out
      simp only [Prod.mk.injEq] at hrs
      obtain ⟨rfl, rfl⟩ := hrs
      have hvr := HVR.out
      rw [if_neg (by simp)] at hvr
      subst hvr
      have htf := set6_tr HT13.out HLR13.out.1 (.inr (Nat.le_refl _)) (.int .i64 0) (.int .i64 0) (.int .i64 0) (.slice none 0 0) (.slice none 0 0) (.int .i64 0)
      exact ⟨none, 0, 0, none, 0, 0, rfl, Rd.nil _ _ _, Rd.nil _ _ _, htf.below fun _ _ h => h⟩
    · have hb1 : (fin != 0) = true := by simp [hf]
      clear hf
      go_wp2_with fail
      refine bodyPost_ret (v := .tuple #[rV Req.zero none 0 0 none 0 0, .int .i64 2]) (by simp [results, Try.results14, go_sem, z0, z1, z2, z3, z4, z5, Req.zero]) rfl ?_
      have hrs := HRES.out
      simp only [Prod.mk.injEq] at hrs
      obtain ⟨rfl, rfl⟩ := hrs
      have hvr := HVR.out
      rw [if_neg (by simp)] at hvr
      subst hvr
      have htf := set6_tr HT13.out HLR13.out.1 (.inr (Nat.le_refl _)) (.int .i64 0) (.int .i64 0) (.int .i64 0) (.slice none 0 0) (.slice none 0 0) (.int .i64 0)
      exact ⟨none, 0, 0, none, 0, 0, rfl, Rd.nil _ _ _, Rd.nil _ _ _, htf.below fun _ _ h => h⟩
  | true =>
    have HM := Lib.hid hmay
    go_wp2_with fail
    refine (OPut_yes _ c2 ⟨v1, v2, v3, p, t, wrap64 v4⟩ A7 n7 cp7 A10 n10 cp10 HM.out HT11.out.wf HRP11.out HRT11.out).mono ?_
    rintro e w12 ⟨A12, n12, cp12, rfl, q_HO12, q_HB12⟩
    have HO12 := Lib.hid q_HO12
    have HB12 := Lib.hid q_HB12
    clear q_HO12 q_HB12
    have HS12 := Lib.hid (Tr.of_below (M := fun _ => False) HT11.out.wf HB12.out)
    have HT12 := Lib.hid (HT11.out.then HS12.out)
    have HW12 := Lib.hid (HW11.out.tr HS12.out (fun h => h))
    have HAG12 := Lib.hid (own_rd HO12.out HT11.out.wf)
    go_wp2_with fail
    refine (REnd_eq w12 c2 g r6 fin HFIN.out HT12.out.wf HW12.out).mono ?_
    rintro e w13 ⟨rfl, q_HA13, q_HW13⟩
    have HA13 := Lib.hid q_HA13
    have HW13 := Lib.hid q_HW13
    clear q_HA13 q_HW13
    have HT13 := Lib.hid (HT12.out.low HA13.out (by omega))
    have HAG13 := Lib.hid (HAG12.out.tr HA13.out)
    have HX13 := Lib.hid (HX.out.below (HT13.out.below fun _ _ h => h))
    have HLX13 := Lib.hid ((HL11.out.tr HS12.out (fun h => h)).tr HA13.out (by omega))
    have HLR13 := Lib.hid ((HLR11.out.tr HS12.out (fun h => h)).tr HA13.out hgw')
    have HAC13 := Lib.hid (HAG13.out.back HT13.out)
    have HRP13 := Lib.hid ((HRP11.out.tr HS12.out).tr HA13.out)
    have HRT13 := Lib.hid ((HRT11.out.tr HS12.out).tr HA13.out)
    clear x0 x1 x2 x3 x4 x5
    by_cases hf : fin = 0
    · subst hf
      cases heq : (reqB ⟨v1, v2, v3, p, t, wrap64 v4⟩ == b) with
      | true =>
        have HEQ := Lib.hid heq
        have HRES : Hid ((xr, okr) = ((⟨v1, v2, v3, p, t, wrap64 v4⟩ : Req), true)) := by show _ = _; rw [HGT.out, if_pos ⟨rfl, hmay, by simpa using heq⟩]
        clear heq hmay
        go_wp2_with fail
        refine (bool_eq HEQ.out (EqualB_any w13 c A12 A n12 cp12 n cp _ b HAC13.out HX13.out)).mono ?_
        rintro e w14 ⟨rfl, q_HB14⟩
        have HB14 := Lib.hid q_HB14
        clear q_HB14
        have HS14 := Lib.hid (Tr.of_below (M := fun _ => False) HT13.out.wf HB14.out)
        have HT14 := Lib.hid (HT13.out.then HS14.out)
        have HLX14 := Lib.hid (HLX13.out.tr HS14.out (fun h => h))
        have HLR14 := Lib.hid (HLR13.out.tr HS14.out (fun h => h))
        have HRP14 := Lib.hid (HRP13.out.tr HS14.out)
        have HRT14 := Lib.hid (HRT13.out.tr HS14.out)
        have y0 := HLX14.out.cell 0
        have y1 := HLX14.out.cell 1
        have y2 := HLX14.out.cell 2
        have y3 := HLX14.out.cell 3
        have y4 := HLX14.out.cell 4
        have y5 := HLX14.out.cell 5
        have z0 := HLR14.out.cell 0
        have z1 := HLR14.out.cell 1
        have z2 := HLR14.out.cell 2
        have z3 := HLR14.out.cell 3
        have z4 := HLR14.out.cell 4
        have z5 := HLR14.out.cell 5
        have k0 := HLR14.out.frozen 0
        have k1 := HLR14.out.frozen 1
        have k2 := HLR14.out.frozen 2
        have k3 := HLR14.out.frozen 3
        have k4 := HLR14.out.frozen 4
        have k5 := HLR14.out.frozen 5
        go_wp2_with fail
        refine bodyPost_ret (v := .tuple #[rV ⟨v1, v2, v3, p, t, wrap64 v4⟩ A7 n7 cp7 A10 n10 cp10, .int .i64 0]) (by simp [results, Try.results14, go_sem, z0, z1, z2, z3, z4, z5]) rfl ?_
        have hrs := HRES.out
        simp only [Prod.mk.injEq] at hrs
        obtain ⟨rfl, rfl⟩ := hrs
        have hvr := HVR.out
        rw [if_pos rfl] at hvr
        subst hvr
        have htf := set6_tr HT14.out HLR14.out.1 (.inr (Nat.le_refl _)) (.int .i64 v1) (.int .i64 v2) (.int .i64 v3) (.slice A7 n7 cp7) (.slice A10 n10 cp10) (.int .i64 (wrap64 v4))
        have hsf := set6_tr (Tr.refl (· = w.heap.size) HT14.out.wf) HLR14.out.1 (.inl rfl) (.int .i64 v1) (.int .i64 v2) (.int .i64 v3) (.slice A7 n7 cp7) (.slice A10 n10 cp10) (.int .i64 (wrap64 v4))
        exact ⟨A7, n7, cp7, A10, n10, cp10, rfl, ((HRP14.out.tr hsf).back htf), ((HRT14.out.tr hsf).back htf), htf.below fun _ _ h => h⟩
      | false =>
        have HEQ := Lib.hid heq
        have HRES : Hid ((xr, okr) = (Req.zero, false)) := by show _ = _; rw [HGT.out, if_neg (by rintro ⟨_, _, h⟩; rw [h] at heq; simp at heq)]
        clear heq hmay
        go_wp2_with fail
        refine (bool_eq HEQ.out (EqualB_any w13 c A12 A n12 cp12 n cp _ b HAC13.out HX13.out)).mono ?_
        rintro e w14 ⟨rfl, q_HB14⟩
        have HB14 := Lib.hid q_HB14
        clear q_HB14
        have HS14 := Lib.hid (Tr.of_below (M := fun _ => False) HT13.out.wf HB14.out)
        have HT14 := Lib.hid (HT13.out.then HS14.out)
        have HLR14 := Lib.hid (HLR13.out.tr HS14.out (fun h => h))
        have z0 := HLR14.out.cell 0
        have z1 := HLR14.out.cell 1
        have z2 := HLR14.out.cell 2
        have z3 := HLR14.out.cell 3
        have z4 := HLR14.out.cell 4
        have z5 := HLR14.out.cell 5
        have k0 := HLR14.out.frozen 0
        have k1 := HLR14.out.frozen 1
        have k2 := HLR14.out.frozen 2
        have k3 := HLR14.out.frozen 3
        have k4 := HLR14.out.frozen 4
        have k5 := HLR14.out.frozen 5
        go_wp2_with fail
        refine bodyPost_ret (v := .tuple #[rV Req.zero none 0 0 none 0 0, .int .i64 2]) (by simp [results, Try.results14, go_sem, z0, z1, z2, z3, z4, z5, Req.zero]) rfl ?_
        have hrs := HRES.out
        simp only [Prod.mk.injEq] at hrs
        obtain ⟨rfl, rfl⟩ := hrs
        have hvr := HVR.out
        rw [if_neg (by simp)] at hvr
        subst hvr
        have htf := set6_tr HT14.out HLR14.out.1 (.inr (Nat.le_refl _)) (.int .i64 0) (.int .i64 0) (.int .i64 0) (.slice none 0 0) (.slice none 0 0) (.int .i64 0)
        exact ⟨none, 0, 0, none, 0, 0, rfl, Rd.nil _ _ _, Rd.nil _ _ _, htf.below fun _ _ h => h⟩
    · have hb1 : (fin != 0) = true := by simp [hf]
      have HRES : Hid ((xr, okr) = (Req.zero, false)) := by show _ = _; rw [HGT.out, if_neg (fun h => hf h.1)]
      clear hf hmay
      have z0 := HLR13.out.cell 0
      have z1 := HLR13.out.cell 1
      have z2 := HLR13.out.cell 2
      have z3 := HLR13.out.cell 3
      have z4 := HLR13.out.cell 4
      have z5 := HLR13.out.cell 5
      have k0 := HLR13.out.frozen 0
      have k1 := HLR13.out.frozen 1
      have k2 := HLR13.out.frozen 2
      have k3 := HLR13.out.frozen 3
      have k4 := HLR13.out.frozen 4
      have k5 := HLR13.out.frozen 5
      go_wp2_with fail
      refine bodyPost_ret (v := .tuple #[rV Req.zero none 0 0 none 0 0, .int .i64 2]) (by simp [results, Try.results14, go_sem, z0, z1, z2, z3, z4, z5, Req.zero]) rfl ?_
      have hrs := HRES.out
      simp only [Prod.mk.injEq] at hrs
      obtain ⟨rfl, rfl⟩ := hrs
      have hvr := HVR.out
      rw [if_neg (by simp)] at hvr
      subst hvr
      have htf := set6_tr HT13.out HLR13.out.1 (.inr (Nat.le_refl _)) (.int .i64 0) (.int .i64 0) (.int .i64 0) (.slice none 0 0) (.slice none 0 0) (.int .i64 0)
      exact ⟨none, 0, 0, none, 0, 0, rfl, Rd.nil _ _ _, Rd.nil _ _ _, htf.below fun _ _ h => h⟩
end Go.Proofs.Ytcdapcljpkohbaa
