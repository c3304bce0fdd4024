/- ref6: requests read from their bytes. -/
import Derived.Test.YtcdapcljpkohbaaOperG
import Derived.Test.YtcdapcljpkohbaaRefG
set_option linter.unusedVariables false
set_option linter.unusedSimpArgs false
namespace Go.Proofs.Ytcdapcljpkohbaa
open Go.RowKit

theorem ret_i64 {a b : Int} (h : a = b) : Ending.returned (.int .i64 a) = .returned (.int .i64 b) := by rw [h]
set_option maxHeartbeats 2000000 in
theorem number_any (w : World) (c : Col) (g : Nat) (r : RS) (hw : Wf c w) (hW : Rf w c g r) :
    Calls Try.prog 43 #[.pointer (some ⟨g, 0, none⟩)] w (RfPost w c g (.int .i64 (numberS r).1) (numberS r).2) := by
  have hS : numberS r = if 4611686018427387904 ≤ (r.num 8).1 then ((0 : Int), ⟨(r.num 8).2.xs, true⟩) else ((((r.num 8).1 : Nat) : Int), (r.num 8).2) := rfl
  have hlt := RS.num8_lt r
  cases h8 : r.num 8 with
  | mk v r1 =>
  rw [h8] at hS hlt
  dsimp only at hS hlt
  have H8 := Lib.hid h8
  have HW := Lib.hid hw
  have HR := Lib.hid hW
  clear h8 hw hW
  by_cases hv : 4611686018427387904 ≤ v
  · rw [if_pos hv] at hS
    have hb : decide (4611686018427387904 ≤ (v : Int)) = true := by simp; omega
    have HV := Lib.hid hv
    rw [hS]
    clear hv hS
    go_enter Try.func43, Try.ntmps43
    go_wp2_with fail
    refine (rNum_eq w c g r 8 v r1 H8.out HW.out HR.out).mono ?_
    rintro e w1 ⟨rfl, q_HA1, q_HR1⟩
    have HA1 := Lib.hid q_HA1
    have HR1 := Lib.hid q_HR1
    clear q_HA1 q_HR1
    obtain ⟨A, n, cp, hb1⟩ := HR1.out.block
    have c0 := blk_cell0 hb1
    have c1 := blk_cell1 hb1
    have f0 := blk_free hb1 0
    have f1 := blk_free hb1 1
    have hbad := Rf_bad HA1.out.wf HR1.out.1 hb1 r1.xs
    have HBAD := Lib.hid hbad
    have HB1 := Lib.hid hb1
    clear hbad hb1
    have hvi : (4611686018427387904 : Int) ≤ (v : Int) := by have := HV.out; omega
    go_wp2_with fail
    refine bodyPost_ret (results_tmp rfl _ _ _) rfl ?_
    exact ⟨rfl, HA1.out.then HBAD.out.1, HBAD.out.2⟩
  · rw [if_neg hv] at hS
    have hb : decide (4611686018427387904 ≤ (v : Int)) = false := by simp; omega
    have HVI : Hid (wrap64 (v : Int) = (v : Int)) := by show _ = _; unfold wrap64; omega
    rw [hS]
    have HLT := Lib.hid hlt
    clear hv hS hlt
    go_enter Try.func43, Try.ntmps43
    go_wp2_with fail
    refine (rNum_eq w c g r 8 v r1 H8.out HW.out HR.out).mono ?_
    rintro e w1 ⟨rfl, q_HA1, q_HR1⟩
    have HA1 := Lib.hid q_HA1
    have HR1 := Lib.hid q_HR1
    clear q_HA1 q_HR1
    go_wp2_with fail
    go_ret
    exact ⟨ret_i64 HVI.out, HA1.out, HR1.out⟩
/-- Fields that were read by a reader. -/
def RlPost (w : World) (c : Col) (g : Nat) (l : List Fld) (r : RS) (e : Ending) (w' : World) : Prop :=
  ∃ A n cp, e = .returned (.slice A n cp) ∧ Tr (· = g) c c w w' ∧ Rf w' c g r ∧ Rd kFld w' c A n cp l
set_option maxHeartbeats 2000000 in
theorem some_any (w : World) (c : Col) (g : Nat) (r : RS) (hl : r.xs.length ≤ 1000000000) (hw : Wf c w) (hW : Rf w c g r) :
    Calls Try.prog 44 #[.pointer (some ⟨g, 0, none⟩)] w (RlPost w c g (someS r).1 (someS r).2) := by
  have hS : someS r = if (r.text 1000).1 = [] then ([], (r.text 1000).2) else ((tupGet (r.text 1000).1).1, if (tupGet (r.text 1000).1).2 = true then (r.text 1000).2 else ⟨(r.text 1000).2.xs, true⟩) := rfl
  have hto := RS.text_out r 1000
  cases h8 : r.text 1000 with
  | mk t r1 =>
  rw [h8] at hS hto
  dsimp only at hS hto
  have HS := Lib.hid hS
  generalize someS r = res at hS HS
  obtain ⟨l, r2⟩ := res
  dsimp only
  have H8 := Lib.hid h8
  have HW := Lib.hid hw
  have HR := Lib.hid hW
  clear h8 hw hW
  clear hS
  go_enter Try.func44, Try.ntmps44
  go_wp2_with fail
  refine (rText_eq w c g r 1000 t r1 H8.out (by omega) (by omega) HW.out HR.out).mono ?_
  rintro e w1 ⟨A1, n1, cp1, rfl, q_HA1, q_HR1, q_HX1⟩
  have HA1 := Lib.hid q_HA1
  have HR1 := Lib.hid q_HR1
  have HX1 := Lib.hid q_HX1
  clear q_HA1 q_HR1 q_HX1
  have hn1 : n1 ≤ 1000000000 := by have := HX1.out.1; omega
  by_cases h0 : n1 = 0
  · have hb : ((n1 : Int) == 0) = true := by simp [h0]
    have HT : Hid (t = []) := by show _ = _; have := HX1.out.1; exact List.eq_nil_of_length_eq_zero (by omega)
    clear h0
    go_wp2_with fail
    refine bodyPost_ret (results_tmp rfl _ _ _) rfl ?_
    have hs := HS.out
    rw [if_pos HT.out] at hs
    cases hs
    exact ⟨none, 0, 0, rfl, HA1.out, HR1.out, Rd.nil _ _ _⟩
  · have hb : ((n1 : Int) == 0) = false := by simp [h0]
    have HT : Hid (t ≠ []) := by show _ ≠ _; intro e; have := HX1.out.1; rw [e] at this; simp at this; omega
    have HG := Lib.hid (r6Get_any w1 c A1 n1 cp1 t HA1.out.wf (by omega) HX1.out)
    clear h0
    cases hok : (tupGet t).2 with
    | true =>
      have HP := Lib.hid ((r6Get_any w1 c A1 n1 cp1 t HA1.out.wf (by omega) HX1.out).mono fun e w' h => h.yes (l := (tupGet t).1) (show tupGet t = ((tupGet t).1, true) from Prod.ext rfl hok))
      have HOK := Lib.hid hok
      clear hok
      go_wp2_with fail
      refine (HP.out).mono ?_
      rintro e w2 ⟨A2, n2, cp2, rfl, q_HX2, q_HB2⟩
      have HX2 := Lib.hid q_HX2
      have HB2 := Lib.hid q_HB2
      clear q_HX2 q_HB2
      have HS2 := Lib.hid (Tr.of_below (M := fun x => x = g) HA1.out.wf HB2.out)
      have HR2 := Lib.hid (HR1.out.tr (Tr.of_below (M := fun _ => False) HA1.out.wf HB2.out) (fun h => h))
      go_wp2_with fail
      go_ret
      have hs := HS.out
      rw [if_neg HT.out, if_pos HOK.out] at hs
      cases hs
      exact ⟨A2, n2, cp2, rfl, HA1.out.then HS2.out, HR2.out, HX2.out⟩
    | false =>
      have HP := Lib.hid ((r6Get_any w1 c A1 n1 cp1 t HA1.out.wf (by omega) HX1.out).mono fun e w' h => h.no (tupGet_false hok))
      have HOK := Lib.hid hok
      clear hok
      go_wp2_with fail
      refine (HP.out).mono ?_
      rintro e w2 ⟨A2, n2, cp2, rfl, q_HX2, q_HB2⟩
      have HX2 := Lib.hid q_HX2
      have HB2 := Lib.hid q_HB2
      clear q_HX2 q_HB2
      have HS2 := Lib.hid (Tr.of_below (M := fun x => x = g) HA1.out.wf HB2.out)
      have HR2 := Lib.hid (HR1.out.tr (Tr.of_below (M := fun _ => False) HA1.out.wf HB2.out) (fun h => h))
      obtain ⟨A, n, cp, hb1⟩ := HR2.out.block
      have c0 := blk_cell0 hb1
      have c1 := blk_cell1 hb1
      have f0 := blk_free hb1 0
      have f1 := blk_free hb1 1
      have hbad := Rf_bad HS2.out.wf HR2.out.1 hb1 r1.xs
      have HBAD := Lib.hid hbad
      have HB1 := Lib.hid hb1
      clear hbad hb1
      go_wp2_with fail
      go_ret
      have hs := HS.out
      rw [if_neg HT.out, HOK.out, if_neg (by simp), tupGet_false HOK.out] at hs
      cases hs
      exact ⟨A2, n2, cp2, rfl, (HA1.out.then HS2.out).then HBAD.out.1, HBAD.out.2, HX2.out.tr HBAD.out.1⟩
theorem numberS_le (r : RS) : (numberS r).2.xs.length ≤ r.xs.length := by
  have := RS.num_le r 8
  unfold numberS
  split <;> exact this
theorem someS_le (r : RS) : (someS r).2.xs.length ≤ r.xs.length := by
  have := RS.text_le' r 1000
  unfold someS
  dsimp only
  split
  · exact this
  · dsimp only
    split <;> exact this
theorem number_eq (w : World) (c : Col) (g : Nat) (r : RS) (v : Int) (r' : RS) (h : numberS r = (v, r')) (hw : Wf c w) (hW : Rf w c g r) :
    Calls Try.prog 43 #[.pointer (some ⟨g, 0, none⟩)] w (RfPost w c g (.int .i64 v) r') := by
  have := number_any w c g r hw hW
  rw [h] at this
  exact this
theorem some_eq (w : World) (c : Col) (g : Nat) (r : RS) (l : List Fld) (r' : RS) (h : someS r = (l, r')) (hl : r.xs.length ≤ 1000000000) (hw : Wf c w) (hW : Rf w c g r) :
    Calls Try.prog 44 #[.pointer (some ⟨g, 0, none⟩)] w (RlPost w c g l r') := by
  have := some_any w c g r hl hw hW
  rw [h] at this
  exact this
set_option maxRecDepth 100000 in
set_option maxHeartbeats 4000000 in
theorem r6GetR_any (w : World) (c : Col) (A : Option Addr) (n cp : Nat) (b : List UInt8) (hw : Wf c w) (hl : n ≤ 1000000000) (hx : Rd kU8 w c A n cp b) :
    Calls Try.prog 15 #[.slice A n cp] w (ReqPost w c (reqGet6 b).1 (if (reqGet6 b).2 = true then 0 else 2)) := by
  have hbl : b.length ≤ 1000000000 := by rw [hx.1]; exact hl
  have hgt : reqGet6 b = if (reqParse6 b).2.fin = 0 ∧ mayR (reqParse6 b).1 = true then ((reqParse6 b).1, true) else (Req.zero, false) := rfl
  have hps : reqParse6 b = ((⟨(RS.num ⟨b, false⟩ 1).1, ((RS.num ⟨b, false⟩ 1).2.num 4).1, (((RS.num ⟨b, false⟩ 1).2.num 4).2.num 1).1, (someS (numberS (((RS.num ⟨b, false⟩ 1).2.num 4).2.num 1).2).2).1, (someS (someS (numberS (((RS.num ⟨b, false⟩ 1).2.num 4).2.num 1).2).2).2).1, (numberS (((RS.num ⟨b, false⟩ 1).2.num 4).2.num 1).2).1⟩ : Req), (someS (someS (numberS (((RS.num ⟨b, false⟩ 1).2.num 4).2.num 1).2).2).2).2) := rfl
  generalize reqGet6 b = res at *
  obtain ⟨xr, okr⟩ := res
  dsimp only
  generalize hvr : (if okr = true then (0 : Int) else 2) = vr
  cases h1 : RS.num ⟨b, false⟩ 1 with
  | mk v1 r1 =>
  cases h2 : r1.num 4 with
  | mk v2 r2 =>
  cases h3 : r2.num 1 with
  | mk v3 r3 =>
  cases h4 : numberS r3 with
  | mk v4 r4 =>
  cases h5 : someS r4 with
  | mk p r5 =>
  cases h6 : someS r5 with
  | mk t r6 =>
  simp only [h1, h2, h3, h4, h5, h6] at hps
  rw [hps] at hgt
  dsimp only at hgt
  have q1 := RS.num_le ⟨b, false⟩ 1
  have b1 := RS.num1_lt ⟨b, false⟩
  have q2 := RS.num_le r1 4
  have b2 := RS.num_lt r1
  have q3 := RS.num_le r2 1
  have b3 := RS.num1_lt r2
  have q4 := numberS_le r3
  have q5 := someS_le r4
  simp only [h1, h2, h3, h4, h5] at q1 q2 q3 q4 q5 b1 b2 b3
  have hn4 : (⟨v4, r4⟩ : Int × RS) = numberS r3 := h4.symm
  clear hps
  have HVR := Lib.hid hvr
  have HGT := Lib.hid hgt
  have H1 := Lib.hid h1
  have H2 := Lib.hid h2
  have H3 := Lib.hid h3
  have H4 := Lib.hid h4
  have H5 := Lib.hid h5
  have H6 := Lib.hid h6
  have HX := Lib.hid hx
  have HW := Lib.hid hw
  have Q1 := Lib.hid q1
  have Q2 := Lib.hid q2
  have Q3 := Lib.hid q3
  have Q4 := Lib.hid q4
  have Q5 := Lib.hid q5
  have HN4 := Lib.hid hn4
  clear hvr hgt h1 h2 h3 h4 h5 h6 hx hw q1 q2 q3 q4 q5 hn4
  have HT0 := Lib.hid ((Tr.new HW.out (.cells #[.int .i64 0, .int .i64 0, .int .i64 0, .slice none 0 0, .slice none 0 0, .int .i64 0] 24)).hot (Nat.le_refl _) (by simp) (by simp) (.inr (Nat.le_refl _)))
  have HL0 := Lib.hid (Loc.new c w 24 #[.int .i64 0, .int .i64 0, .int .i64 0, .slice none 0 0, .slice none 0 0, .int .i64 0])
  generalize hc0 : Col.set c w.heap.size w.heap.size = c0 at HT0 HL0
  clear hc0
  obtain ⟨hrn1, hrn2⟩ := Rf_new HT0.out.wf (HX.out.tr HT0.out)
  have hsz : (w.alloc (.cells #[.int .i64 0, .int .i64 0, .int .i64 0, .slice none 0 0, .slice none 0 0, .int .i64 0] 24)).heap.size = w.heap.size + 1 := by simp
  rw [hsz] at hrn1 hrn2
  have HT1 := Lib.hid (HT0.out.then hrn1)
  have HLR1 := Lib.hid (HL0.out.tr hrn1 (fun h => h))
  have HW1 := Lib.hid hrn2
  clear hrn1 hrn2 hsz
  go_enter Try.func15, Try.ntmps15
  go_wp2_with fail
  obtain ⟨g, hg⟩ : ∃ g, g = w.heap.size + 1 := ⟨_, rfl⟩
  rw [← hg] at HT1 HLR1 HW1 ⊢
  have hgw' : w.heap.size ≠ g := by omega
  have hgle : w.heap.size ≤ g := by omega
  have HG := Lib.hid hg
  clear hg
  refine (rNum_eq _ (c0.set g g) g ⟨b, false⟩ 1 v1 r1 H1.out HT1.out.wf HW1.out).mono ?_
  rintro e w2 ⟨rfl, q_HA2, q_HW2⟩
  have HA2 := Lib.hid q_HA2
  have HW2 := Lib.hid q_HW2
  clear q_HA2 q_HW2
  have HT2 := Lib.hid (HT1.out.low HA2.out hgle)
  have HLR2 := Lib.hid (HLR1.out.tr HA2.out hgw')
  have HAX := Lib.hid ((Tr.new HT2.out.wf (.cells #[.int .i64 (v1 : Int), .int .i64 0, .int .i64 0, .slice none 0 0, .slice none 0 0, .int .i64 0] 24)).hot (k := w2.heap.size) (g := w2.heap.size) (Nat.le_refl _) (by simp) (by simp) (.inr (Nat.le_refl _)))
  have HLX3 := Lib.hid (Loc.new (c0.set g g) w2 24 #[.int .i64 (v1 : Int), .int .i64 0, .int .i64 0, .slice none 0 0, .slice none 0 0, .int .i64 0])
  generalize hcx : (c0.set g g).set w2.heap.size w2.heap.size = c2 at HAX HLX3
  clear hcx
  have HT3 := Lib.hid (HT2.out.then HAX.out)
  have HLR3 := Lib.hid (HLR2.out.tr HAX.out (fun h => h))
  have HW3 := Lib.hid (HW2.out.tr HAX.out (fun h => h))
  have hk5 : w.heap.size ≤ w2.heap.size := HT2.out.size
  have hg5 : g < w2.heap.size := HW2.out.lt
  generalize hkx : w2.heap.size = kx at HAX HLX3 HT3 HLR3 HW3 hk5 hg5
  have hgk : g ≠ kx := by omega
  have hkg : kx ≠ g := by omega
  have hwk : w.heap.size ≠ kx := by have := HG.out; omega
  go_wp2_with fail
  refine (rNum_eq _ c2 g r1 4 v2 r2 H2.out HT3.out.wf HW3.out).mono ?_
  rintro e w4 ⟨rfl, q_HA4, q_HW4⟩
  have HA4 := Lib.hid q_HA4
  have HW4 := Lib.hid q_HW4
  clear q_HA4 q_HW4
  have HT4 := Lib.hid (HT3.out.low HA4.out hgle)
  have HLX4 := Lib.hid (HLX3.out.tr HA4.out hkg)
  have HLR4 := Lib.hid (HLR3.out.tr HA4.out hgw')
  have f5 := HLX4.out.frozen 1
  have e5 := HLX4.out.cell 1
  have HA5 := Lib.hid ((Tr.refl (· = kx) HT4.out.wf).setCell (p := ⟨kx, 1, none⟩) HLX4.out.1 (.inl rfl) (.int .i64 (v2 : Int)))
  have HLX5 := Lib.hid (HLX4.out.set_ 1 (.int .i64 (v2 : Int)))
  have HT5 := Lib.hid (HT4.out.low HA5.out hk5)
  have HLR5 := Lib.hid (HLR4.out.tr HA5.out hwk)
  have HW5 := Lib.hid (HW4.out.tr HA5.out hgk)
  go_wp2_with fail
  refine (rNum_eq _ c2 g r2 1 v3 r3 H3.out HT5.out.wf HW5.out).mono ?_
  rintro e w6 ⟨rfl, q_HA6, q_HW6⟩
  have HA6 := Lib.hid q_HA6
  have HW6 := Lib.hid q_HW6
  clear q_HA6 q_HW6
  have HT6 := Lib.hid (HT5.out.low HA6.out hgle)
  have HLX6 := Lib.hid (HLX5.out.tr HA6.out hkg)
  have HLR6 := Lib.hid (HLR5.out.tr HA6.out hgw')
  clear f5 e5
  have f7 := HLX6.out.frozen 2
  have e7 := HLX6.out.cell 2
  have HA7 := Lib.hid ((Tr.refl (· = kx) HT6.out.wf).setCell (p := ⟨kx, 2, none⟩) HLX6.out.1 (.inl rfl) (.int .i64 (v3 : Int)))
  have HLX7 := Lib.hid (HLX6.out.set_ 2 (.int .i64 (v3 : Int)))
  have HT7 := Lib.hid (HT6.out.low HA7.out hk5)
  have HLR7 := Lib.hid (HLR6.out.tr HA7.out hwk)
  have HW7 := Lib.hid (HW6.out.tr HA7.out hgk)
  go_wp2_with fail
  refine (number_eq _ c2 g r3 v4 r4 H4.out HT7.out.wf HW7.out).mono ?_
  rintro e w8 ⟨rfl, q_HA8, q_HW8⟩
  have HA8 := Lib.hid q_HA8
  have HW8 := Lib.hid q_HW8
  clear q_HA8 q_HW8
  have HT8 := Lib.hid (HT7.out.low HA8.out hgle)
  have HLX8 := Lib.hid (HLX7.out.tr HA8.out hkg)
  have HLR8 := Lib.hid (HLR7.out.tr HA8.out hgw')
  clear f7 e7
  have f9 := HLX8.out.frozen 5
  have e9 := HLX8.out.cell 5
  have HA9 := Lib.hid ((Tr.refl (· = kx) HT8.out.wf).setCell (p := ⟨kx, 5, none⟩) HLX8.out.1 (.inl rfl) (.int .i64 v4))
  have HLX9 := Lib.hid (HLX8.out.set_ 5 (.int .i64 v4))
  have HT9 := Lib.hid (HT8.out.low HA9.out hk5)
  have HLR9 := Lib.hid (HLR8.out.tr HA9.out hwk)
  have HW9 := Lib.hid (HW8.out.tr HA9.out hgk)
  go_wp2_with fail
  refine (some_eq _ c2 g r4 p r5 H5.out (by have := Q1.out; have := Q2.out; have := Q3.out; have := Q4.out; omega) HT9.out.wf HW9.out).mono ?_
  rintro e w10 ⟨A10, n10, cp10, rfl, q_HA10, q_HW10, q_HRP10⟩
  have HA10 := Lib.hid q_HA10
  have HW10 := Lib.hid q_HW10
  have HRP10 := Lib.hid q_HRP10
  clear q_HA10 q_HW10 q_HRP10
  have HT10 := Lib.hid (HT9.out.low HA10.out hgle)
  have HLX10 := Lib.hid (HLX9.out.tr HA10.out hkg)
  have HLR10 := Lib.hid (HLR9.out.tr HA10.out hgw')
  clear f9 e9
  have f11 := HLX10.out.frozen 3
  have e11 := HLX10.out.cell 3
  have HA11 := Lib.hid ((Tr.refl (· = kx) HT10.out.wf).setCell (p := ⟨kx, 3, none⟩) HLX10.out.1 (.inl rfl) (.slice A10 n10 cp10))
  have HLX11 := Lib.hid (HLX10.out.set_ 3 (.slice A10 n10 cp10))
  have HT11 := Lib.hid (HT10.out.low HA11.out hk5)
  have HLR11 := Lib.hid (HLR10.out.tr HA11.out hwk)
  have HW11 := Lib.hid (HW10.out.tr HA11.out hgk)
  have HRP11 := Lib.hid (HRP10.out.tr HA11.out)
  go_wp2_with fail
  refine (some_eq _ c2 g r5 t r6 H6.out (by have := Q1.out; have := Q2.out; have := Q3.out; have := Q4.out; have := Q5.out; omega) HT11.out.wf HW11.out).mono ?_
  rintro e w12 ⟨A12, n12, cp12, rfl, q_HA12, q_HW12, q_HRT12⟩
  have HA12 := Lib.hid q_HA12
  have HW12 := Lib.hid q_HW12
  have HRT12 := Lib.hid q_HRT12
  clear q_HA12 q_HW12 q_HRT12
  have HT12 := Lib.hid (HT11.out.low HA12.out hgle)
  have HLX12 := Lib.hid (HLX11.out.tr HA12.out hkg)
  have HLR12 := Lib.hid (HLR11.out.tr HA12.out hgw')
  have HRP12 := Lib.hid (HRP11.out.tr HA12.out)
  clear f11 e11
  have f13 := HLX12.out.frozen 4
  have e13 := HLX12.out.cell 4
  have HA13 := Lib.hid ((Tr.refl (· = kx) HT12.out.wf).setCell (p := ⟨kx, 4, none⟩) HLX12.out.1 (.inl rfl) (.slice A12 n12 cp12))
  have HLX13 := Lib.hid (HLX12.out.set_ 4 (.slice A12 n12 cp12))
  have HT13 := Lib.hid (HT12.out.low HA13.out hk5)
  have HLR13 := Lib.hid (HLR12.out.tr HA13.out hwk)
  have HW13 := Lib.hid (HW12.out.tr HA13.out hgk)
  have HRP13 := Lib.hid (HRP12.out.tr HA13.out)
  have HRT13 := Lib.hid (HRT12.out.tr HA13.out)
  generalize hfin : r6.fin = fin at HGT
  have HFIN := Lib.hid hfin
  clear hfin
  go_wp2_with fail
  refine (rEnd_eq _ c2 g r6 fin HFIN.out HT13.out.wf HW13.out).mono ?_
  rintro e w14 ⟨rfl, q_HA14, q_HW14⟩
  have HA14 := Lib.hid q_HA14
  have HW14 := Lib.hid q_HW14
  clear q_HA14 q_HW14
  have HT14 := Lib.hid (HT13.out.low HA14.out hgle)
  have HLX14 := Lib.hid (HLX13.out.tr HA14.out hkg)
  have HLR14 := Lib.hid (HLR13.out.tr HA14.out hgw')
  have HRP14 := Lib.hid (HRP13.out.tr HA14.out)
  have HRT14 := Lib.hid (HRT13.out.tr HA14.out)
  clear f13 e13
  by_cases hf : fin = 0
  · subst hf
    have x0 := HLX14.out.cell 0
    have x1 := HLX14.out.cell 1
    have x2 := HLX14.out.cell 2
    have x3 := HLX14.out.cell 3
    have x4 := HLX14.out.cell 4
    have x5 := HLX14.out.cell 5
    cases hmay : mayR ⟨v1, v2, v3, p, t, v4⟩ with
    | true =>
      have HM := Lib.hid hmay
      have HRES : Hid ((xr, okr) = ((⟨v1, v2, v3, p, t, v4⟩ : Req), true)) := by show _ = _; rw [HGT.out, if_pos ⟨rfl, hmay⟩]
      clear hmay
      go_wp2_with fail
      refine (bool_eq HM.out (r6MayR_any w14 c2 ⟨v1, v2, v3, p, t, v4⟩ A10 n10 cp10 A12 n12 cp12 HRP14.out HRT14.out)).mono ?_
      rintro e w15 ⟨rfl, q_HB15⟩
      have HB15 := Lib.hid q_HB15
      clear q_HB15
      have HS15 := Lib.hid (Tr.of_below (M := fun _ => False) HT14.out.wf HB15.out)
      have HT15 := Lib.hid (HT14.out.then HS15.out)
      have HLX15 := Lib.hid (HLX14.out.tr HS15.out (fun h => h))
      have HLR15 := Lib.hid (HLR14.out.tr HS15.out (fun h => h))
      have HRP15 := Lib.hid (HRP14.out.tr HS15.out)
      have HRT15 := Lib.hid (HRT14.out.tr HS15.out)
      clear x0 x1 x2 x3 x4 x5
      have y0 := HLX15.out.cell 0
      have y1 := HLX15.out.cell 1
      have y2 := HLX15.out.cell 2
      have y3 := HLX15.out.cell 3
      have y4 := HLX15.out.cell 4
      have y5 := HLX15.out.cell 5
      have z0 := HLR15.out.cell 0
      have z1 := HLR15.out.cell 1
      have z2 := HLR15.out.cell 2
      have z3 := HLR15.out.cell 3
      have z4 := HLR15.out.cell 4
      have z5 := HLR15.out.cell 5
      have k0 := HLR15.out.frozen 0
      have k1 := HLR15.out.frozen 1
      have k2 := HLR15.out.frozen 2
      have k3 := HLR15.out.frozen 3
      have k4 := HLR15.out.frozen 4
      have k5 := HLR15.out.frozen 5
      go_wp2_with fail
      refine bodyPost_ret (v := .tuple #[rV ⟨v1, v2, v3, p, t, v4⟩ A10 n10 cp10 A12 n12 cp12, .int .i64 0]) (by simp [results, Try.results15, go_sem, z0, z1, z2, z3, z4, z5]) rfl ?_
      have hrs := HRES.out
      simp only [Prod.mk.injEq] at hrs
      obtain ⟨rfl, rfl⟩ := hrs
      have hvr := HVR.out
      rw [if_pos rfl] at hvr
      subst hvr
      have htf := set6_tr HT15.out HLR15.out.1 (.inr (Nat.le_refl _)) (.int .i64 v1) (.int .i64 v2) (.int .i64 v3) (.slice A10 n10 cp10) (.slice A12 n12 cp12) (.int .i64 v4)
      have hsf := set6_tr (Tr.refl (· = w.heap.size) HT15.out.wf) HLR15.out.1 (.inl rfl) (.int .i64 v1) (.int .i64 v2) (.int .i64 v3) (.slice A10 n10 cp10) (.slice A12 n12 cp12) (.int .i64 v4)
      exact ⟨A10, n10, cp10, A12, n12, cp12, rfl, ((HRP15.out.tr hsf).back htf), ((HRT15.out.tr hsf).back htf), htf.below fun _ _ h => h⟩
    | false =>
      have HM := Lib.hid hmay
      have HRES : Hid ((xr, okr) = (Req.zero, false)) := by show _ = _; rw [HGT.out, if_neg (by rw [hmay]; simp)]
      clear hmay
      go_wp2_with fail
      refine (bool_eq HM.out (r6MayR_any w14 c2 ⟨v1, v2, v3, p, t, v4⟩ A10 n10 cp10 A12 n12 cp12 HRP14.out HRT14.out)).mono ?_
      rintro e w15 ⟨rfl, q_HB15⟩
      have HB15 := Lib.hid q_HB15
      clear q_HB15
      have HS15 := Lib.hid (Tr.of_below (M := fun _ => False) HT14.out.wf HB15.out)
      have HT15 := Lib.hid (HT14.out.then HS15.out)
      have HLR15 := Lib.hid (HLR14.out.tr HS15.out (fun h => h))
      clear x0 x1 x2 x3 x4 x5
      have z0 := HLR15.out.cell 0
      have z1 := HLR15.out.cell 1
      have z2 := HLR15.out.cell 2
      have z3 := HLR15.out.cell 3
      have z4 := HLR15.out.cell 4
      have z5 := HLR15.out.cell 5
      have k0 := HLR15.out.frozen 0
      have k1 := HLR15.out.frozen 1
      have k2 := HLR15.out.frozen 2
      have k3 := HLR15.out.frozen 3
      have k4 := HLR15.out.frozen 4
      have k5 := HLR15.out.frozen 5
      go_wp2_with fail
      refine bodyPost_ret (v := .tuple #[rV Req.zero none 0 0 none 0 0, .int .i64 2]) (by simp [results, Try.results15, go_sem, z0, z1, z2, z3, z4, z5, Req.zero]) rfl ?_
      have hrs := HRES.out
      simp only [Prod.mk.injEq] at hrs
      obtain ⟨rfl, rfl⟩ := hrs
      have hvr := HVR.out
      rw [if_neg (by simp)] at hvr
      subst hvr
      have htf := set6_tr HT15.out HLR15.out.1 (.inr (Nat.le_refl _)) (.int .i64 0) (.int .i64 0) (.int .i64 0) (.slice none 0 0) (.slice none 0 0) (.int .i64 0)
      exact ⟨none, 0, 0, none, 0, 0, rfl, Rd.nil _ _ _, Rd.nil _ _ _, htf.below fun _ _ h => h⟩
  · have hb1 : (fin != 0) = true := by simp [hf]
    have HRES : Hid ((xr, okr) = (Req.zero, false)) := by show _ = _; rw [HGT.out, if_neg (fun h => hf h.1)]
    clear hf
    have z0 := HLR14.out.cell 0
    have z1 := HLR14.out.cell 1
    have z2 := HLR14.out.cell 2
    have z3 := HLR14.out.cell 3
    have z4 := HLR14.out.cell 4
    have z5 := HLR14.out.cell 5
    have k0 := HLR14.out.frozen 0
    have k1 := HLR14.out.frozen 1
    have k2 := HLR14.out.frozen 2
    have k3 := HLR14.out.frozen 3
    have k4 := HLR14.out.frozen 4
    have k5 := HLR14.out.frozen 5
    go_wp2_with fail
    refine bodyPost_ret (v := .tuple #[rV Req.zero none 0 0 none 0 0, .int .i64 2]) (by simp [results, Try.results15, go_sem, z0, z1, z2, z3, z4, z5, Req.zero]) rfl ?_
    have hrs := HRES.out
    simp only [Prod.mk.injEq] at hrs
    obtain ⟨rfl, rfl⟩ := hrs
    have hvr := HVR.out
    rw [if_neg (by simp)] at hvr
    subst hvr
    have htf := set6_tr HT14.out HLR14.out.1 (.inr (Nat.le_refl _)) (.int .i64 0) (.int .i64 0) (.int .i64 0) (.slice none 0 0) (.slice none 0 0) (.int .i64 0)
    exact ⟨none, 0, 0, none, 0, 0, rfl, Rd.nil _ _ _, Rd.nil _ _ _, htf.below fun _ _ h => h⟩
end Go.Proofs.Ytcdapcljpkohbaa
