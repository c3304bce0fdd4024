/- ref6: GetFields. -/
import Derived.Test.YtladpckbajnbeaaRefR
import Derived.Test.YtladpckbajnbeaaRef6A
import Derived.Test.YtladpckbajnbeaaTupD
set_option linter.unusedVariables false
set_option linter.unusedSimpArgs false
namespace Go.Proofs.Ytladpckbajnbeaa
open Go.RowKit

theorem rNum_eq (w : World) (c : Col) (g : Nat) (r : RS) (n : Int) (v : Nat) (r' : RS) (h : r.num n = (v, r')) (hw : Wf c w) (hW : Rf w c g r) :
    Calls Try.prog 63 #[.pointer (some ⟨g, 0, none⟩), .int .i64 n] w (RfPost w c g (.int .u64 (v : Nat)) r') := by
  have := rNum_any w c g r n hw hW
  rw [h] at this
  exact this
theorem rText_eq (w : World) (c : Col) (g : Nat) (r : RS) (most : Int) (out : List UInt8) (r' : RS) (h : r.text most = (out, r')) (hm0 : 0 ≤ most) (hm : most ≤ 9223372036854775807) (hw : Wf c w) (hW : Rf w c g r) :
    Calls Try.prog 64 #[.pointer (some ⟨g, 0, none⟩), .int .i64 most] w (RaPost w c g out r') := by
  have := rText_any w c g r most hm0 hm hw hW
  rw [h] at this
  exact this
theorem rEnd_eq (w : World) (c : Col) (g : Nat) (r : RS) (n : Int) (h : r.fin = n) (hw : Wf c w) (hW : Rf w c g r) :
    Calls Try.prog 65 #[.pointer (some ⟨g, 0, none⟩)] w (RfPost w c g (.int .i64 n) r) := by
  have := rEnd_any w c g r hw hW
  rw [h] at this
  exact this
theorem Rf.block {w : World} {c : Col} {g : Nat} {r : RS} (h : Rf w c g r) : ∃ A n cp, w.heap[g]? = some (.cells #[.slice A n cp, .bool r.wrong] 108 (0, 0)) := by
  obtain ⟨_, A, n, cp, hb, _⟩ := h
  exact ⟨A, n, cp, hb⟩
theorem Rf.app {W w1 : World} {c1 c2 : Col} {g : Nat} {r : RS} {e : TypeId} (h : Rf W c1 g r) (hne : 108 ≠ e)
    (hk : ∀ (b : Nat) (t' : TypeId) (cs : Array Value) (fr : Nat × Nat), t' ≠ e → W.heap[b]? = some (.cells cs t' fr) → w1.heap[b]? = some (.cells cs t' fr)) (k : Kp c1 c2 W w1) (hc : ∀ k, k < W.heap.size → c2 k = c1 k) : Rf w1 c2 g r := by
  have hl := h.lt
  obtain ⟨h1, A, n, cp, hb, hr⟩ := h
  exact ⟨by rw [hc g hl]; exact h1, A, n, cp, hk g _ _ _ hne hb, hr.app k⟩
theorem Rf_new {w : World} {c : Col} {A : Option Addr} {n cp : Nat} {b : List UInt8} (hw : Wf c w) (hx : Rd kU8 w c A n cp b) :
    Tr (fun _ => False) c (c.set w.heap.size w.heap.size) w (w.alloc (.cells #[.slice A n cp, .bool false] 108)) ∧ Rf (w.alloc (.cells #[.slice A n cp, .bool false] 108)) (c.set w.heap.size w.heap.size) w.heap.size ⟨b, false⟩ :=
  ⟨(Tr.new hw _).hot (Nat.le_refl _) (by simp) (by simp) (.inr (Nat.le_refl _)), Col.set_same _ _ _, A, n, cp, heap_alloc_new _ _, by simpa using hx.hot_new (.cells #[.slice A n cp, .bool false] 108) w.heap.size⟩

theorem getFlds_len (k : Nat) : ∀ r : RS, (getFlds k r).1.length = k := by
  induction k with
  | zero => intro r; rfl
  | succ k ih => intro r; simp [getFlds, ih]
theorem RS.num_bad {r : RS} (h : r.wrong = true) (n : Int) : (r.num n).2.wrong = true := by
  unfold RS.num; rw [if_neg (by simp [h])]
theorem RS.raw_bad {r : RS} (h : r.wrong = true) (n : Int) : (r.raw n).2.wrong = true := by
  unfold RS.raw; rw [if_neg (by simp [h])]
theorem RS.text_bad {r : RS} (h : r.wrong = true) (n : Int) : (r.text n).2.wrong = true := RS.raw_bad (RS.num_bad h 4) _
theorem getFld_wrong {r : RS} (h : r.wrong = true) : (getFld r).2.wrong = true := by
  unfold getFld
  have h1 := RS.num_bad h 1
  split
  · exact RS.num_bad h1 8
  · split
    · exact RS.text_bad h1 40
    · exact h1
theorem getFlds_wrong (k : Nat) : ∀ {r : RS}, r.wrong = true → (getFlds k r).2.wrong = true := by
  induction k with
  | zero => intro r h; exact h
  | succ k ih => intro r h; exact ih (getFld_wrong h)
theorem fin_wrong {r : RS} (h : r.wrong = true) : r.fin = 2 := by unfold RS.fin; rw [if_neg (by simp [h])]
theorem mayTB_long {d : List Fld} (h : 6 < d.length) : mayTB d = false := by unfold mayTB; rw [decide_eq_false (p := d.length ≤ 6) (by omega)]; simp
/-- Where the document's loop ends: the same is told. -/
theorem tupGet_at {b : List UInt8} {m0 m : Nat} {r0 r : RS} {d : List Fld} (hq : RS.num ⟨b, false⟩ 1 = (m0, r0)) (hm : d.length + m = m0) (hg : getFlds m0 r0 = (d ++ (getFlds m r).1, (getFlds m r).2)) (he : m = 0 ∨ r.wrong = true) :
    tupGet b = if r.fin = 0 ∧ mayTB d = true then (d, true) else ([], false) := by
  unfold tupGet
  rw [hq]
  simp only
  by_cases h7 : m0 ≤ 7
  · rw [show min m0 7 = m0 by omega, hg]
    simp only
    rcases he with rfl | hw
    · simp [getFlds]
    · rw [fin_wrong (getFlds_wrong m hw), fin_wrong hw]
      simp
  · rw [show min m0 7 = 7 by omega, if_neg (by rw [mayTB_long (by rw [getFlds_len]; omega)]; simp), if_neg]
    rintro ⟨h1, h2⟩
    rcases he with rfl | hw
    · rw [mayTB_long (by omega)] at h2
      cases h2
    · rw [fin_wrong hw] at h1
      cases h1

set_option maxHeartbeats 4000000 in
theorem r6Get_any (w : World) (c : Col) (A : Option Addr) (n cp : Nat) (b : List UInt8) (hw : Wf c w) (hl : n ≤ 1000000000000) (hx : Rd kU8 w c A n cp b) :
    Calls Try.prog 45 #[.slice A n cp] w (GetPost w c (tupGet b)) := by
  have hln := hx.1
  obtain ⟨ht0, hW0⟩ := Rf_new hw hx
  have HX := Lib.hid hx
  have HL := Lib.hid hln
  have HF := Lib.hid hw
  have HT0 := Lib.hid ht0
  have HW0 := Lib.hid hW0
  clear hx hln hw ht0 hW0
  obtain ⟨g, HG0⟩ : ∃ g, Hid (g = w.heap.size) := ⟨_, rfl⟩
  have hg : w.heap.size ≤ g := by have := HG0.out; omega
  go_enter Try.func45, Try.ntmps45
  go_wp2_with fail
  rw [← HG0.out] at HT0 HW0 ⊢
  refine (rNum_any _ (c.set g g) g ⟨b, false⟩ 1 HT0.out.wf HW0.out).mono ?_
  rintro e w2 ⟨rfl, q_HA2, q_HW2⟩
  have HA2 := Lib.hid q_HA2
  have HW2 := Lib.hid q_HW2
  clear q_HA2 q_HW2
  have HT2 := Lib.hid (HT0.out.low HA2.out hg)
  have hq1 := RS.num1_lt ⟨b, false⟩
  have HQL := Lib.hid (RS.num_le ⟨b, false⟩ 1)
  generalize hq : RS.num ⟨b, false⟩ 1 = q at *
  obtain ⟨m0, r0⟩ := q
  have HQ := Lib.hid hq
  clear hq
  dsimp only at *
  have hmx0 : m0 ≤ 255 := by omega
  clear hq1
  go_wp2_with fail
  go_loopw [6, 7] (fun o i wr => ∃ (m : Nat) (d : List Fld) (r : RS) (c1 : Col) (A1 : Option Addr) (cp1 : Nat), i = .int .i64 (d.length : Int) ∧ o = .slice A1 d.length cp1 ∧ d.length + m = m0 ∧ Hid (getFlds m0 r0 = (d ++ (getFlds m r).1, (getFlds m r).2)) ∧ Hid (r.xs.length ≤ 1000000000000) ∧ Hid (∀ x ∈ d, x.ok) ∧
      Hid (Tr (fun _ => False) c c1 w wr) ∧ Hid (Rf wr c1 g r) ∧ Hid (OwnR wr c1 w.heap.size 54 3 A1 d.length cp1 (d.flatMap fCells))) (fun _ i _ => m0 - (intOf i).toNat)
  case atStart =>
    exact ⟨m0, [], r0, c.set g g, none, 0, rfl, rfl, by simp, by show _ = _; simp, by show _ ≤ _; have := HQL.out; have := HL.out; simp at *; omega, by intro x hx; simp at hx, HT2.out, HW2.out, OwnR.nil _ _ _ _ _⟩
  case round =>
    obtain ⟨m, d, r, c1, A1, cp1, rfl, rfl, hdm, hget, hrl, hok, ht, hR, ho⟩ := hrel
    obtain ⟨Ab, nb, cpb, hblk⟩ := hR.out.block
    have hc1 := blk_cell1 hblk
    have HBLK := Lib.hid hblk
    clear hblk
    have hcase : (m = 0 ∧ True) ∨ (0 < m ∧ r.wrong = true) ∨ (0 < m ∧ r.wrong = false) := by cases r.wrong <;> simp <;> omega
    rw [← or_assoc] at hcase
    rcases hcase with hend | ⟨h0, hgd⟩
    · have HPOST := Lib.hid (tupGet_at HQ.out hdm hget.out (by rcases hend with ⟨h, _⟩ | ⟨_, h⟩; exact .inl h; exact .inr h))
      have htw := ht.out.size
      rcases hend with ⟨rfl, _⟩ | ⟨h0, hbad⟩
      case' inr => rw [hbad] at hc1
      all_goals
        generalize hfin : r.fin = fin at HPOST
        have HFIN := Lib.hid hfin
        clear hfin
        go_wp2_with fail
        refine (rEnd_eq wr c1 g r fin HFIN.out ht.out.wf hR.out).mono ?_
        rintro e w3 ⟨rfl, q_HA3, q_HW3⟩
        have HA3 := Lib.hid q_HA3
        have HW3 := Lib.hid q_HW3
        clear q_HA3 q_HW3
        have HT3 := Lib.hid (ht.out.low HA3.out hg)
        have HO3 := Lib.hid (ho.out.tr HA3.out HBLK.out (by decide))
        have HRD := Lib.hid (HO3.out.rd (K := kFld) (c0 := c) rfl (fun k hk => HF.out.fresh hk) (fun k x hx => flds_rep hok.out k x hx))
        have HB3 := Lib.hid (HT3.out.below fun _ _ h => h)
        by_cases hf0 : fin = 0
        · subst hf0
          have HM := Lib.hid (r6MayP_any w3 c A1 d.length cp1 d HRD.out)
          cases hmay : mayTB d with
          | true =>
            rw [hmay] at HM
            have HP : Hid (tupGet b = (d, true)) := by show _ = _; rw [HPOST.out, if_pos ⟨rfl, hmay⟩]
            clear hmay HPOST
            go_wp2_with fail
            refine (HM.out).mono ?_
            rintro e w4 ⟨rfl, q_HB4⟩
            have HB4 := Lib.hid q_HB4
            clear q_HB4
            go_wp2_with fail
            go_ret2
            rw [HP.out]
            refine ⟨below_then HB3.out HB4.out, A1, d.length, cp1, rfl, HRD.out.below HB4.out⟩
          | false =>
            rw [hmay] at HM
            have HP : Hid (tupGet b = ([], false)) := by show _ = _; rw [HPOST.out, if_neg (by rw [hmay]; simp)]
            clear hmay HPOST
            go_wp2_with fail
            refine (HM.out).mono ?_
            rintro e w4 ⟨rfl, q_HB4⟩
            have HB4 := Lib.hid q_HB4
            clear q_HB4
            go_wp2_with fail
            refine bodyPost_ret (results_tmp2 rfl _ _ _) rfl ?_
            rw [HP.out]
            refine ⟨below_then HB3.out HB4.out, none, 0, 0, rfl, Rd.nil _ _ _⟩
        · have hb0 : (fin == 0) = false := by simpa using hf0
          have HP : Hid (tupGet b = ([], false)) := by show _ = _; rw [HPOST.out, if_neg (fun h => hf0 h.1)]
          clear HPOST
          go_wp2_with fail
          refine bodyPost_ret (results_tmp2 rfl _ _ _) rfl ?_
          rw [HP.out]
          refine ⟨HB3.out, none, 0, 0, rfl, Rd.nil _ _ _⟩
    · obtain ⟨j, rfl⟩ : ∃ j, m = j + 1 := ⟨m - 1, by omega⟩
      rw [hgd] at hc1
      clear Ab nb cpb HBLK
      have hd7 : d.length ≤ 255 := by omega
      have hn1 := r.num1_lt
      have HN1 := Lib.hid (r.num_le 1)
      generalize hq : r.num 1 = q at hn1 HN1
      obtain ⟨kd, r1⟩ := q
      have HQ1 := Lib.hid hq
      clear hq
      dsimp only at hn1 HN1
      go_wp2_with fail
      refine (rNum_eq wr c1 g r 1 kd r1 HQ1.out ht.out.wf hR.out).mono ?_
      rintro e w3 ⟨rfl, q_HA3, q_HW3⟩
      have HA3 := Lib.hid q_HA3
      have HW3 := Lib.hid q_HW3
      clear q_HA3 q_HW3
      have HT3 := Lib.hid (ht.out.low HA3.out hg)
      obtain ⟨Ar, nr, cpr, hrb⟩ := hR.out.block
      have HO3 := Lib.hid (ho.out.tr HA3.out hrb (by decide))
      have hgl := HW3.out.lt
      have hs3 := HT3.out.size
      clear hrb Ar nr cpr
      have HRB3 := Lib.hid HW3.out.block
      have HGF : Hid (getFlds (j + 1) r = ((getFld r).1 :: (getFlds j (getFld r).2).1, (getFlds j (getFld r).2).2)) := rfl
      have HFE : Hid (getFld r = if kd = 1 then (⟨1, wrap64 (r1.num 8).1, []⟩, (r1.num 8).2) else if kd = 2 then (⟨2, 0, (r1.text 40).1⟩, (r1.text 40).2) else (⟨kd, 0, []⟩, r1)) := by
        show _ = _
        unfold getFld
        rw [HQ1.out]
      have HOKF := Lib.hid (getFld_ok r hrl.out)
      have HLEF := Lib.hid (getFld_le r)
      generalize hfr : getFld r = fr at HGF HFE HOKF HLEF
      obtain ⟨x, r9⟩ := fr
      clear hfr
      dsimp only at HGF
      -- the new field's block, coloured
      have hL0 := Loc.new c1 w3 54 #[.int .i64 (kd : Int), .int .i64 0, .string ⟨#[]⟩]
      have hT0 : Tr (· = g) c1 (c1.set w3.heap.size w3.heap.size) w3 (w3.alloc (.cells #[.int .i64 (kd : Int), .int .i64 0, .string ⟨#[]⟩] 54)) := ((Tr.refl _ HT3.out.wf).alloc _).hot (Nat.le_refl _) (by simp) (by simp) (.inr (Nat.le_refl _))
      have hR0 := HW3.out.tr ((Tr.new HT3.out.wf (.cells #[.int .i64 (kd : Int), .int .i64 0, .string ⟨#[]⟩] 54)).hot (k := w3.heap.size) (g := w3.heap.size) (Nat.le_refl _) (by simp) (by simp) (.inr (Nat.le_refl _))) (fun h => h)
      generalize hc3 : c1.set w3.heap.size w3.heap.size = c3 at hL0 hT0 hR0
      have HL0 := Lib.hid hL0
      have HT0 := Lib.hid hT0
      have HR0 := Lib.hid hR0
      clear hL0 hT0 hR0
      clear hc3
      have hcase : kd = 1 ∨ kd = 2 ∨ (kd ≠ 1 ∧ kd ≠ 2) := by omega
      rcases hcase with rfl | rfl | ⟨hka, hkb⟩
      · rw [if_pos rfl] at HFE
        generalize hq8 : r1.num 8 = q8 at HFE
        obtain ⟨v8, r8⟩ := q8
        have HQ8 := Lib.hid hq8
        clear hq8
        have HX9 : Hid (x = ⟨1, wrap64 v8, []⟩) := (Prod.mk.inj HFE.out).1
        have HX9b : Hid (r9 = r8) := (Prod.mk.inj HFE.out).2
        go_wp2_with fail
        refine (rNum_eq _ c3 g r1 8 v8 r8 HQ8.out HT0.out.wf HR0.out).mono ?_
        rintro e w4 ⟨rfl, q_HA4, q_HW4⟩
        have HA4 := Lib.hid q_HA4
        have HW4 := Lib.hid q_HW4
        clear q_HA4 q_HW4
        have HT4 := Lib.hid (HT0.out.then HA4.out)
        have HL4 := Lib.hid (HL0.out.tr HA4.out (by omega))
        have e0 := HL4.out.cell 0
        have e1 := HL4.out.cell 1
        have e2 := HL4.out.cell 2
        have ef := HL4.out.frozen 1
        have hst := (Tr.refl (· = w3.heap.size) HT4.out.wf).setCell (p := ⟨w3.heap.size, 1, none⟩) HL4.out.1 (.inl rfl) (.int .i64 (wrap64 v8))
        have HT35 := Lib.hid (HT4.out.setCell (p := ⟨w3.heap.size, 1, none⟩) HL4.out.1 (.inr (Nat.le_refl _)) (.int .i64 (wrap64 v8)))
        have HT5 := Lib.hid (HT3.out.low HT35.out hg)
        obtain ⟨Ar, nr, cpr, hrb⟩ := HRB3.out
        have HO5 := Lib.hid (HO3.out.tr HT35.out hrb (by decide))
        clear hrb
        have HR5 := Lib.hid (HW4.out.tr hst (by omega))
        have HS5 := Lib.hid HT5.out.size
        clear hst
        go_wp2_with (at_builtin; go_must (refine app_one_self (lo := w.heap.size) (.tmp 45) (.tmp 47) 50 54 (.agg #[.int .i64 0, .int .i64 0, .string ⟨#[]⟩]) 3 32 rfl rfl Try.underlying50 fld_info rfl (by decide) (by decide) (d.flatMap fCells) _ rfl rfl (by first | rfl | (show Value.slice (some ⟨_, 0, none⟩) 1 1 = _; simp)) (by intro u hu; simp at hu; rcases hu with rfl | rfl | rfl <;> rfl) HT5.out HO5.out (Nat.le_refl _) HS5.out (by omega) ?_); intro A2 cp2 w6 c6 q_HT6 q_HO6 q_hkp q_kp6 q_hc6; have HT6 := Lib.hid q_HT6; have HO6 := Lib.hid q_HO6; have HR6 := Lib.hid (HR5.out.app (by decide) q_hkp q_kp6 q_hc6); clear q_HT6 q_HO6 q_hkp q_kp6 q_hc6)
        refine ⟨⟨j, d ++ [⟨1, wrap64 v8, []⟩], r8, c6, A2, cp2, by simp, by simp, by simp; omega, ?_, ?_, ?_, HT6.out, HR6.out, ?_⟩, by simp [intOf]; omega⟩
        · show _ = _
          rw [hget.out, HGF.out, HX9.out, HX9b.out]
          simp
        · show _ ≤ _
          have := HLEF.out
          rw [← HX9b.out]
          have := hrl.out
          omega
        · intro y hy
          rcases List.mem_append.1 hy with hy | hy
          · exact hok.out y hy
          · rw [List.mem_singleton.1 hy, ← HX9.out]
            exact HOKF.out
        · show OwnR _ _ _ _ _ _ _ _ _
          have := HO6.out
          simp only [List.flatMap_append, List.flatMap_singleton, List.length_append, List.length_singleton] at this ⊢
          exact this
      · rw [if_neg (by decide), if_pos rfl] at HFE
        generalize hq8 : r1.text 40 = q8 at HFE
        obtain ⟨v8, r8⟩ := q8
        have HQ8 := Lib.hid hq8
        clear hq8
        have HX9 : Hid (x = ⟨2, 0, v8⟩) := (Prod.mk.inj HFE.out).1
        have HX9b : Hid (r9 = r8) := (Prod.mk.inj HFE.out).2
        go_wp2_with fail
        refine (rText_eq _ c3 g r1 40 v8 r8 HQ8.out (by decide) (by decide) HT0.out.wf HR0.out).mono ?_
        rintro e w4 ⟨Ax, nx, cpx, rfl, q_HA4, q_HW4, q_HX4⟩
        have HA4 := Lib.hid q_HA4
        have HW4 := Lib.hid q_HW4
        have HX4 := Lib.hid q_HX4
        clear q_HA4 q_HW4 q_HX4
        have HT4 := Lib.hid (HT0.out.then HA4.out)
        have HL4 := Lib.hid (HL0.out.tr HA4.out (by omega))
        have e0 := HL4.out.cell 0
        have e1 := HL4.out.cell 1
        have e2 := HL4.out.cell 2
        have ef := HL4.out.frozen 2
        have hcs := conv_str (P := Try.prog) 24 9 5 Try.underlying24 Try.underlying5 Try.underlying9 HX4.out
        have hst := (Tr.refl (· = w3.heap.size) HT4.out.wf).setCell (p := ⟨w3.heap.size, 2, none⟩) HL4.out.1 (.inl rfl) (.string ⟨v8.toArray⟩)
        have HT35 := Lib.hid (HT4.out.setCell (p := ⟨w3.heap.size, 2, none⟩) HL4.out.1 (.inr (Nat.le_refl _)) (.string ⟨v8.toArray⟩))
        have HT5 := Lib.hid (HT3.out.low HT35.out hg)
        obtain ⟨Ar, nr, cpr, hrb⟩ := HRB3.out
        have HO5 := Lib.hid (HO3.out.tr HT35.out hrb (by decide))
        clear hrb
        have HR5 := Lib.hid (HW4.out.tr hst (by omega))
        have HS5 := Lib.hid HT5.out.size
        clear hst
        go_wp2_with (at_builtin; go_must (refine app_one_self (lo := w.heap.size) (.tmp 45) (.tmp 47) 50 54 (.agg #[.int .i64 0, .int .i64 0, .string ⟨#[]⟩]) 3 32 rfl rfl Try.underlying50 fld_info rfl (by decide) (by decide) (d.flatMap fCells) _ rfl rfl (by first | rfl | (show Value.slice (some ⟨_, 0, none⟩) 1 1 = _; simp)) (by intro u hu; simp at hu; rcases hu with rfl | rfl | rfl <;> rfl) HT5.out HO5.out (Nat.le_refl _) HS5.out (by omega) ?_); intro A2 cp2 w6 c6 q_HT6 q_HO6 q_hkp q_kp6 q_hc6; have HT6 := Lib.hid q_HT6; have HO6 := Lib.hid q_HO6; have HR6 := Lib.hid (HR5.out.app (by decide) q_hkp q_kp6 q_hc6); clear q_HT6 q_HO6 q_hkp q_kp6 q_hc6)
        refine ⟨⟨j, d ++ [⟨2, 0, v8⟩], r8, c6, A2, cp2, by simp, by simp, by simp; omega, ?_, ?_, ?_, HT6.out, HR6.out, ?_⟩, by simp [intOf]; omega⟩
        · show _ = _
          rw [hget.out, HGF.out, HX9.out, HX9b.out]
          simp
        · show _ ≤ _
          have := HLEF.out
          rw [← HX9b.out]
          have := hrl.out
          omega
        · intro y hy
          rcases List.mem_append.1 hy with hy | hy
          · exact hok.out y hy
          · rw [List.mem_singleton.1 hy, ← HX9.out]
            exact HOKF.out
        · show OwnR _ _ _ _ _ _ _ _ _
          have := HO6.out
          simp only [List.flatMap_append, List.flatMap_singleton, List.length_append, List.length_singleton] at this ⊢
          exact this
      · rw [if_neg hka, if_neg hkb] at HFE
        have HX9 : Hid (x = ⟨kd, 0, []⟩) := (Prod.mk.inj HFE.out).1
        have HX9b : Hid (r9 = r1) := (Prod.mk.inj HFE.out).2
        have hb1 : ((kd : Int) == 1) = false := by simp; omega
        have hb2 : ((kd : Int) == 2) = false := by simp; omega
        have e0 := HL0.out.cell 0
        have e1 := HL0.out.cell 1
        have e2 := HL0.out.cell 2
        have HT5 := Lib.hid (HT3.out.low HT0.out hg)
        obtain ⟨Ar, nr, cpr, hrb⟩ := HRB3.out
        have HO5 := Lib.hid (HO3.out.tr HT0.out hrb (by decide))
        clear hrb
        have HR5 := Lib.hid HR0.out
        have HS5 := Lib.hid HT5.out.size
        go_wp2_with (at_builtin; go_must (refine app_one_self (lo := w.heap.size) (.tmp 45) (.tmp 47) 50 54 (.agg #[.int .i64 0, .int .i64 0, .string ⟨#[]⟩]) 3 32 rfl rfl Try.underlying50 fld_info rfl (by decide) (by decide) (d.flatMap fCells) _ rfl rfl (by first | rfl | (show Value.slice (some ⟨_, 0, none⟩) 1 1 = _; simp)) (by intro u hu; simp at hu; rcases hu with rfl | rfl | rfl <;> rfl) HT5.out HO5.out (Nat.le_refl _) HS5.out (by omega) ?_); intro A2 cp2 w6 c6 q_HT6 q_HO6 q_hkp q_kp6 q_hc6; have HT6 := Lib.hid q_HT6; have HO6 := Lib.hid q_HO6; have HR6 := Lib.hid (HR5.out.app (by decide) q_hkp q_kp6 q_hc6); clear q_HT6 q_HO6 q_hkp q_kp6 q_hc6)
        refine ⟨⟨j, d ++ [⟨kd, 0, []⟩], r1, c6, A2, cp2, by simp, by simp, by simp; omega, ?_, ?_, ?_, HT6.out, HR6.out, ?_⟩, by simp [intOf]; omega⟩
        · show _ = _
          rw [hget.out, HGF.out, HX9.out, HX9b.out]
          simp
        · show _ ≤ _
          have := HLEF.out
          rw [← HX9b.out]
          have := hrl.out
          omega
        · intro y hy
          rcases List.mem_append.1 hy with hy | hy
          · exact hok.out y hy
          · rw [List.mem_singleton.1 hy, ← HX9.out]
            exact HOKF.out
        · show OwnR _ _ _ _ _ _ _ _ _
          have := HO6.out
          simp only [List.flatMap_append, List.flatMap_singleton, List.length_append, List.length_singleton] at this ⊢
          exact this
end Go.Proofs.Ytladpckbajnbeaa
