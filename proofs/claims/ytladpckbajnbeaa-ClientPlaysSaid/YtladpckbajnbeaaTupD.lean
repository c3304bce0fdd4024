/- tuple.Get: what it does. -/
import Derived.Test.YtladpckbajnbeaaTupC
set_option linter.unusedVariables false
set_option linter.unusedSimpArgs false
namespace Go.Proofs.Ytladpckbajnbeaa
open Go.RowKit

def getFld (r : RS) : Fld × RS :=
  if (r.num 1).1 = 1 then (⟨1, wrap64 ((r.num 1).2.num 8).1, []⟩, ((r.num 1).2.num 8).2)
  else if (r.num 1).1 = 2 then (⟨2, 0, ((r.num 1).2.text 40).1⟩, ((r.num 1).2.text 40).2)
  else (⟨(r.num 1).1, 0, []⟩, (r.num 1).2)
def getFlds : Nat → RS → List Fld × RS
  | 0, r => ([], r)
  | k + 1, r => ((getFld r).1 :: (getFlds k (getFld r).2).1, (getFlds k (getFld r).2).2)
/-- What Get tells: the fields and true, or false. -/
def tupGet (b : List UInt8) : List Fld × Bool :=
  let q := RS.num ⟨b, false⟩ 1
  let p := getFlds (min q.1 7) q.2
  if p.2.fin = 0 ∧ mayTB p.1 = true then (p.1, true) else ([], false)

theorem RS.num1_lt (r : RS) : (r.num 1).1 < 256 := by
  unfold RS.num
  split
  · rename_i h
    have := beNat_lt (r.xs.take (1 : Int).toNat)
    rw [List.length_take] at this
    have h4 : min (1 : Int).toNat r.xs.length = 1 := by have := h.2.2.2; omega
    rw [h4] at this
    simpa using this
  · simp
theorem RS.num8_lt (r : RS) : (r.num 8).1 < 18446744073709551616 := by
  unfold RS.num
  split
  · rename_i h
    have := beNat_lt (r.xs.take (8 : Int).toNat)
    rw [List.length_take] at this
    have h4 : min (8 : Int).toNat r.xs.length = 8 := by have := h.2.2.2; omega
    rw [h4] at this
    simpa using this
  · simp
theorem wrap64_ok (x : Int) : -9223372036854775808 ≤ wrap64 x ∧ wrap64 x ≤ 9223372036854775807 := by unfold wrap64; omega
theorem RS.raw_out (r : RS) (n : Int) : (r.raw n).1.length ≤ r.xs.length := by
  unfold RS.raw; split
  · simp; omega
  · simp
theorem RS.text_out (r : RS) (most : Int) : (r.text most).1.length ≤ r.xs.length := Nat.le_trans (RS.raw_out _ _) (RS.num_le r 4)
theorem RS.raw_le' (r : RS) (n : Int) : (r.raw n).2.xs.length ≤ r.xs.length := by
  unfold RS.raw; split
  · simp
  · simp
theorem RS.text_le' (r : RS) (most : Int) : (r.text most).2.xs.length ≤ r.xs.length := Nat.le_trans (RS.raw_le' _ _) (RS.num_le r 4)
theorem getFld_ok (r : RS) (hr : r.xs.length ≤ 1000000000000) : (getFld r).1.ok := by
  unfold getFld Fld.ok
  have h1 := r.num1_lt
  split
  · exact ⟨by simp, wrap64_ok _, by simp⟩
  · split
    · refine ⟨by simp, by simp, ?_⟩
      have := (r.num 1).2.text_out 40
      have := r.num_le 1
      simp only
      omega
    · refine ⟨?_, by simp, by simp⟩
      simp only
      omega
theorem getFld_le (r : RS) : (getFld r).2.xs.length ≤ r.xs.length := by
  unfold getFld
  have h1 := r.num_le 1
  split
  · exact Nat.le_trans (RS.num_le _ _) h1
  · split
    · exact Nat.le_trans (RS.text_le' _ _) h1
    · exact h1

/-- Fields, or an error: Get's answer. -/
def GetPost (w : World) (c : Col) (r : List Fld × Bool) (e : Ending) (w' : World) : Prop :=
  Below w.heap.size w w' ∧ ∃ A n cp, e = .returned (.tuple #[.slice A n cp, .int .i64 (if r.2 = true then 0 else 2)]) ∧ Rd kFld w' c A n cp r.1

theorem flds_rep {w : World} {c : Col} {d : List Fld} (h : ∀ x ∈ d, x.ok) : ∀ j x, d[j]? = some x → kFld.rep w c x (((d.flatMap fCells).drop (j * kFld.sz)).take kFld.sz) := by
  intro j x hj
  exact ⟨drop_take_flat fCells 3 (fun _ => rfl) d j x hj, h x (List.mem_of_getElem? hj)⟩
theorem fCells_len (d : List Fld) : (d.flatMap fCells).length = d.length * 3 := by
  induction d with
  | nil => rfl
  | cons x d ih => rw [List.flatMap_cons, List.length_append, ih, List.length_cons]; simp [fCells]; omega

theorem Re.app {W w1 : World} {c1 c2 : Col} {g : Nat} {xs : List UInt8} {b : Bool} {e : TypeId} (h : Re W c1 g xs b) (hne : 88 ≠ e)
    (hk : ∀ (b : Nat) (t' : TypeId) (cs : Array Value) (fr : Nat × Nat), t' ≠ e → W.heap[b]? = some (.cells cs t' fr) → w1.heap[b]? = some (.cells cs t' fr)) (k : Kp c1 c2 W w1) (hc : ∀ k, k < W.heap.size → c2 k = c1 k) : Re w1 c2 g xs b := by
  have hl := h.lt
  obtain ⟨h1, A, n, cp, hb, hr⟩ := h
  exact ⟨by rw [hc g hl]; exact h1, A, n, cp, hk g _ _ _ hne hb, hr.app k⟩
theorem Re.block {w : World} {c : Col} {g : Nat} {xs : List UInt8} {b : Bool} (h : Re w c g xs b) : ∃ A n cp, w.heap[g]? = some (.cells #[.slice A n cp, .bool b] 88 (0, 0)) := by
  obtain ⟨_, A, n, cp, hb, _⟩ := h
  exact ⟨A, n, cp, hb⟩

set_option maxHeartbeats 4000000 in
theorem TGet_any (w : World) (c : Col) (A : Option Addr) (n cp : Nat) (b : List UInt8) (hw : Wf c w) (hl : n ≤ 1000000000000) (hx : Rd kU8 w c A n cp b) :
    Calls Try.prog 41 #[.slice A n cp] w (GetPost w c (tupGet b)) := by
  have hln := hx.1
  have HX := Lib.hid hx
  have HL := Lib.hid hln
  have HF := Lib.hid hw
  clear hx hln hw
  go_enter Try.func41, Try.ntmps41
  go_wp2_with fail
  refine (New_any w c b A n cp hl HF.out HX.out).mono ?_
  rintro e w1 ⟨g, rfl, hg, q_HA1, q_HW1⟩
  have HA1 := Lib.hid q_HA1
  have HW1 := Lib.hid q_HW1
  clear q_HA1 q_HW1
  have HT1 := Lib.hid HA1.out
  go_wp2_with fail
  refine (RNum_any w1 (c.set g g) g ⟨b, false⟩ 1 HT1.out.wf HW1.out).mono ?_
  rintro e w2 ⟨rfl, q_HA2, q_HW2⟩
  have HA2 := Lib.hid q_HA2
  have HW2 := Lib.hid q_HW2
  clear q_HA2 q_HW2
  have HT2 := Lib.hid (HT1.out.low HA2.out hg)
  have hq1 := RS.num1_lt ⟨b, false⟩
  have HQL := Lib.hid (RS.num_le ⟨b, false⟩ 1)
  generalize hq : RS.num ⟨b, false⟩ 1 = q at *
  obtain ⟨m0, r0⟩ := q
  have HQ := Lib.hid hq
  clear hq
  dsimp only at *
  have hmin : (m0 ≤ 7 ∧ min m0 7 = m0) ∨ (7 < m0 ∧ min m0 7 = 7) := by omega
  -- the loop, from K rounds on
  have key : ∀ K : Nat, K ≤ 7 → Hid (min m0 7 = K) → Hid True := fun _ _ _ => trivial
  clear key
  have hmx0 : m0 ≤ 255 := by omega
  clear hq1
  obtain ⟨K, hKK, hK7⟩ : ∃ K : Nat, Hid (K = min m0 7) ∧ K ≤ 7 := ⟨_, rfl, by omega⟩
  rcases hmin with ⟨h7, hm7⟩ | ⟨h7, hm7⟩
  all_goals
    have HM7 := Lib.hid hm7
    clear hm7
    go_wp2_with fail
    go_loopw [5, 6] (fun o i wr => ∃ (m : Nat) (d : List Fld) (r : RS) (c1 : Col) (A1 : Option Addr) (cp1 : Nat), i = .int .u64 (m : Int) ∧ o = .slice A1 d.length cp1 ∧ m ≤ 7 ∧ Hid (d.length + m = K) ∧ Hid (getFlds K r0 = (d ++ (getFlds m r).1, (getFlds m r).2)) ∧ Hid (r.xs.length ≤ 1000000000000) ∧ Hid (∀ x ∈ d, x.ok) ∧
      Hid (Tr (fun _ => False) c c1 w wr) ∧ Hid (Re wr c1 g r.xs r.wrong) ∧ Hid (OwnR wr c1 w.heap.size 54 3 A1 d.length cp1 (d.flatMap fCells))) (fun _ i _ => (intOf i).toNat)
    case atStart =>
      refine ⟨K, [], r0, c.set g g, none, 0, ?_, rfl, hK7, by show _ = _; simp, by show _ = _; simp, by show _ ≤ _; have := HQL.out; have := HL.out; omega, by intro x hx; simp at hx, HT2.out, HW2.out, OwnR.nil _ _ _ _ _⟩
      have := hKK.out
      have := HM7.out
      first
        | (congr 1; omega)
        | (have hk : K = 7 := by omega
           subst hk
           rfl)
    case round =>
      obtain ⟨m, d, r, c1, A1, cp1, rfl, rfl, hm, hdm, hget, hrl, hok, ht, hR, ho⟩ := hrel
      rcases Nat.eq_zero_or_pos m with h0 | h0
      · subst h0
        have HG : Hid (getFlds K r0 = (d, r)) := by
          show _ = _
          rw [hget.out]
          simp [getFlds]
        have HPOST : Hid (tupGet b = if r.fin = 0 ∧ mayTB d = true then (d, true) else ([], false)) := by
          show _ = _
          unfold tupGet
          rw [HQ.out]
          simp only
          rw [← hKK.out, HG.out]
        have htw := ht.out.size
        generalize hfin : r.fin = fin at HPOST
        have HFIN := Lib.hid hfin
        clear hfin
        go_wp2_with fail
        refine (REnd_eq wr c1 g r fin HFIN.out ht.out.wf hR.out).mono ?_
        rintro e w3 ⟨rfl, q_HA3, q_HW3⟩
        have HA3 := Lib.hid q_HA3
        have HW3 := Lib.hid q_HW3
        clear q_HA3 q_HW3
        have HT3 := Lib.hid (ht.out.low HA3.out hg)
        obtain ⟨Ar, nr, cpr, hrb⟩ := hR.out.block
        have HO3 := Lib.hid (ho.out.tr HA3.out hrb (by decide))
        clear hrb Ar nr cpr
        have HRD := Lib.hid (HO3.out.rd (K := kFld) (c0 := c) rfl (fun k hk => HF.out.fresh hk) (fun k x hx => flds_rep hok.out k x hx))
        have HB3 := Lib.hid (HT3.out.below fun _ _ h => h)
        by_cases hf0 : fin = 0
        · subst hf0
          have HM := Lib.hid (MayT_any w3 c A1 d.length cp1 d HRD.out)
          cases hmay : mayTB d with
          | true =>
            rw [hmay] at HM
            have HP : Hid (tupGet b = (d, true)) := by show _ = _; rw [HPOST.out, if_pos ⟨rfl, hmay⟩]
            clear hmay HPOST
            go_wp2_with fail
            refine (HM.out).mono ?_
            rintro e w4 ⟨rfl, q_HB4⟩
            have HB4 := Lib.hid q_HB4
            clear q_HB4
            go_wp2_with fail
            go_ret2
            rw [HP.out]
            refine ⟨below_then HB3.out HB4.out, A1, d.length, cp1, rfl, HRD.out.below HB4.out⟩
          | false =>
            rw [hmay] at HM
            have HP : Hid (tupGet b = ([], false)) := by show _ = _; rw [HPOST.out, if_neg (by rw [hmay]; simp)]
            clear hmay HPOST
            go_wp2_with fail
            refine (HM.out).mono ?_
            rintro e w4 ⟨rfl, q_HB4⟩
            have HB4 := Lib.hid q_HB4
            clear q_HB4
            go_wp2_with fail
            go_ret2
            rw [HP.out]
            refine ⟨below_then HB3.out HB4.out, none, 0, 0, rfl, Rd.nil _ _ _⟩
        · have hb0 : (fin == 0) = false := by simpa using hf0
          have HP : Hid (tupGet b = ([], false)) := by show _ = _; rw [HPOST.out, if_neg (fun h => hf0 h.1)]
          clear HPOST
          go_wp2_with fail
          go_ret2
          rw [HP.out]
          refine ⟨HB3.out, none, 0, 0, rfl, Rd.nil _ _ _⟩
      · obtain ⟨j, rfl⟩ : ∃ j, m = j + 1 := ⟨m - 1, by omega⟩
        have hd7 : d.length ≤ 7 := by have := hdm.out; omega
        have hn1 := r.num1_lt
        have HN1 := Lib.hid (r.num_le 1)
        generalize hq : r.num 1 = q at hn1 HN1
        obtain ⟨kd, r1⟩ := q
        have HQ1 := Lib.hid hq
        clear hq
        dsimp only at hn1 HN1
        go_wp2_with fail
        refine (RNum_eq wr c1 g r 1 kd r1 HQ1.out ht.out.wf hR.out).mono ?_
        rintro e w3 ⟨rfl, q_HA3, q_HW3⟩
        have HA3 := Lib.hid q_HA3
        have HW3 := Lib.hid q_HW3
        clear q_HA3 q_HW3
        have HT3 := Lib.hid (ht.out.low HA3.out hg)
        obtain ⟨Ar, nr, cpr, hrb⟩ := hR.out.block
        have HO3 := Lib.hid (ho.out.tr HA3.out hrb (by decide))
        have hgl := HW3.out.lt
        have hs3 := HT3.out.size
        clear hrb Ar nr cpr
        have HRB3 := Lib.hid HW3.out.block
        have HGF : Hid (getFlds (j + 1) r = ((getFld r).1 :: (getFlds j (getFld r).2).1, (getFlds j (getFld r).2).2)) := rfl
        have HFE : Hid (getFld r = if kd = 1 then (⟨1, wrap64 (r1.num 8).1, []⟩, (r1.num 8).2) else if kd = 2 then (⟨2, 0, (r1.text 40).1⟩, (r1.text 40).2) else (⟨kd, 0, []⟩, r1)) := by
          show _ = _
          unfold getFld
          rw [HQ1.out]
        have HOKF := Lib.hid (getFld_ok r hrl.out)
        have HLEF := Lib.hid (getFld_le r)
        generalize hfr : getFld r = fr at HGF HFE HOKF HLEF
        obtain ⟨x, r9⟩ := fr
        clear hfr
        dsimp only at HGF
        -- the new field's block, coloured
        have hL0 := Loc.new c1 w3 54 #[.int .i64 (kd : Int), .int .i64 0, .string ⟨#[]⟩]
        have hT0 : Tr (· = g) c1 (c1.set w3.heap.size w3.heap.size) w3 (w3.alloc (.cells #[.int .i64 (kd : Int), .int .i64 0, .string ⟨#[]⟩] 54)) := ((Tr.refl _ HT3.out.wf).alloc _).hot (Nat.le_refl _) (by simp) (by simp) (.inr (Nat.le_refl _))
        have hR0 := HW3.out.tr ((Tr.new HT3.out.wf (.cells #[.int .i64 (kd : Int), .int .i64 0, .string ⟨#[]⟩] 54)).hot (k := w3.heap.size) (g := w3.heap.size) (Nat.le_refl _) (by simp) (by simp) (.inr (Nat.le_refl _))) (fun h => h)
        generalize hc3 : c1.set w3.heap.size w3.heap.size = c3 at hL0 hT0 hR0
        have HL0 := Lib.hid hL0
        have HT0 := Lib.hid hT0
        have HR0 := Lib.hid hR0
        clear hL0 hT0 hR0
        clear hc3
        have hcase : kd = 1 ∨ kd = 2 ∨ (kd ≠ 1 ∧ kd ≠ 2) := by omega
        rcases hcase with rfl | rfl | ⟨hka, hkb⟩
        · rw [if_pos rfl] at HFE
          generalize hq8 : r1.num 8 = q8 at HFE
          obtain ⟨v8, r8⟩ := q8
          have HQ8 := Lib.hid hq8
          clear hq8
          have HX9 : Hid (x = ⟨1, wrap64 v8, []⟩) := (Prod.mk.inj HFE.out).1
          have HX9b : Hid (r9 = r8) := (Prod.mk.inj HFE.out).2
          go_wp2_with fail
          refine (RNum_eq _ c3 g r1 8 v8 r8 HQ8.out HT0.out.wf HR0.out).mono ?_
          rintro e w4 ⟨rfl, q_HA4, q_HW4⟩
          have HA4 := Lib.hid q_HA4
          have HW4 := Lib.hid q_HW4
          clear q_HA4 q_HW4
          have HT4 := Lib.hid (HT0.out.then HA4.out)
          have HL4 := Lib.hid (HL0.out.tr HA4.out (by omega))
          have e0 := HL4.out.cell 0
          have e1 := HL4.out.cell 1
          have e2 := HL4.out.cell 2
          have ef := HL4.out.frozen 1
          have hst := (Tr.refl (· = w3.heap.size) HT4.out.wf).setCell (p := ⟨w3.heap.size, 1, none⟩) HL4.out.1 (.inl rfl) (.int .i64 (wrap64 v8))
          have HT35 := Lib.hid (HT4.out.setCell (p := ⟨w3.heap.size, 1, none⟩) HL4.out.1 (.inr (Nat.le_refl _)) (.int .i64 (wrap64 v8)))
          have HT5 := Lib.hid (HT3.out.low HT35.out hg)
          obtain ⟨Ar, nr, cpr, hrb⟩ := HRB3.out
          have HO5 := Lib.hid (HO3.out.tr HT35.out hrb (by decide))
          clear hrb
          have HR5 := Lib.hid (HW4.out.tr hst (by omega))
          have HS5 := Lib.hid HT5.out.size
          clear hst
          go_wp2_with (at_builtin; go_must (refine app_one_self (lo := w.heap.size) (.tmp 35) (.tmp 37) 50 54 (.agg #[.int .i64 0, .int .i64 0, .string ⟨#[]⟩]) 3 32 rfl rfl Try.underlying50 fld_info rfl (by decide) (by decide) (d.flatMap fCells) _ rfl rfl (by first | rfl | (show Value.slice (some ⟨_, 0, none⟩) 1 1 = _; simp)) (by intro u hu; simp at hu; rcases hu with rfl | rfl | rfl <;> rfl) HT5.out HO5.out (Nat.le_refl _) HS5.out (by omega) ?_); intro A2 cp2 w6 c6 q_HT6 q_HO6 q_hkp q_kp6 q_hc6; have HT6 := Lib.hid q_HT6; have HO6 := Lib.hid q_HO6; have HR6 := Lib.hid (HR5.out.app (by decide) q_hkp q_kp6 q_hc6); clear q_HT6 q_HO6 q_hkp q_kp6 q_hc6)
          refine ⟨⟨j, d ++ [⟨1, wrap64 v8, []⟩], r8, c6, A2, cp2, by go_num, by simp, by omega, by show _ = _; have := hdm.out; simp; omega, ?_, ?_, ?_, HT6.out, HR6.out, ?_⟩, by simp [intOf]⟩
          · show _ = _
            rw [hget.out, HGF.out, HX9.out, HX9b.out]
            simp
          · show _ ≤ _
            have := HLEF.out
            rw [← HX9b.out]
            have := hrl.out
            omega
          · intro y hy
            rcases List.mem_append.1 hy with hy | hy
            · exact hok.out y hy
            · rw [List.mem_singleton.1 hy, ← HX9.out]
              exact HOKF.out
          · show OwnR _ _ _ _ _ _ _ _ _
            have := HO6.out
            simp only [List.flatMap_append, List.flatMap_singleton, List.length_append, List.length_singleton] at this ⊢
            exact this
        · rw [if_neg (by decide), if_pos rfl] at HFE
          generalize hq8 : r1.text 40 = q8 at HFE
          obtain ⟨v8, r8⟩ := q8
          have HQ8 := Lib.hid hq8
          clear hq8
          have HX9 : Hid (x = ⟨2, 0, v8⟩) := (Prod.mk.inj HFE.out).1
          have HX9b : Hid (r9 = r8) := (Prod.mk.inj HFE.out).2
          go_wp2_with fail
          refine (RText_eq _ c3 g r1 40 v8 r8 HQ8.out (by decide) (by have := HN1.out; have := hrl.out; omega) HT0.out.wf HR0.out).mono ?_
          rintro e w4 ⟨Ax, nx, cpx, rfl, q_HA4, q_HW4, q_HX4⟩
          have HA4 := Lib.hid q_HA4
          have HW4 := Lib.hid q_HW4
          have HX4 := Lib.hid q_HX4
          clear q_HA4 q_HW4 q_HX4
          have HT4 := Lib.hid (HT0.out.then HA4.out)
          have HL4 := Lib.hid (HL0.out.tr HA4.out (by omega))
          have e0 := HL4.out.cell 0
          have e1 := HL4.out.cell 1
          have e2 := HL4.out.cell 2
          have ef := HL4.out.frozen 2
          have hcs := conv_str (P := Try.prog) 24 9 5 Try.underlying24 Try.underlying5 Try.underlying9 HX4.out
          have hst := (Tr.refl (· = w3.heap.size) HT4.out.wf).setCell (p := ⟨w3.heap.size, 2, none⟩) HL4.out.1 (.inl rfl) (.string ⟨v8.toArray⟩)
          have HT35 := Lib.hid (HT4.out.setCell (p := ⟨w3.heap.size, 2, none⟩) HL4.out.1 (.inr (Nat.le_refl _)) (.string ⟨v8.toArray⟩))
          have HT5 := Lib.hid (HT3.out.low HT35.out hg)
          obtain ⟨Ar, nr, cpr, hrb⟩ := HRB3.out
          have HO5 := Lib.hid (HO3.out.tr HT35.out hrb (by decide))
          clear hrb
          have HR5 := Lib.hid (HW4.out.tr hst (by omega))
          have HS5 := Lib.hid HT5.out.size
          clear hst
          go_wp2_with (at_builtin; go_must (refine app_one_self (lo := w.heap.size) (.tmp 35) (.tmp 37) 50 54 (.agg #[.int .i64 0, .int .i64 0, .string ⟨#[]⟩]) 3 32 rfl rfl Try.underlying50 fld_info rfl (by decide) (by decide) (d.flatMap fCells) _ rfl rfl (by first | rfl | (show Value.slice (some ⟨_, 0, none⟩) 1 1 = _; simp)) (by intro u hu; simp at hu; rcases hu with rfl | rfl | rfl <;> rfl) HT5.out HO5.out (Nat.le_refl _) HS5.out (by omega) ?_); intro A2 cp2 w6 c6 q_HT6 q_HO6 q_hkp q_kp6 q_hc6; have HT6 := Lib.hid q_HT6; have HO6 := Lib.hid q_HO6; have HR6 := Lib.hid (HR5.out.app (by decide) q_hkp q_kp6 q_hc6); clear q_HT6 q_HO6 q_hkp q_kp6 q_hc6)
          refine ⟨⟨j, d ++ [⟨2, 0, v8⟩], r8, c6, A2, cp2, by go_num, by simp, by omega, by show _ = _; have := hdm.out; simp; omega, ?_, ?_, ?_, HT6.out, HR6.out, ?_⟩, by simp [intOf]⟩
          · show _ = _
            rw [hget.out, HGF.out, HX9.out, HX9b.out]
            simp
          · show _ ≤ _
            have := HLEF.out
            rw [← HX9b.out]
            have := hrl.out
            omega
          · intro y hy
            rcases List.mem_append.1 hy with hy | hy
            · exact hok.out y hy
            · rw [List.mem_singleton.1 hy, ← HX9.out]
              exact HOKF.out
          · show OwnR _ _ _ _ _ _ _ _ _
            have := HO6.out
            simp only [List.flatMap_append, List.flatMap_singleton, List.length_append, List.length_singleton] at this ⊢
            exact this
        · rw [if_neg hka, if_neg hkb] at HFE
          have HX9 : Hid (x = ⟨kd, 0, []⟩) := (Prod.mk.inj HFE.out).1
          have HX9b : Hid (r9 = r1) := (Prod.mk.inj HFE.out).2
          have hb1 : ((kd : Int) == 1) = false := by simp; omega
          have hb2 : ((kd : Int) == 2) = false := by simp; omega
          have e0 := HL0.out.cell 0
          have e1 := HL0.out.cell 1
          have e2 := HL0.out.cell 2
          have HT5 := Lib.hid (HT3.out.low HT0.out hg)
          obtain ⟨Ar, nr, cpr, hrb⟩ := HRB3.out
          have HO5 := Lib.hid (HO3.out.tr HT0.out hrb (by decide))
          clear hrb
          have HR5 := Lib.hid HR0.out
          have HS5 := Lib.hid HT5.out.size
          go_wp2_with (at_builtin; go_must (refine app_one_self (lo := w.heap.size) (.tmp 35) (.tmp 37) 50 54 (.agg #[.int .i64 0, .int .i64 0, .string ⟨#[]⟩]) 3 32 rfl rfl Try.underlying50 fld_info rfl (by decide) (by decide) (d.flatMap fCells) _ rfl rfl (by first | rfl | (show Value.slice (some ⟨_, 0, none⟩) 1 1 = _; simp)) (by intro u hu; simp at hu; rcases hu with rfl | rfl | rfl <;> rfl) HT5.out HO5.out (Nat.le_refl _) HS5.out (by omega) ?_); intro A2 cp2 w6 c6 q_HT6 q_HO6 q_hkp q_kp6 q_hc6; have HT6 := Lib.hid q_HT6; have HO6 := Lib.hid q_HO6; have HR6 := Lib.hid (HR5.out.app (by decide) q_hkp q_kp6 q_hc6); clear q_HT6 q_HO6 q_hkp q_kp6 q_hc6)
          refine ⟨⟨j, d ++ [⟨kd, 0, []⟩], r1, c6, A2, cp2, by go_num, by simp, by omega, by show _ = _; have := hdm.out; simp; omega, ?_, ?_, ?_, HT6.out, HR6.out, ?_⟩, by simp [intOf]⟩
          · show _ = _
            rw [hget.out, HGF.out, HX9.out, HX9b.out]
            simp
          · show _ ≤ _
            have := HLEF.out
            rw [← HX9b.out]
            have := hrl.out
            omega
          · intro y hy
            rcases List.mem_append.1 hy with hy | hy
            · exact hok.out y hy
            · rw [List.mem_singleton.1 hy, ← HX9.out]
              exact HOKF.out
          · show OwnR _ _ _ _ _ _ _ _ _
            have := HO6.out
            simp only [List.flatMap_append, List.flatMap_singleton, List.length_append, List.length_singleton] at this ⊢
            exact this
end Go.Proofs.Ytladpckbajnbeaa
