/- OperKinds: the walk. -/
import Derived.Test.YtcdapcljpkohbaaLaw7
import Derived.Deep.DeepCutAuto
import Derived.Outline
set_option linter.unusedVariables false
set_option linter.unusedSimpArgs false
namespace Go.Proofs.Ytcdapcljpkohbaa
open Go.RowKit

def kP (p : Bool) : List Fld := if p = true then [⟨5, 0, []⟩] else []
def kT (t : Bool) : List Fld := if t = true then [⟨2, 0, [120]⟩] else []
def kL (l : Bool) : Int := if l = true then 5 else 0
theorem kinds_may (k : Int) (h1 : 1 ≤ k) (h8 : k ≤ 8) (p t l : Bool) : mayR ⟨2, 9, k, kP p, kT t, kL l⟩ = ((p == readsB k) && ((t == outsB k) && (outsB k || !l))) := by
  have hk : k = 1 ∨ k = 2 ∨ k = 3 ∨ k = 4 ∨ k = 5 ∨ k = 6 ∨ k = 7 ∨ k = 8 := by omega
  rcases hk with rfl | rfl | rfl | rfl | rfl | rfl | rfl | rfl <;> cases p <;> cases t <;> cases l <;> decide +kernel
theorem kinds_writes (k : Int) : writesB k = (outsB k || (k == 3 || k == 5)) := by
  unfold writesB outsB
  rw [Bool.eq_iff_iff]
  simp
  omega
theorem OReads_eq (w : World) {k : Int} {b : Bool} (h : readsB k = b) : Calls Try.prog 18 #[.int .i64 k] w fun e w' => e = .returned (.bool b) ∧ w = w' := h ▸ OReads_any w k
theorem OWrites_eq (w : World) {k : Int} {b : Bool} (h : writesB k = b) : Calls Try.prog 20 #[.int .i64 k] w fun e w' => e = .returned (.bool b) ∧ w = w' := h ▸ OWrites_any w k
set_option maxRecDepth 100000 in
set_option maxHeartbeats 4000000 in
theorem OperKinds_any (w : World) (kind : Int) (p t l : Bool) :
    Calls Try.prog 5 #[.int .i64 kind, .bool p, .bool t, .bool l] w (BoolPost w true) := by
  obtain ⟨q0, hkl⟩ := small_mod kind 8 (by decide) (by decide)
  generalize hkk : wrap64 ((IntKind.u64.wrap kind).tmod 8) = kk at q0 hkl
  obtain ⟨k, hk⟩ : ∃ k : Int, 1 + kk = k := ⟨_, rfl⟩
  have hk1 : 1 ≤ k := by omega
  have hk8 : k ≤ 8 := by omega
  have hwk : wrap64 k = k := by unfold wrap64; omega
  have HKK := Lib.hid hkk
  have HK := Lib.hid hk
  have HWK := Lib.hid hwk
  clear hkk hk hwk
  go_enter Try.func5, Try.ntmps5
  go_upto_region 2 with fail
  rw [HKK.out, HK.out, HWK.out]
  clear q0 hkl
  obtain ⟨c1, hc1⟩ : ∃ c1, Col.set (fun _ => none) w.heap.size w.heap.size = c1 := ⟨_, rfl⟩
  have HTR := Lib.hid (fun o => hc1 ▸ ((Tr.new (Wf_none w) o).hot (k := w.heap.size) (g := w.heap.size) (Nat.le_refl _) (by simp) (by simp) (.inr (Nat.le_refl _))))
  have HLN := Lib.hid (fun cs => hc1 ▸ (Loc.new (fun _ => none) w 24 cs))
  clear hc1
  go_upto_if 20 with fail
  go_cut [10] (fun a wx => a = .pointer (some ⟨w.heap.size, 0, none⟩) ∧ ∃ A n cp, Hid (Loc wx c1 w.heap.size 24 #[.int .i64 2, .int .i64 9, .int .i64 k, .slice A n cp, .slice none 0 0, .int .i64 0]) ∧ Hid (Tr (fun _ => False) (fun _ => none) c1 w wx) ∧ Hid (Rd kFld wx c1 A n cp (kP p)))
  case first =>
    cases p with
    | false =>
      go_wp2_with fail
      go_meet
      exact ⟨rfl, none, 0, 0, HLN.out _, HTR.out _, Rd.nil _ _ _⟩
    | true =>
      go_wp2_with fail
      go_meet
      have ht := HTR.out (.cells #[.int .i64 2, .int .i64 9, .int .i64 k, .slice (some ⟨w.heap.size + 1, 0, none⟩) 1 1, .slice none 0 0, .int .i64 0] 24)
      have hrd := flds1 ht.wf ⟨5, 0, []⟩ ⟨by decide, by decide, by decide⟩
      rw [show (w.alloc (.cells #[.int .i64 2, .int .i64 9, .int .i64 k, .slice (some ⟨w.heap.size + 1, 0, none⟩) 1 1, .slice none 0 0, .int .i64 0] 24)).heap.size = w.heap.size + 1 by simp] at hrd
      exact ⟨rfl, some ⟨w.heap.size + 1, 0, none⟩, 1, 1, (HLN.out _).tr (Tr.new ht.wf _) (fun h => h), ht.alloc _, hrd⟩
  case rest =>
  obtain ⟨rfl, A, n, cp, HL1, HT1, HRP⟩ := hcut
  have hlt := HL1.out.lt
  have e4 := HL1.out.cell 4
  have f4 := HL1.out.frozen 4
  go_upto_if 24 with fail
  go_cut [10] (fun a wx => a = .pointer (some ⟨w.heap.size, 0, none⟩) ∧ ∃ B m cq, Hid (Loc wx c1 w.heap.size 24 #[.int .i64 2, .int .i64 9, .int .i64 k, .slice A n cp, .slice B m cq, .int .i64 0]) ∧ Hid (Tr (fun _ => False) (fun _ => none) c1 w wx) ∧ Hid (Rd kFld wx c1 A n cp (kP p)) ∧ Hid (Rd kFld wx c1 B m cq (kT t)))
  case first =>
    cases t with
    | false =>
      go_wp2_with fail
      go_meet
      exact ⟨rfl, none, 0, 0, HL1.out, HT1.out, HRP.out, Rd.nil _ _ _⟩
    | true =>
      have ha := (Tr.refl (· = w.heap.size) HT1.out.wf).setCell (p := ⟨w.heap.size, 4, none⟩) HL1.out.1 (.inl rfl) (.slice (some ⟨wc.heap.size, 0, none⟩) 1 1)
      have hrd := flds1 ha.wf ⟨2, 0, [120]⟩ ⟨by decide, by decide, by decide⟩
      rw [show (wc.setCell ⟨w.heap.size, 4, none⟩ (.slice (some ⟨wc.heap.size, 0, none⟩) 1 1)).heap.size = wc.heap.size by simp [World.setCell]] at hrd
      have HA := Lib.hid ha
      have HRD := Lib.hid hrd
      clear ha hrd
      go_wp2_with fail
      go_meet
      exact ⟨rfl, some ⟨wc.heap.size, 0, none⟩, 1, 1, (HL1.out.set_ 4 _).tr (Tr.new HA.out.wf _) (fun h => h), (HT1.out.low HA.out (Nat.le_refl _)).alloc _, (HRP.out.tr HA.out).below (below_alloc _ _), HRD.out⟩
  case rest =>
  obtain ⟨rfl, B, m, cq, HL2, HT2, HRP2, HRT2⟩ := hcut
  clear e4 f4 hlt
  have e5 := HL2.out.cell 5
  have f5 := HL2.out.frozen 5
  go_upto_if 28 with fail
  go_cut [10] (fun a wx => a = .pointer (some ⟨w.heap.size, 0, none⟩) ∧ Hid (Loc wx c1 w.heap.size 24 #[.int .i64 2, .int .i64 9, .int .i64 k, .slice A n cp, .slice B m cq, .int .i64 (kL l)]) ∧ Hid (Tr (fun _ => False) (fun _ => none) c1 w wx) ∧ Hid (Rd kFld wx c1 A n cp (kP p)) ∧ Hid (Rd kFld wx c1 B m cq (kT t)))
  case first =>
    cases l with
    | false =>
      go_wp2_with fail
      go_meet
      exact ⟨rfl, HL2.out, HT2.out, HRP2.out, HRT2.out⟩
    | true =>
      have HA := Lib.hid ((Tr.refl (· = w.heap.size) HT2.out.wf).setCell (p := ⟨w.heap.size, 5, none⟩) HL2.out.1 (.inl rfl) (.int .i64 5))
      go_wp2_with fail
      go_meet
      exact ⟨rfl, HL2.out.set_ 5 _, HT2.out.low HA.out (Nat.le_refl _), HRP2.out.tr HA.out, HRT2.out.tr HA.out⟩
  case rest =>
  obtain ⟨rfl, HL3, HT3, HRP3, HRT3⟩ := hcut
  clear e5 f5
  obtain ⟨o, hoo⟩ : ∃ o, outsB k = o := ⟨_, rfl⟩
  obtain ⟨rd, hrd⟩ : ∃ rd, readsB k = rd := ⟨_, rfl⟩
  have hmr := kinds_may k hk1 hk8 p t l
  rw [hoo, hrd] at hmr
  obtain ⟨mr, hmx⟩ : ∃ mr, mayR ⟨2, 9, k, kP p, kT t, kL l⟩ = mr := ⟨_, rfl⟩
  rw [hmx] at hmr
  have hwr := kinds_writes k
  rw [hoo] at hwr
  have HOO := Lib.hid hoo
  have HRD := Lib.hid hrd
  have HMR := Lib.hid hmr
  have HWR := Lib.hid hwr
  have HMX := Lib.hid hmx
  clear hoo hrd hmr hwr hmx
  go_upto_region 9 with fail
  go_cut [11] (fun a wx => a = .bool o ∧ wx = wc)
  case first =>
    by_cases k1 : k = 1
    · have b1 : (k == 1) = true := by simp [k1]
      have hv : Hid (o = true) := by show _ = _; rw [← HOO.out, k1]; rfl
      clear k1
      go_wp2_with fail
      go_meet
      exact ⟨val_bool hv.out.symm, rfl⟩
    · have b1 : (k == 1) = false := by simp [k1]
      by_cases k6 : k = 6
      · have b6 : (k == 6) = true := by simp [k6]
        have hv : Hid (o = true) := by show _ = _; rw [← HOO.out, k6]; rfl
        clear k1 k6
        go_wp2_with fail
        go_meet
        exact ⟨val_bool hv.out.symm, rfl⟩
      · have b6 : (k == 6) = false := by simp [k6]
        have hv : Hid ((k == 7) = o) := by show _ = _; rw [← HOO.out]; unfold outsB; rw [b1, b6]; rfl
        clear k1 k6
        go_wp2_with fail
        go_meet
        exact ⟨val_bool hv.out, rfl⟩
  case rest =>
  obtain ⟨rfl, rfl⟩ := hcut
  go_upto_region 10 with fail
  go_cut [12] (fun a wx => a = .bool mr ∧ wx = wc)
  case first =>
    go_wp2_with fail
    refine (OReads_eq _ HRD.out).mono ?_
    rintro e w' ⟨rfl, rfl⟩
    cases p <;> cases rd <;> cases t <;> cases o <;> cases l
    all_goals
      go_wp2_with fail
      go_meet
      exact ⟨val_bool (by rw [HMR.out]; rfl), rfl⟩
  case rest =>
  obtain ⟨rfl, rfl⟩ := hcut
  have HB3 := Lib.hid (HT3.out.below fun _ _ h => h)
  have HRP4 := Lib.hid (HRP3.out.back HT3.out)
  have HRT4 := Lib.hid (HRT3.out.back HT3.out)
  go_wp2_with fail
  refine (told7 wc).mono ?_
  rintro e w4 ⟨rfl, q_HB4⟩
  have HB4 := Lib.hid q_HB4
  clear q_HB4
  have HL4 := Lib.hid (HL3.out.tr (Tr.of_below (M := fun _ => False) HT3.out.wf HB4.out) (fun h => h))
  have x0 := HL4.out.cell 0
  have x1 := HL4.out.cell 1
  have x2 := HL4.out.cell 2
  have x3 := HL4.out.cell 3
  have x4 := HL4.out.cell 4
  have x5 := HL4.out.cell 5
  go_wp2_with fail
  refine (bool_eq HMX.out (OMay_any w4 (fun _ => none) ⟨2, 9, k, kP p, kT t, kL l⟩ A n cp B m cq (HRP4.out.below HB4.out) (HRT4.out.below HB4.out))).mono ?_
  rintro e w5 ⟨rfl, q_HB5⟩
  have HB5 := Lib.hid q_HB5
  clear q_HB5
  clear x0 x1 x2 x3 x4 x5
  have HBX := Lib.hid (below_then (below_then HB3.out HB4.out) HB5.out)
  cases o with
  | true =>
    have hw := HWR.out
    rw [Bool.true_or] at hw
    have HW := Lib.hid hw
    clear hw
    go_wp2_with fail
    refine (OWrites_eq _ HW.out).mono ?_
    rintro e w' ⟨rfl, rfl⟩
    go_wp2_with fail
    go_ret
    exact ⟨rfl, HBX.out⟩
  | false =>
    have hw := HWR.out
    rw [Bool.false_or] at hw
    by_cases k3 : k = 3
    · have b3 : (k == 3) = true := by simp [k3]
      rw [b3, Bool.true_or] at hw
      have HW := Lib.hid hw
      clear hw
      clear k3
      go_wp2_with fail
      refine (OWrites_eq _ HW.out).mono ?_
      rintro e w' ⟨rfl, rfl⟩
      go_wp2_with fail
      go_ret
      exact ⟨rfl, HBX.out⟩
    · have b3 : (k == 3) = false := by simp [k3]
      rw [b3, Bool.false_or] at hw
      clear k3
      cases b5 : (k == 5)
      all_goals
        rw [b5] at hw
        have HW := Lib.hid hw
        clear hw
        go_wp2_with fail
        refine (OWrites_eq _ HW.out).mono ?_
        rintro e w' ⟨rfl, rfl⟩
        go_wp2_with fail
        go_ret
        exact ⟨rfl, HBX.out⟩
end Go.Proofs.Ytcdapcljpkohbaa
