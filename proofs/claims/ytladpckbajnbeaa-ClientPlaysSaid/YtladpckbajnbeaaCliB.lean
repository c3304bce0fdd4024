/- client: what may be, and its text. -/
import Derived.Test.YtladpckbajnbeaaCliA
set_option linter.unusedVariables false
set_option linter.unusedSimpArgs false
namespace Go.Proofs.Ytladpckbajnbeaa
open Go.RowKit

def numsP (x : Rep) : Bool := decide (0 ≤ x.client) && (decide (x.client < 4) && (decide (1 ≤ x.seq) && decide (x.seq ≤ 1073741824)))
theorem numsP_iff {x : Rep} : numsP x = true ↔ (0 ≤ x.client ∧ x.client < 4 ∧ 1 ≤ x.seq ∧ x.seq ≤ 1073741824) := by
  unfold numsP
  simp only [Bool.and_eq_true, decide_eq_true_eq]
def mayP (x : Rep) : Bool := numsP x && (if x.kind = 2 then mayB x.t else decide (1 ≤ x.kind) && (decide (x.kind ≤ 7) && (x.t.isEmpty && !x.late)))
set_option maxHeartbeats 1000000 in
theorem CMay_any (w : World) (c : Col) (x : Rep) (A : Option Addr) (n cp : Nat) (hx : Rd kFld w c A n cp x.t) :
    Calls Try.prog 54 #[pV x A n cp] w (BoolPost w (mayP x)) := by
  have hln := hx.1
  have hmn := hx.max
  have HX := Lib.hid hx
  have HLN := Lib.hid hln
  clear hx hln
  obtain ⟨cl, sq, kd, t, lt⟩ := x
  dsimp only [pV] at *
  generalize hr : mayP ⟨cl, sq, kd, t, lt⟩ = r
  unfold mayP at hr
  cases hN : numsP ⟨cl, sq, kd, t, lt⟩ with
  | false =>
    rw [hN, Bool.false_and] at hr
    have HN : Hid (¬ (0 ≤ cl ∧ cl < 4 ∧ 1 ≤ sq ∧ sq ≤ 1073741824)) := by
      show ¬ _
      rw [← numsP_iff (x := ⟨cl, sq, kd, t, lt⟩), hN]
      simp
    subst hr
    clear hN
    go_enter Try.func54, Try.ntmps54
    go_wp2_with fail
    all_goals
      first
        | (exfalso; have := HN.out; omega)
        | (refine bodyPost_ret (results_tmp rfl _ _ _) rfl ?_; exact ⟨rfl, below_alloc _ _⟩)
  | true =>
    rw [hN, Bool.true_and] at hr
    obtain ⟨n1, n2, n3, n4⟩ := numsP_iff.1 hN
    dsimp only at n1 n2 n3 n4 hr
    clear hN
    by_cases h2 : kd = 2
    · subst h2
      rw [if_pos rfl] at hr
      have HR := Lib.hid hr
      clear hr
      go_enter Try.func54, Try.ntmps54
      go_wp2_with fail
      refine (bool_eq HR.out (May_any _ c A n cp t (HX.out.below (below_alloc _ _)))).mono ?_
      rintro e w1 ⟨rfl, q_HB1⟩
      have HB1 := Lib.hid q_HB1
      clear q_HB1
      go_wp2_with fail
      refine bodyPost_ret (results_tmp rfl _ _ _) rfl ?_
      exact ⟨rfl, below_then (below_alloc _ _) HB1.out⟩
    · rw [if_neg h2] at hr
      have hb2 : (kd == 2) = false := by simpa using h2
      have HR := Lib.hid hr
      clear hr h2
      go_enter Try.func54, Try.ntmps54
      go_wp2_with fail
      all_goals
        refine bodyPost_ret (results_tmp rfl _ _ _) rfl ?_
        refine ⟨ret_bool ?_, below_alloc _ _⟩
        rw [← HR.out, emp_len HLN.out, Bool.eq_iff_iff]
        simp
        try omega
        try (cases lt <;> simp <;> omega)
def wordB (x : Rep) : List UInt8 := numB x.client.toNat 1 ++ (numB x.seq.toNat 4 ++ (numB x.kind.toNat 1 ++ ((if x.late = true then numB 1 1 else []) ++ textB (fB x.t))))
theorem wordB_len (x : Rep) : (wordB x).length ≤ 400 := by
  unfold wordB textB
  have := fB_len x.t
  simp only [List.length_append, numB_length]
  split <;> simp [numB_length] <;> omega
theorem TPut_f (w : World) (c : Col) (A : Option Addr) (n cp : Nat) (l : List Fld) (hw : Wf c w) (hx : Rd kFld w c A n cp l) :
    Calls Try.prog 40 #[.slice A n cp] w fun e w' => ∃ A' n' cp' v, e = .returned (.tuple #[.slice A' n' cp', .int .i64 v]) ∧ Rd kU8 w' c A' n' cp' (fB l) ∧ Below w.heap.size w w' := by
  cases hm : mayTB l with
  | false =>
    refine (TPut_no w c A n cp l hm hw hx).mono ?_
    rintro e w' ⟨rfl, hb⟩
    have : fB l = [] := by unfold fB; rw [if_neg (by simp [hm])]
    rw [this]
    exact ⟨none, 0, 0, 1, rfl, Rd.nil _ _ _, hb⟩
  | true =>
    refine (TPut_yes w c A n cp l hm hw hx).mono ?_
    rintro e w' ⟨A', n', cp', rfl, ho, hb⟩
    have : fB l = tupB l := by unfold fB; rw [if_pos hm]
    rw [this]
    exact ⟨A', n', cp', 0, rfl, own_rd ho hw, hb⟩
theorem mayP_nums {x : Rep} (h : mayP x = true) : 0 ≤ x.client ∧ x.client < 4 ∧ 1 ≤ x.seq ∧ x.seq ≤ 1073741824 ∧ 1 ≤ x.kind ∧ x.kind ≤ 7 := by
  unfold mayP at h
  simp only [Bool.and_eq_true] at h
  obtain ⟨h1, h2, h3, h4⟩ := numsP_iff.1 h.1
  have h5 := h.2
  split at h5
  · omega
  · simp only [Bool.and_eq_true, decide_eq_true_eq] at h5
    omega
set_option maxRecDepth 100000 in
set_option maxHeartbeats 2000000 in
theorem CWord_any (w : World) (c : Col) (x : Rep) (A : Option Addr) (n cp : Nat) (hm : mayP x = true) (hw : Wf c w) (hx : Rd kFld w c A n cp x.t) :
    Calls Try.prog 69 #[pV x A n cp] w fun e w' => e = .returned (.string ⟨(wordB x).toArray⟩) ∧ Below w.heap.size w w' := by
  obtain ⟨n1, n2, n3, n4, n5, n6⟩ := mayP_nums hm
  obtain ⟨cl, sq, kd, t, lt⟩ := x
  dsimp only [pV] at *
  have HWF := Lib.hid hw
  have HX := Lib.hid hx
  clear hx
  clear hw hm
  have hwa := HWF.out.below (below_alloc w (.cells #[.int .i64 cl, .int .i64 sq, .int .i64 kd, .slice A n cp, .bool lt] 52))
  obtain ⟨c0, ht0, hW0⟩ : ∃ c0, Tr (fun _ => False) c c0 (w.alloc (.cells #[.int .i64 cl, .int .i64 sq, .int .i64 kd, .slice A n cp, .bool lt] 52)) ((w.alloc (.cells #[.int .i64 cl, .int .i64 sq, .int .i64 kd, .slice A n cp, .bool lt] 52)).alloc (.cells #[.slice none 0 0] 26)) ∧
      Wr ((w.alloc (.cells #[.int .i64 cl, .int .i64 sq, .int .i64 kd, .slice A n cp, .bool lt] 52)).alloc (.cells #[.slice none 0 0] 26)) c0 (w.heap.size + 1) [] := by
    have h := Wr_new (w.alloc (.cells #[.int .i64 cl, .int .i64 sq, .int .i64 kd, .slice A n cp, .bool lt] 52)) c hwa
    have e : (w.alloc (.cells #[.int .i64 cl, .int .i64 sq, .int .i64 kd, .slice A n cp, .bool lt] 52)).heap.size = w.heap.size + 1 := by simp
    rw [e] at h
    exact ⟨_, h⟩
  have HT0 := Lib.hid ht0
  have HTW := Lib.hid ((Tr.new HWF.out _).then ht0)
  have HW0 := Lib.hid hW0
  have HWA := Lib.hid hwa
  clear hW0 hwa
  clear ht0
  have u1 := u64_id n1 (by omega)
  have u2 := u64_id (x := sq) (by omega) (by omega)
  have u3 := u64_id (x := kd) (by omega) (by omega)
  go_enter Try.func69, Try.ntmps69
  go_wp2_with fail
  refine (Num_good _ c0 (w.heap.size + 1) [] cl 1 (by omega) (by omega) (by omega) (by simp) HT0.out.wf HW0.out).mono ?_
  rintro e w2 ⟨rfl, c2, q_HA2, q_HW2⟩
  have HA2 := Lib.hid q_HA2
  have HW2 := Lib.hid q_HW2
  clear q_HA2 q_HW2
  have HT2 := Lib.hid (HT0.out.low HA2.out (by simp))
  have g1 := HT2.out.newcell HWF.out 1 _ rfl
  go_wp2_with fail
  refine (Num_good _ c2 (w.heap.size + 1) _ sq 4 (by omega) (by omega) (by omega) (by simp [numB_length]) HT2.out.wf HW2.out).mono ?_
  rintro e w3 ⟨rfl, c3, q_HA3, q_HW3⟩
  have HA3 := Lib.hid q_HA3
  have HW3 := Lib.hid q_HW3
  clear q_HA3 q_HW3
  have HT3 := Lib.hid (HT2.out.low HA3.out (by simp))
  have g2 := HT3.out.newcell HWF.out 2 _ rfl
  go_wp2_with fail
  refine (Num_good _ c3 (w.heap.size + 1) _ kd 1 (by omega) (by omega) (by omega) (by simp [numB_length]) HT3.out.wf HW3.out).mono ?_
  rintro e w4 ⟨rfl, c4, q_HA4, q_HW4⟩
  have HA4 := Lib.hid q_HA4
  have HW4 := Lib.hid q_HW4
  clear q_HA4 q_HW4
  have HT4 := Lib.hid (HT3.out.low HA4.out (by simp))
  have g4 := HT4.out.newcell HWF.out 4 _ rfl
  have HPRE : Hid (([] ++ numB cl.toNat (1 : Int).toNat ++ numB sq.toNat (4 : Int).toNat ++ numB kd.toNat (1 : Int).toNat : List UInt8) = numB cl.toNat 1 ++ (numB sq.toNat 4 ++ numB kd.toNat 1)) := by show _ = _; simp
  have HLP : Hid ((numB cl.toNat 1 ++ (numB sq.toNat 4 ++ numB kd.toNat 1)).length = 6) := by show _ = _; simp [numB_length]
  rw [HPRE.out] at HW4
  have HWB : Hid (wordB ⟨cl, sq, kd, t, lt⟩ = (numB cl.toNat 1 ++ (numB sq.toNat 4 ++ numB kd.toNat 1)) ++ ((if lt = true then numB 1 1 else []) ++ textB (fB t))) := by show _ = _; simp [wordB]
  generalize numB cl.toNat 1 ++ (numB sq.toNat 4 ++ numB kd.toNat 1) = pre at HPRE HLP HWB HW4
  cases lt with
  | true =>
    go_wp2_with fail
    refine (Num_good _ c4 (w.heap.size + 1) _ 1 1 (by omega) (by omega) (by omega) (by rw [HLP.out]; omega) HT4.out.wf HW4.out).mono ?_
    rintro e w5 ⟨rfl, c5, q_HA5, q_HW5⟩
    have HA5 := Lib.hid q_HA5
    have HW5 := Lib.hid q_HW5
    clear q_HA5 q_HW5
    have HT5 := Lib.hid (HT4.out.low HA5.out (by simp))
    have g3 := HT5.out.newcell HWF.out 3 _ rfl
    go_wp2_with fail
    refine (TPut_f _ c5 A n cp t HT5.out.wf ((HX.out.below (below_alloc _ _)).tr HT5.out)).mono ?_
    rintro e w6 ⟨A6, n6', cp6, v6, rfl, q_HR6, q_HB6⟩
    have HR6 := Lib.hid q_HR6
    have HB6 := Lib.hid q_HB6
    clear q_HR6 q_HB6
    have HT6 := Lib.hid (HT5.out.then (Tr.of_below HT5.out.wf HB6.out))
    go_wp2_with fail
    refine (Text_any _ c5 (w.heap.size + 1) _ (fB t) A6 n6' cp6 (by rw [List.length_append, HLP.out]; have := fB_len t; simp [numB_length]; omega) HT6.out.wf (HW5.out.tr (Tr.of_below (M := fun _ => False) HT5.out.wf HB6.out) (fun h => h)) HR6.out).mono ?_
    rintro e w7 ⟨rfl, c7, q_HA7, q_HW7⟩
    have HA7 := Lib.hid q_HA7
    have HW7 := Lib.hid q_HW7
    clear q_HA7 q_HW7
    have HT7 := Lib.hid (HT6.out.low HA7.out (by simp))
    go_wp2_with fail
    refine (Bytes_own _ c7 (w.heap.size + 1) _ (by simp only [List.length_append, HLP.out, textB]; have := fB_len t; simp [numB_length]; omega) HT7.out.wf HW7.out).mono ?_
    rintro e w8 ⟨A8, n8, cp8, rfl, q_HO8, q_HB8⟩
    have HO8 := Lib.hid q_HO8
    have HB8 := Lib.hid q_HB8
    clear q_HO8 q_HB8
    have HR8 := Lib.hid (own_rd HO8.out HT7.out.wf)
    have hcv := conv_str (P := Try.prog) 24 9 5 Try.underlying24 Try.underlying5 Try.underlying9 HR8.out
    go_wp2_with fail
    refine bodyPost_ret (results_tmp rfl _ _ _) rfl ?_
    refine ⟨?_, ?_⟩
    · rw [HWB.out]; simp
    · exact below_then (((Tr.new HWF.out _).then HT7.out).below (fun _ _ h => h)) HB8.out
  | false =>
    have g3 := HT4.out.newcell HWF.out 3 _ rfl
    go_wp2_with fail
    refine (TPut_f _ c4 A n cp t HT4.out.wf ((HX.out.below (below_alloc _ _)).tr HT4.out)).mono ?_
    rintro e w6 ⟨A6, n6', cp6, v6, rfl, q_HR6, q_HB6⟩
    have HR6 := Lib.hid q_HR6
    have HB6 := Lib.hid q_HB6
    clear q_HR6 q_HB6
    have HT6 := Lib.hid (HT4.out.then (Tr.of_below HT4.out.wf HB6.out))
    go_wp2_with fail
    refine (Text_any _ c4 (w.heap.size + 1) _ (fB t) A6 n6' cp6 (by rw [HLP.out]; have := fB_len t; omega) HT6.out.wf (HW4.out.tr (Tr.of_below (M := fun _ => False) HT4.out.wf HB6.out) (fun h => h)) HR6.out).mono ?_
    rintro e w7 ⟨rfl, c7, q_HA7, q_HW7⟩
    have HA7 := Lib.hid q_HA7
    have HW7 := Lib.hid q_HW7
    clear q_HA7 q_HW7
    have HT7 := Lib.hid (HT6.out.low HA7.out (by simp))
    go_wp2_with fail
    refine (Bytes_own _ c7 (w.heap.size + 1) _ (by simp only [List.length_append, HLP.out, textB]; have := fB_len t; simp [numB_length]; omega) HT7.out.wf HW7.out).mono ?_
    rintro e w8 ⟨A8, n8, cp8, rfl, q_HO8, q_HB8⟩
    have HO8 := Lib.hid q_HO8
    have HB8 := Lib.hid q_HB8
    clear q_HO8 q_HB8
    have HR8 := Lib.hid (own_rd HO8.out HT7.out.wf)
    have hcv := conv_str (P := Try.prog) 24 9 5 Try.underlying24 Try.underlying5 Try.underlying9 HR8.out
    go_wp2_with fail
    refine bodyPost_ret (results_tmp rfl _ _ _) rfl ?_
    refine ⟨?_, ?_⟩
    · rw [HWB.out]; simp
    · exact below_then (((Tr.new HWF.out _).then HT7.out).below (fun _ _ h => h)) HB8.out
end Go.Proofs.Ytladpckbajnbeaa
