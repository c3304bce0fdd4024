/- ref6: PutFields. -/
import Derived.Test.YtladpckbajnbeaaRef1
import Derived.Test.YtladpckbajnbeaaRef6A
import Derived.Test.YtladpckbajnbeaaTupC
set_option linter.unusedVariables false
set_option linter.unusedSimpArgs false
namespace Go.Proofs.Ytladpckbajnbeaa
open Go.RowKit

theorem own_kb1 {W : World} {b n : Nat} {e : TypeId} {v : Value} {ys : List UInt8} (h : W.ownsRow b e 1 v n (bcells ys ++ #[Value.int .u8 1].toList)) : W.ownsRow b e 1 v n (bcells (ys ++ numB 1 1)) := by
  have : bcells (ys ++ numB 1 1) = bcells ys ++ #[Value.int .u8 1].toList := by rw [bcells_append]; rfl
  rw [this]
  exact h
theorem own_kb2 {W : World} {b n : Nat} {e : TypeId} {v : Value} {ys : List UInt8} (h : W.ownsRow b e 1 v n (bcells ys ++ #[Value.int .u8 2].toList)) : W.ownsRow b e 1 v n (bcells (ys ++ numB 2 1)) := by
  have : bcells (ys ++ numB 2 1) = bcells ys ++ #[Value.int .u8 2].toList := by rw [bcells_append]; rfl
  rw [this]
  exact h
theorem own_kb3 {W : World} {b n : Nat} {e : TypeId} {v : Value} {ys : List UInt8} (h : W.ownsRow b e 1 v n (bcells ys ++ #[Value.int .u8 3].toList)) : W.ownsRow b e 1 v n (bcells (ys ++ numB 3 1)) := by
  have : bcells (ys ++ numB 3 1) = bcells ys ++ #[Value.int .u8 3].toList := by rw [bcells_append]; rfl
  rw [this]
  exact h
theorem own_kb4 {W : World} {b n : Nat} {e : TypeId} {v : Value} {ys : List UInt8} (h : W.ownsRow b e 1 v n (bcells ys ++ #[Value.int .u8 4].toList)) : W.ownsRow b e 1 v n (bcells (ys ++ numB 4 1)) := by
  have : bcells (ys ++ numB 4 1) = bcells ys ++ #[Value.int .u8 4].toList := by rw [bcells_append]; rfl
  rw [this]
  exact h
theorem own_kb5 {W : World} {b n : Nat} {e : TypeId} {v : Value} {ys : List UInt8} (h : W.ownsRow b e 1 v n (bcells ys ++ #[Value.int .u8 5].toList)) : W.ownsRow b e 1 v n (bcells (ys ++ numB 5 1)) := by
  have : bcells (ys ++ numB 5 1) = bcells ys ++ #[Value.int .u8 5].toList := by rw [bcells_append]; rfl
  rw [this]
  exact h

set_option maxRecDepth 100000 in
set_option maxHeartbeats 4000000 in
theorem r6Put_any (w : World) (c : Col) (A : Option Addr) (n cp : Nat) (l : List Fld) (hmay : mayTB l = true) (hw : Wf c w) (hx : Rd kFld w c A n cp l) :
    Calls Try.prog 44 #[.slice A n cp] w (OwnPost w (tupB l)) := by
  have hln := hx.1
  have HX := Lib.hid hx
  have HL := Lib.hid hln
  have HF := Lib.hid hw
  clear hx hln hw
  have hall : (∀ x ∈ l, askedB x = true) ∧ 1 ≤ n ∧ n ≤ 6 := by
    unfold mayTB at hmay
    simp only [Bool.and_eq_true, decide_eq_true_eq, List.all_eq_true] at hmay
    exact ⟨hmay.2.2, by have := HL.out; omega, by have := HL.out; omega⟩
  obtain ⟨hall, hn1, hn6⟩ := hall
  have HALL := Lib.hid hall
  clear hall
  clear hmay
  go_enter Try.func44, Try.ntmps44
  go_wp2_with fail
  refine (R1Num_any w n 1 (by omega)).mono ?_
  rintro e w1 ⟨A1, n1, cp1, rfl, q_HO1, q_HB1⟩
  have HO1 := Lib.hid q_HO1
  have HB1 := Lib.hid q_HB1
  clear q_HO1 q_HB1
  have HN1 : Hid (numW n 1 = numB n 1) := rfl
  rw [HN1.out] at HO1
  go_wp2_with fail
  go_loopw [3, 4] (fun o i wr => ∃ (k : Nat) (A1 : Option Addr) (m cp1 : Nat), i = .int .i64 (k : Int) ∧ o = .slice A1 m cp1 ∧ k ≤ n ∧ Hid (wr.ownsRow w.heap.size 5 1 (.slice A1 m cp1) m (bcells (numB n 1 ++ (l.take k).flatMap fldB))) ∧ Hid (Below w.heap.size w wr)) (fun _ i _ => n - (intOf i).toNat)
  case atStart => exact ⟨0, A1, n1, cp1, rfl, rfl, by omega, by show World.ownsRow _ _ _ _ _ _ _; simpa using HO1.out, HB1.out⟩
  case round =>
    obtain ⟨k, A1, m, cp1, rfl, rfl, hk, ho, hbl⟩ := hrel
    by_cases hlt : k < n
    · obtain ⟨bb, off, rfl⟩ := HX.out.addr (by omega)
      have hel := getD_at' l ⟨0, 0, []⟩ (k := k) (by have := HL.out; omega)
      generalize l[k]?.getD ⟨0, 0, []⟩ = x at hel
      obtain ⟨_, h0, h1, h2⟩ := (HX.out.below hbl.out).fld hel
      have HTK := Lib.hid (take_snoc' hel)
      obtain ⟨hk1, hk5, hs40⟩ := asked_kind (HALL.out x (List.mem_of_getElem? hel))
      have hpl := flds_len (l := l.take k) fun y hy => HALL.out y (List.mem_of_mem_take hy)
      have hm400 : m ≤ 400 := by
        have := own_len ho.out
        rw [List.length_append, numB_length] at this
        rw [List.length_take] at hpl
        omega
      have hgw := hbl.out.size
      have HS40 := Lib.hid hs40
      have HEL := Lib.hid hel
      clear hs40 hel
      clear hpl
      generalize hys : numB n 1 ++ (l.take k).flatMap fldB = ys at ho
      have HYS : Hid (numB n 1 ++ (l.take (k + 1)).flatMap fldB = ys ++ fldB x) := by show _ = _; rw [HTK.out, List.flatMap_append, List.flatMap_singleton, ← List.append_assoc, hys]
      clear hys
      have hkd : x.kind = 1 ∨ x.kind = 2 ∨ x.kind = 3 ∨ x.kind = 4 ∨ x.kind = 5 := by omega
      rcases hkd with hkd | hkd | hkd | hkd | hkd
      · have HFB : Hid (fldB x = numB 1 1 ++ numB (u64N x.n) 8) := by show _ = _; unfold fldB; rw [if_pos hkd, hkd]; rfl
        rw [hkd] at h0
        go_wp2_with (at_builtin; go_must (refine app_one_own (base := w.heap.size) (.tmp 18) (.tmp 25) 24 5 (.int .u8 0) 1 1 rfl rfl Try.underlying24 u8_info rfl (by decide) (by decide) (bcells ys) _ rfl rfl rfl (one_cell rfl) hgw hbl.out ho.out (by omega) ?_; intro A2 cp2 w1 q_hb1 q_hown1 hs1; have HB1 := Lib.hid q_hb1; have HO1 := Lib.hid (own_kb1 q_hown1); obtain ⟨_, e0, e1, e2⟩ := (HX.out.below q_hb1).fld HEL.out; rw [hkd] at e0; clear q_hb1 q_hown1))
        refine (R1Num_any w1 (IntKind.u64.wrap x.n) 8 (u64_pos _)).mono ?_
        rintro e w2 ⟨A3, n3, cp3, rfl, q_HO3, q_HB3⟩
        have HO3 := Lib.hid q_HO3
        have HB3 := Lib.hid q_HB3
        clear q_HO3 q_HB3
        have HR3 := Lib.hid (own_rd HO3.out (HF.out.below HB1.out))
        have HO4 := Lib.hid (own_below HO1.out HB3.out)
        have HBB := Lib.hid (HB1.out.trans (HB3.out.mono (by have := HB1.out.size; omega)))
        have hn3 : n3 = 8 := by have := own_len HO3.out; rw [show numW (IntKind.u64.wrap x.n) 8 = numB (u64N x.n) 8 from rfl, numB_length] at this; omega
        subst hn3
        go_wp2_with (at_builtin; go_must (refine app_bytes_new (w0 := w) (c := c) (.tmp 34) (.tmp 41) 24 5 rfl rfl Try.underlying24 u8_info (ys ++ numB 1 1) (numW (IntKind.u64.wrap x.n) 8) rfl rfl HBB.out HO4.out HR3.out (by omega) ?_); intro A5 cp5 w5 q_hb5 q_hr5 q_hown5 hs5; have HB5 := Lib.hid q_hb5; have HO5 := Lib.hid q_hown5; clear q_hb5 q_hr5 q_hown5)
        refine ⟨⟨k + 1, A5, _, cp5, by go_num, rfl, by omega, ?_, HB5.out⟩, by simp [intOf]; omega⟩
        show World.ownsRow _ _ _ _ _ _ _
        rw [HYS.out, HFB.out, ← List.append_assoc]
        exact HO5.out
      · have HFB : Hid (fldB x = numB 2 1 ++ textB x.s) := by show _ = _; unfold fldB; rw [if_neg (by omega), if_pos hkd, hkd]; rfl
        rw [hkd] at h0
        have hs4 := HS40.out hkd
        go_wp2_with (at_builtin; go_must (refine app_one_own (base := w.heap.size) (.tmp 18) (.tmp 25) 24 5 (.int .u8 0) 1 1 rfl rfl Try.underlying24 u8_info rfl (by decide) (by decide) (bcells ys) _ rfl rfl rfl (one_cell rfl) hgw hbl.out ho.out (by omega) ?_; intro A2 cp2 w1 q_hb1 q_hown1 hs1; have HB1 := Lib.hid q_hb1; have HO1 := Lib.hid (own_kb2 q_hown1); obtain ⟨_, e0, e1, e2⟩ := (HX.out.below q_hb1).fld HEL.out; rw [hkd] at e0; obtain ⟨cpb, wb, hcv, q_HBB, hbl2, q_HRB⟩ := conv_bytes 9 24 5 Try.underlying9 rfl Try.underlying24 Try.underlying5 w1 x.s (by omega); have HBB := Lib.hid q_HBB; have HRB := Lib.hid q_HRB; clear q_HBB q_HRB q_hb1 q_hown1))
        refine (R1Text_any wb c _ _ _ x.s (by omega) ((HF.out.below HB1.out).below HBB.out) (HRB.out c (HF.out.below HB1.out))).mono ?_
        rintro e w2 ⟨A3, n3, cp3, rfl, q_HO3, q_HB3⟩
        have HO3 := Lib.hid q_HO3
        have HB3 := Lib.hid q_HB3
        clear q_HO3 q_HB3
        have HB13 := Lib.hid (below_then HBB.out HB3.out)
        have HR3 := Lib.hid (own_rd HO3.out ((HF.out.below HB1.out).below HBB.out))
        have HO4 := Lib.hid (own_below HO1.out HB13.out)
        have HB14 := Lib.hid (HB1.out.trans (HB13.out.mono (by have := HB1.out.size; omega)))
        have hn3 : n3 ≤ 44 := by have := own_len HO3.out; unfold textB at this; rw [List.length_append, numB_length] at this; omega
        go_wp2_with (at_builtin; go_must (refine app_bytes_new (w0 := w) (c := c) (.tmp 45) (.tmp 52) 24 5 rfl rfl Try.underlying24 u8_info (ys ++ numB 2 1) (textB x.s) rfl rfl HB14.out HO4.out HR3.out (by omega) ?_); intro A5 cp5 w5 q_hb5 q_hr5 q_hown5 hs5; have HB5 := Lib.hid q_hb5; have HO5 := Lib.hid q_hown5; clear q_hb5 q_hr5 q_hown5)
        refine ⟨⟨k + 1, A5, _, cp5, by go_num, rfl, by omega, ?_, HB5.out⟩, by simp [intOf]; omega⟩
        show World.ownsRow _ _ _ _ _ _ _
        rw [HYS.out, HFB.out, ← List.append_assoc]
        exact HO5.out
      · have HFB : Hid (fldB x = numB 3 1) := by show _ = _; unfold fldB; rw [if_neg (by omega), if_neg (by omega), List.append_nil, hkd]; rfl
        rw [hkd] at h0
        go_wp2_with (at_builtin; go_must (refine app_one_own (base := w.heap.size) (.tmp 18) (.tmp 25) 24 5 (.int .u8 0) 1 1 rfl rfl Try.underlying24 u8_info rfl (by decide) (by decide) (bcells ys) _ rfl rfl rfl (one_cell rfl) hgw hbl.out ho.out (by omega) ?_; intro A2 cp2 w1 q_hb1 q_hown1 hs1; have HB1 := Lib.hid q_hb1; have HO1 := Lib.hid (own_kb3 q_hown1); obtain ⟨_, e0, e1, e2⟩ := (HX.out.below q_hb1).fld HEL.out; rw [hkd] at e0; clear q_hb1 q_hown1))
        refine ⟨⟨k + 1, A2, _, cp2, by go_num, rfl, by omega, ?_, HB1.out⟩, by simp [intOf]; omega⟩
        show World.ownsRow _ _ _ _ _ _ _
        rw [HYS.out, HFB.out]
        exact HO1.out
      · have HFB : Hid (fldB x = numB 4 1) := by show _ = _; unfold fldB; rw [if_neg (by omega), if_neg (by omega), List.append_nil, hkd]; rfl
        rw [hkd] at h0
        go_wp2_with (at_builtin; go_must (refine app_one_own (base := w.heap.size) (.tmp 18) (.tmp 25) 24 5 (.int .u8 0) 1 1 rfl rfl Try.underlying24 u8_info rfl (by decide) (by decide) (bcells ys) _ rfl rfl rfl (one_cell rfl) hgw hbl.out ho.out (by omega) ?_; intro A2 cp2 w1 q_hb1 q_hown1 hs1; have HB1 := Lib.hid q_hb1; have HO1 := Lib.hid (own_kb4 q_hown1); obtain ⟨_, e0, e1, e2⟩ := (HX.out.below q_hb1).fld HEL.out; rw [hkd] at e0; clear q_hb1 q_hown1))
        refine ⟨⟨k + 1, A2, _, cp2, by go_num, rfl, by omega, ?_, HB1.out⟩, by simp [intOf]; omega⟩
        show World.ownsRow _ _ _ _ _ _ _
        rw [HYS.out, HFB.out]
        exact HO1.out
      · have HFB : Hid (fldB x = numB 5 1) := by show _ = _; unfold fldB; rw [if_neg (by omega), if_neg (by omega), List.append_nil, hkd]; rfl
        rw [hkd] at h0
        go_wp2_with (at_builtin; go_must (refine app_one_own (base := w.heap.size) (.tmp 18) (.tmp 25) 24 5 (.int .u8 0) 1 1 rfl rfl Try.underlying24 u8_info rfl (by decide) (by decide) (bcells ys) _ rfl rfl rfl (one_cell rfl) hgw hbl.out ho.out (by omega) ?_; intro A2 cp2 w1 q_hb1 q_hown1 hs1; have HB1 := Lib.hid q_hb1; have HO1 := Lib.hid (own_kb5 q_hown1); obtain ⟨_, e0, e1, e2⟩ := (HX.out.below q_hb1).fld HEL.out; rw [hkd] at e0; clear q_hb1 q_hown1))
        refine ⟨⟨k + 1, A2, _, cp2, by go_num, rfl, by omega, ?_, HB1.out⟩, by simp [intOf]; omega⟩
        show World.ownsRow _ _ _ _ _ _ _
        rw [HYS.out, HFB.out]
        exact HO1.out
    · obtain rfl : k = n := by omega
      have HK : Hid (l.take k = l) := List.take_of_length_le (by have := HL.out; omega)
      go_wp2_with fail
      go_ret
      refine ⟨A1, m, cp1, rfl, ?_, hbl.out⟩
      unfold tupB
      have := ho.out
      rw [HK.out] at this
      rw [HL.out]
      exact this
end Go.Proofs.Ytladpckbajnbeaa
