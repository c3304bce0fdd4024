/- The law ClientNews: its walk. -/
import Derived.Test.YtladpckbajnbeaaCliI
import Derived.Test.YtladpckbajnbeaaTupleBack
set_option linter.unusedVariables false
set_option linter.unusedSimpArgs false
namespace Go.Proofs.Ytladpckbajnbeaa
open Go.RowKit

def newsX : Rep := ⟨1, 4, 4, [], false⟩
def newsY : Rep := ⟨1, 4, 2, [⟨1, 9, []⟩], true⟩
theorem newsX_may : mayP newsX = true := by decide
theorem newsY_may : mayP newsY = true := by decide
theorem news_ne : wordB newsX ≠ wordB newsY := by decide
theorem news_ne' : wordB newsY ≠ wordB newsX := by decide
def S0 : Sd := fun _ => allF
set_option maxRecDepth 100000 in
set_option maxHeartbeats 4000000 in
theorem ClientNews_any (w : World) (f a b : Int) : Calls Try.prog 6 #[.int .i64 f, .int .i64 a, .int .i64 b] w (BoolPost w true) := by
  obtain ⟨k, hk, hk3⟩ := rem_small f 3 (by omega) (by omega)
  obtain ⟨n, hn, hn8⟩ := rem_small a 8 (by omega) (by omega)
  obtain ⟨m, hm, hm8⟩ := rem_small b 8 (by omega) (by omega)
  simp at hk hn hm
  go_enter Try.func6, Try.ntmps6
  go_wp2_with fail
  refine (CNew_ok w (fun _ => none) (k : Int) (by omega) (by omega) (Wf.none w)).mono ?_
  rintro e w1 ⟨g, c1, rfl, q_HT1, hg, q_HD1⟩
  have HT1 := Lib.hid q_HT1
  have HD1 := Lib.hid q_HD1
  clear q_HT1 q_HD1
  have hw1 := HT1.out.wf
  have HX2 := Lib.hid (Loc.new c1 w1 52 #[.int .i64 1, .int .i64 4, .int .i64 4, .slice none 0 0, .bool false])
  have ht2 := (Tr.new hw1 (.cells #[.int .i64 1, .int .i64 4, .int .i64 4, .slice none 0 0, .bool false] 52)).hot (k := w1.heap.size) (g := w1.heap.size) (Nat.le_refl _) (by simp) (by simp) (.inr (Nat.le_refl _))
  generalize hW2 : w1.alloc (.cells #[.int .i64 1, .int .i64 4, .int .i64 4, .slice none 0 0, .bool false] 52) = W2 at HX2 ht2
  generalize hc2 : c1.set w1.heap.size w1.heap.size = c2 at HX2 ht2
  have hs2 : W2.heap.size = w1.heap.size + 1 := by rw [← hW2]; simp
  have hf0 : Fld.ok ⟨1, 9, []⟩ := ⟨by decide, by decide, by decide⟩
  have HF3 := Lib.hid (Rd.of_alloc (K := kFld) (l := [⟨1, 9, []⟩]) (cells := fCells ⟨1, 9, []⟩) ht2.wf 54 (Reps.one ⟨rfl, hf0⟩) (by simp))
  have ht3 := Tr.new ht2.wf (.cells #[.int .i64 1, .int .i64 9, .string ⟨#[]⟩] 54)
  have hW3 : Obj.cells (fCells ⟨1, 9, []⟩).toArray 54 = Obj.cells #[.int .i64 1, .int .i64 9, .string ⟨#[]⟩] 54 := rfl
  rw [hW3] at HF3
  clear hW3
  have HX3 := Lib.hid (HX2.out.tr ht3 (fun h => h))
  have hs3 : (W2.alloc (.cells #[.int .i64 1, .int .i64 9, .string ⟨#[]⟩] 54)).heap.size = w1.heap.size + 2 := by simp [hs2]
  have HY4 := Lib.hid (Loc.new c2 (W2.alloc (.cells #[.int .i64 1, .int .i64 9, .string ⟨#[]⟩] 54)) 52 #[.int .i64 1, .int .i64 4, .int .i64 2, .slice (some ⟨w1.heap.size + 1, 0, none⟩) 1 1, .bool true])
  have ht4 := (Tr.new ht3.wf (.cells #[.int .i64 1, .int .i64 4, .int .i64 2, .slice (some ⟨w1.heap.size + 1, 0, none⟩) 1 1, .bool true] 52)).hot (k := (W2.alloc (.cells #[.int .i64 1, .int .i64 9, .string ⟨#[]⟩] 54)).heap.size) (g := (W2.alloc (.cells #[.int .i64 1, .int .i64 9, .string ⟨#[]⟩] 54)).heap.size) (Nat.le_refl _) (by simp) (by simp) (.inr (Nat.le_refl _))
  have HX4 := Lib.hid (HX3.out.tr ht4 (fun h => h))
  have HF4 := Lib.hid (HF3.out.tr ht4)
  have HT4 := Lib.hid (((HT1.out.then ht2).then ht3).then ht4)
  have HD4 := Lib.hid (((HD1.out.tr ht2 (fun h => h)).tr ht3 (fun h => h)).tr ht4 (fun h => h))
  rw [hs3] at HY4 HX4 HF4 HT4 HD4
  rw [hs2] at HF4
  have hgl := HD1.out.lt
  clear ht4 ht3 ht2 hw1 hf0
  generalize hc4 : c2.set (w1.heap.size + 2) (w1.heap.size + 2) = c4 at HY4 HX4 HF4 HT4 HD4
  have HW2 := Lib.hid hW2
  clear hc4 hc2 hW2
  go_wp2_with fail
  rw [HW2.out]
  clear HW2
  generalize (W2.alloc (.cells #[.int .i64 1, .int .i64 9, .string ⟨#[]⟩] 54)).alloc (.cells #[.int .i64 1, .int .i64 4, .int .i64 2, .slice (some ⟨w1.heap.size + 1, 0, none⟩) 1 1, .bool true] 52) = W4 at *
  simp only [hn, hm, Nat.add_assoc, Nat.reduceAdd]
  generalize hbx : w1.heap.size = bx at *
  clear HX2 HX3 HF3 HT1 HD1 hs2 hs3
  have hgw : g < W4.heap.size := HD4.out.lt
  go_loopw [14, 16] (fun o v wr => ∃ (j L : Nat) (c' : Col) (S : Sd) (T : List Rep), v = .int .i64 (j : Int) ∧ o = .int .i64 (L : Int) ∧ j ≤ n ∧ L ≤ 1 ∧ Hid (T = if k < min j (3 * k + 1) then [newsX] else []) ∧ Hid (T.length = L) ∧ Hid (S (wordB newsX) = firstT (min j (3 * k + 1))) ∧ Hid (S (wordB newsY) = allF) ∧
    Hid (Tr (fun _ => False) (fun _ => none) c' w wr) ∧ Hid (Dsk wr c' g (k : Int) S T j) ∧ Hid (Loc wr c' bx 52 #[.int .i64 1, .int .i64 4, .int .i64 4, .slice none 0 0, .bool false]) ∧
    Hid (Loc wr c' (bx + 2) 52 #[.int .i64 1, .int .i64 4, .int .i64 2, .slice (some ⟨bx + 1, 0, none⟩) 1 1, .bool true]) ∧ Hid (Rd kFld wr c' (some ⟨bx + 1, 0, none⟩) 1 1 [⟨1, 9, []⟩])) (fun _ v _ => n - (intOf v).toNat)
  case atStart => exact ⟨0, 0, c4, fun _ => allF, [], rfl, rfl, by omega, by omega, by show _ = _; rw [Nat.zero_min, if_neg (by omega)], rfl, by show _ = _; rw [Nat.zero_min, firstT_zero], rfl, HT4.out, HD4.out, HX4.out, HY4.out, HF4.out⟩
  case round =>
    obtain ⟨j, L, c', S, T, rfl, rfl, hj, hL1, HTE, HTL, HS1, HS2, HT, HD, HX, HY, HF⟩ := hrel
    by_cases hlt : j < n
    · have hj1 : (j : Int) < (n : Int) := by omega
      have x0 := HX.out.cell 0
      have x1 := HX.out.cell 1
      have x2 := HX.out.cell 2
      have x3 := HX.out.cell 3
      have x4 := HX.out.cell 4
      simp at x0 x1 x2 x3 x4
      have HR := Lib.hid (rep1 HT.out.wf newsX (Rd.nil kFld wr c'))
      have HTA := Lib.hid (HT.out.alloc (.cells #[.int .i64 1, .int .i64 4, .int .i64 4, .slice none 0 0, .bool false] 52))
      have htn := Tr.new HT.out.wf (.cells #[.int .i64 1, .int .i64 4, .int .i64 4, .slice none 0 0, .bool false] 52)
      have HTN := Lib.hid htn
      have HDA := Lib.hid (HD.out.tr htn (fun h => h))
      clear htn
      by_cases hjk : j ≤ 3 * k
      · obtain ⟨S', out, h1, h2, h3, h4⟩ := news_round (T0 := []) newsX_may hk3 hjk HS1.out
        simp only [List.nil_append] at h1
        rw [← HTE.out] at h1 h4
        generalize hT' : (if k < min (j + 1) (3 * k + 1) then [newsX] else []) = T' at h1 h4
        have hl' : T'.length ≤ 1 := by rw [← hT']; split <;> simp
        rw [HTL.out] at h4
        have HTE' := Lib.hid hT'.symm
        clear hT'
        have HH := Lib.hid (CHear_eq _ c' g k S _ j j j (some ⟨wr.heap.size, 0, none⟩) 1 1 [newsX] _ _ _ h1 rfl (by omega) (by omega) (by omega) (by omega) HTA.out.wf HDA.out HR.out)
        have H1 := Lib.hid h1
        have H2 := Lib.hid h2
        have H3 := Lib.hid h3
        clear h1 h2 h3
        go_wp2_with fail
        refine (HH.out).mono ?_
        rintro e w5 ⟨B5, cp5, rfl, c5, q_HR5, q_HT5, q_HD5⟩
        have HR5 := Lib.hid q_HR5
        have HT5 := Lib.hid q_HT5
        have HD5 := Lib.hid q_HD5
        clear q_HR5 q_HT5 q_HD5
        have HT6 := Lib.hid (HTA.out.low HT5.out hg)
        have HX6 := Lib.hid ((HX.out.tr HTN.out (fun h => h)).tr HT5.out (by omega))
        have HY6 := Lib.hid ((HY.out.tr HTN.out (fun h => h)).tr HT5.out (by omega))
        have HF6 := Lib.hid ((HF.out.tr HTN.out).tr HT5.out)
        go_wp2_with fail
        exact ⟨⟨j + 1, T'.length, c5, S', T', by simp, by simp; omega, by omega, hl', HTE'.out, rfl, H2.out, (H3.out _ news_ne').trans HS2.out, HT6.out, HD5.out, HX6.out, HY6.out, HF6.out⟩, by simp [intOf]; omega⟩
      · have e1 : min j (3 * k + 1) = 3 * k + 1 := by omega
        have e2 : min (j + 1) (3 * k + 1) = 3 * k + 1 := by omega
        go_wp2_with fail
        refine (CHear_off _ c' g k S T j j (some ⟨wr.heap.size, 0, none⟩) 1 1 (by omega) (by omega) (by omega) HDA.out).mono ?_
        rintro e w5 ⟨rfl, rfl⟩
        have HX6 := Lib.hid (HX.out.tr HTN.out (fun h => h))
        have HY6 := Lib.hid (HY.out.tr HTN.out (fun h => h))
        have HF6 := Lib.hid (HF.out.tr HTN.out)
        go_wp2_with fail
        exact ⟨⟨j + 1, L, c', S, T, by simp, by simp, by omega, hL1, by show _ = _; rw [e2, ← e1]; exact HTE.out, HTL.out, by show _ = _; rw [e2, ← e1]; exact HS1.out, HS2.out, HTA.out, HDA.out.mono (by omega), HX6.out, HY6.out, HF6.out⟩, by simp [intOf]; omega⟩
    · have hjn : j = n := by omega
      subst hjn
      have hge : ¬ ((j : Int) < (j : Int)) := by omega
      go_wp2_with fail
      have HT0 := HT
      have HD0 := HD
      have hgw2 : g < wr.heap.size := HD.out.lt
      go_loopw [15, 17] (fun o v wr => ∃ (i L2 : Nat) (c' : Col) (S2 : Sd) (TY : List Rep), v = .int .i64 (i : Int) ∧ o = .int .i64 (L2 : Int) ∧ i ≤ m ∧ L2 ≤ 1 ∧ Hid (TY = if k < min i (3 * k + 1) then [newsY] else []) ∧ Hid (TY.length = L2) ∧ Hid (S2 (wordB newsY) = firstT (min i (3 * k + 1))) ∧
        Hid (Tr (fun _ => False) (fun _ => none) c' w wr) ∧ Hid (Dsk wr c' g (k : Int) S2 (T ++ TY) (j + i)) ∧ Hid (Loc wr c' bx 52 #[.int .i64 1, .int .i64 4, .int .i64 4, .slice none 0 0, .bool false]) ∧
        Hid (Loc wr c' (bx + 2) 52 #[.int .i64 1, .int .i64 4, .int .i64 2, .slice (some ⟨bx + 1, 0, none⟩) 1 1, .bool true]) ∧ Hid (Rd kFld wr c' (some ⟨bx + 1, 0, none⟩) 1 1 [⟨1, 9, []⟩])) (fun _ v _ => m - (intOf v).toNat)
      case atStart => exact ⟨0, 0, c', S, [], rfl, rfl, by omega, by omega, by show _ = _; rw [Nat.zero_min, if_neg (by omega)], rfl, by show _ = _; rw [Nat.zero_min, firstT_zero]; exact HS2.out, HT.out, by rw [List.append_nil]; exact HD.out, HX.out, HY.out, HF.out⟩
      case round =>
        obtain ⟨i, L2, c2, S2, TY, rfl, rfl, hi, hL2, HTE2, HTL2, HSY, HT2, HD2, HX2, HY2, HF2⟩ := hrel
        by_cases hlt2 : i < m
        · have hi1 : (i : Int) < (m : Int) := by omega
          have x0 := HX2.out.cell 0
          have x1 := HX2.out.cell 1
          have x2 := HX2.out.cell 2
          have x3 := HX2.out.cell 3
          have x4 := HX2.out.cell 4
          have y0 := HY2.out.cell 0
          have y1 := HY2.out.cell 1
          have y2 := HY2.out.cell 2
          have y3 := HY2.out.cell 3
          have y4 := HY2.out.cell 4
          simp at x0 x1 x2 x3 x4 y0 y1 y2 y3 y4
          have HR := Lib.hid ((Rd.of_alloc (K := kRep) (l := [newsY, newsX, newsY]) (cells := [.int .i64 1, .int .i64 4, .int .i64 2, .slice (some ⟨bx + 1, 0, none⟩) 1 1, .bool true, .int .i64 1, .int .i64 4, .int .i64 4, .slice none 0 0, .bool false, .int .i64 1, .int .i64 4, .int .i64 2, .slice (some ⟨bx + 1, 0, none⟩) 1 1, .bool true]) HT2.out.wf 52
            (((Reps.one (K := kRep) (x := newsY) (cs := [.int .i64 1, .int .i64 4, .int .i64 2, .slice (some ⟨bx + 1, 0, none⟩) 1 1, .bool true]) ⟨_, 1, 1, rfl, HF2.out⟩).append (Reps.one (K := kRep) (x := newsX) (cs := [.int .i64 1, .int .i64 4, .int .i64 4, .slice none 0 0, .bool false]) ⟨none, 0, 0, rfl, Rd.nil _ _ _⟩)).append (Reps.one (K := kRep) (x := newsY) (cs := [.int .i64 1, .int .i64 4, .int .i64 2, .slice (some ⟨bx + 1, 0, none⟩) 1 1, .bool true]) ⟨_, 1, 1, rfl, HF2.out⟩)) (by simp)).take (m := 1) (by simp))
          have htn := Tr.new HT2.out.wf (.cells #[.int .i64 1, .int .i64 4, .int .i64 2, .slice (some ⟨bx + 1, 0, none⟩) 1 1, .bool true, .int .i64 1, .int .i64 4, .int .i64 4, .slice none 0 0, .bool false, .int .i64 1, .int .i64 4, .int .i64 2, .slice (some ⟨bx + 1, 0, none⟩) 1 1, .bool true] 52)
          have HTA := Lib.hid (HT2.out.alloc (.cells #[.int .i64 1, .int .i64 4, .int .i64 2, .slice (some ⟨bx + 1, 0, none⟩) 1 1, .bool true, .int .i64 1, .int .i64 4, .int .i64 4, .slice none 0 0, .bool false, .int .i64 1, .int .i64 4, .int .i64 2, .slice (some ⟨bx + 1, 0, none⟩) 1 1, .bool true] 52))
          have HTN := Lib.hid htn
          have HDA := Lib.hid (HD2.out.tr htn (fun h => h))
          clear htn
          by_cases hjk : i ≤ 3 * k
          · obtain ⟨S', out, h1, h2, h3, h4⟩ := news_round (T0 := T) newsY_may hk3 hjk HSY.out
            rw [← HTE2.out] at h1 h4
            generalize hT' : (if k < min (i + 1) (3 * k + 1) then [newsY] else []) = T' at h1 h4
            have hl' : T'.length ≤ 1 := by rw [← hT']; split <;> simp
            rw [HTL2.out] at h4
            have HTE' := Lib.hid hT'.symm
            clear hT'
            have HH := Lib.hid (CHear_eq _ c2 g k S2 _ (j + i) i i (some ⟨wr.heap.size, 0, none⟩) 1 3 [newsY] _ _ _ h1 rfl (by omega) (by omega) (by omega) (by omega) HTA.out.wf HDA.out HR.out)
            have H1 := Lib.hid h1
            have H2 := Lib.hid h2
            have H3 := Lib.hid h3
            clear h1 h2 h3
            go_wp2_with fail
            refine (HH.out).mono ?_
            rintro e w5 ⟨B5, cp5, rfl, c5, q_HR5, q_HT5, q_HD5⟩
            have HR5 := Lib.hid q_HR5
            have HT5 := Lib.hid q_HT5
            have HD5 := Lib.hid q_HD5
            clear q_HR5 q_HT5 q_HD5
            have HT6 := Lib.hid (HTA.out.low HT5.out hg)
            have HX6 := Lib.hid ((HX2.out.tr HTN.out (fun h => h)).tr HT5.out (by omega))
            have HY6 := Lib.hid ((HY2.out.tr HTN.out (fun h => h)).tr HT5.out (by omega))
            have HF6 := Lib.hid ((HF2.out.tr HTN.out).tr HT5.out)
            go_wp2_with fail
            exact ⟨⟨i + 1, T'.length, c5, S', T', by simp, by simp; omega, by omega, hl', HTE'.out, rfl, H2.out, HT6.out, HD5.out, HX6.out, HY6.out, HF6.out⟩, by simp [intOf]; omega⟩
          · have e1 : min i (3 * k + 1) = 3 * k + 1 := by omega
            have e2 : min (i + 1) (3 * k + 1) = 3 * k + 1 := by omega
            go_wp2_with fail
            refine (CHear_off _ c2 g k S2 (T ++ TY) (j + i) i (some ⟨wr.heap.size, 0, none⟩) 1 3 (by omega) (by omega) (by omega) HDA.out).mono ?_
            rintro e w5 ⟨rfl, rfl⟩
            have HX6 := Lib.hid (HX2.out.tr HTN.out (fun h => h))
            have HY6 := Lib.hid (HY2.out.tr HTN.out (fun h => h))
            have HF6 := Lib.hid (HF2.out.tr HTN.out)
            go_wp2_with fail
            exact ⟨⟨i + 1, L2, c2, S2, TY, by simp, by simp, by omega, hL2, by show _ = _; rw [e2, ← e1]; exact HTE2.out, HTL2.out, by show _ = _; rw [e2, ← e1]; exact HSY.out, HTA.out, HDA.out.mono (by omega), HX6.out, HY6.out, HF6.out⟩, by simp [intOf]; omega⟩
        · have him : i = m := by omega
          subst him
          have hge2 : ¬ ((i : Int) < (i : Int)) := by omega
          have HMAY : Hid (∀ x ∈ T ++ TY, mayP x = true) := by
            intro x hx
            rw [HTE.out, HTE2.out] at hx
            rcases List.mem_append.1 hx with h | h
            · split at h
              · rw [List.mem_singleton.1 h]; exact newsX_may
              · cases h
            · split at h
              · rw [List.mem_singleton.1 h]; exact newsY_may
              · cases h
          have HLT : Hid ((T ++ TY).length = L + L2) := by show _ = _; rw [List.length_append, HTL.out, HTL2.out]
          have hxs : (j ≤ k ∧ L = 0) ∨ (k < j ∧ j ≤ 3 * k + 1 ∧ L = 1) ∨ (3 * k + 1 < j ∧ L = 1) := by
            have h1 := HTL.out
            rw [HTE.out] at h1
            by_cases h : k < min j (3 * k + 1)
            · rw [if_pos h] at h1
              simp at h1
              omega
            · rw [if_neg h] at h1
              simp at h1
              omega
          have hys : (i ≤ k ∧ L2 = 0) ∨ (k < i ∧ i ≤ 3 * k + 1 ∧ L2 = 1) ∨ (3 * k + 1 < i ∧ L2 = 1) := by
            have h1 := HTL2.out
            rw [HTE2.out] at h1
            by_cases h : k < min i (3 * k + 1)
            · rw [if_pos h] at h1
              simp at h1
              omega
            · rw [if_neg h] at h1
              simp at h1
              omega
          have HTK : Hid (∀ W, Below wr.heap.size wr W → Calls Try.prog 31 #[.pointer (some ⟨g, 0, none⟩)] W fun e w' => ∃ A cp, e = .returned (.slice A (L + L2) cp) ∧ ∃ c', Rd kRep w' c' A (L + L2) cp (T ++ TY) ∧ Tr (fun _ => False) c2 c' W w') := by
            intro W hW
            have h := CTaken_eq W c2 g k S2 (T ++ TY) (j + i) (by omega) HMAY.out (HT2.out.wf.below hW) (HD2.out.tr (Tr.of_below (M := fun _ => False) HT2.out.wf hW) (fun h => h))
            rw [HLT.out] at h
            exact h
          have hkk : (k : Int) < 3 * (k : Int) + 1 := by omega
          clear hL1 hL2
          rcases hxs with ⟨q1, rfl⟩ | ⟨q1, q2, rfl⟩ | ⟨q1, rfl⟩ <;> rcases hys with ⟨r1, rfl⟩ | ⟨r1, r2, rfl⟩ | ⟨r1, rfl⟩
          all_goals
            try have a1 : 3 * (k : Int) + 1 < (j : Int) := by omega
            try have a2 : ¬ (3 * (k : Int) + 1 < (j : Int)) := by omega
            try have a3 : (k : Int) < (j : Int) := by omega
            try have a4 : ¬ ((k : Int) < (j : Int)) := by omega
            try have b1 : 3 * (k : Int) + 1 < (i : Int) := by omega
            try have b2 : ¬ (3 * (k : Int) + 1 < (i : Int)) := by omega
            try have b3 : (k : Int) < (i : Int) := by omega
            try have b4 : ¬ ((k : Int) < (i : Int)) := by omega
            go_wp2_with fail
            refine (told19 _).mono ?_
            rintro e w6 ⟨rfl, q_HB6⟩
            have HB6 := Lib.hid q_HB6
            clear q_HB6
            go_wp2_with fail
            refine (HTK.out w6 HB6.out).mono ?_
            rintro e w7 ⟨A7, cp7, rfl, c7, q_HR7, q_HT7⟩
            have HR7 := Lib.hid q_HR7
            have HT7 := Lib.hid q_HT7
            clear q_HR7 q_HT7
            go_wp2_with fail
            refine bodyPost_ret (results_tmp rfl _ _ _) rfl ?_
            exact ⟨rfl, ((HT2.out.then (Tr.of_below HT2.out.wf HB6.out)).then HT7.out).below (fun _ _ h => h)⟩
end Go.Proofs.Ytladpckbajnbeaa
