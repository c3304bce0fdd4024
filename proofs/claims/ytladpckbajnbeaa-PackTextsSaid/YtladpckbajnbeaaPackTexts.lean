/- The law PackTexts. -/
import Derived.Test.YtladpckbajnbeaaLaw2
import Derived.Test.YtladpckbajnbeaaOpen
set_option linter.unusedVariables false
set_option linter.unusedSimpArgs false
namespace Go.Proofs.Ytladpckbajnbeaa
open Go.RowKit

abbrev kBytes : Kd (List UInt8) := kSl kU8

def textsB (l : List (List UInt8)) : List UInt8 := l.flatMap textB
theorem textsB_snoc (l : List (List UInt8)) (x : List UInt8) : textsB (l ++ [x]) = textsB l ++ textB x := by simp [textsB]

set_option maxHeartbeats 4000000 in
theorem packTexts_any (w : World) (A : Option Addr) (n cp : Nat) (l : List (List UInt8)) (most : Int) (hx : Rd kBytes w (fun _ => none) A n cp l) :
    Calls Try.prog 3 #[.slice A n cp, .int .i64 most] w (TruePost w) := by
  have hln := hx.1
  have hmx := hx.max
  have HX := Lib.hid hx
  have HL := Lib.hid hln
  clear hx hln
  by_cases h15 : n ≤ 15
  case neg =>
    go_enter Try.func3, Try.ntmps3
    go_wp2_with fail
    refine (told2 w).mono ?_
    rintro e w1 ⟨rfl, q_HB1⟩
    have HB1 := Lib.hid q_HB1
    clear q_HB1
    go_wp2_with fail
    go_ret
    exact ⟨rfl, HB1.out⟩
  obtain ⟨ht0, hW0⟩ := Wr_new w (fun _ => none) (Wf.none w)
  generalize hc0 : Col.set (fun _ => none) w.heap.size w.heap.size = c0 at ht0 hW0
  have HT0 := Lib.hid ht0
  have HW0 := Lib.hid hW0
  clear ht0 hW0
  clear hc0
  go_enter Try.func3, Try.ntmps3
  go_wp2_with fail
  go_loopw [6] (fun i wr => ∃ (k : Nat) (c1 : Col), i = .int .i64 (k : Int) ∧ k ≤ n ∧ Hid (∀ x ∈ l.take k, x.length ≤ 80) ∧ Hid ((textsB (l.take k)).length ≤ k * 84) ∧ Hid (Tr (fun _ => False) (fun _ => none) c1 w wr) ∧ Hid (Wr wr c1 w.heap.size (textsB (l.take k)))) (fun i _ => n - (intOf i).toNat)
  case atStart => exact ⟨0, c0, rfl, by omega, by intro x hx; simp at hx, by show _ ≤ _; simp [textsB], HT0.out, HW0.out⟩
  case round =>
    obtain ⟨k, c1, rfl, hk, hfew, hlen, ht, hW⟩ := hrel
    by_cases hlt : k < n
    · obtain ⟨b, off, rfl⟩ := HX.out.addr (by omega)
      have hel := getD_at' l [] (k := k) (by have := HL.out; omega)
      generalize l[k]?.getD [] = x at hel
      obtain ⟨A1, n1, cp1, hcell, hr1⟩ := (HX.out.tr ht.out).row hel
      have hmx1 := hr1.max
      have HR1 := Lib.hid hr1
      have HN1 := Lib.hid hr1.1
      have HTK := Lib.hid (take_snoc' hel)
      clear hr1 hel
      by_cases h80 : n1 ≤ 80
      case neg =>
        go_wp2_with fail
        refine (told2 wr).mono ?_
        rintro e w1 ⟨rfl, q_HB1⟩
        have HB1 := Lib.hid q_HB1
        clear q_HB1
        go_wp2_with fail
        go_ret
        exact ⟨rfl, (ht.out.below fun r _ h => h).trans (HB1.out.mono ht.out.size)⟩
      go_wp2_with fail
      refine (Text_any wr c1 w.heap.size (textsB (l.take k)) x A1 n1 cp1 (by have := hlen.out; have := HN1.out; omega) ht.out.wf hW.out (HR1.out)).mono ?_
      rintro e w1 ⟨rfl, c2, q_HA2, q_HW2⟩
      have HA2 := Lib.hid q_HA2
      have HW2 := Lib.hid q_HW2
      clear q_HA2 q_HW2
      go_wp2_with fail
      refine ⟨⟨k + 1, c2, by go_num, by omega, ?_, ?_, ht.out.low HA2.out (Nat.le_refl _), ?_⟩, by simp [intOf]; omega⟩
      · show ∀ y ∈ _, _
        rw [HTK.out]
        intro y hy
        rcases List.mem_append.1 hy with hy | hy
        · exact hfew.out y hy
        · simp at hy; subst hy; have := HN1.out; omega
      · show _ ≤ _
        rw [HTK.out, textsB_snoc, List.length_append]
        have := hlen.out
        have := HN1.out
        simp [textB, numB_length]
        omega
      · show Wr _ _ _ _
        rw [HTK.out, textsB_snoc]
        exact HW2.out
    · obtain rfl : k = n := by omega
      have HK : Hid (l.take k = l) := List.take_of_length_le (by have := HL.out; omega)
      go_wp2_with fail
      refine (Bytes_any wr c1 w.heap.size _ (by have := hlen.out; omega) ht.out.wf hW.out).mono ?_
      rintro e w4 ⟨A4, n4, cp4, rfl, q_HR4, q_HB4⟩
      have HR4 := Lib.hid q_HR4
      have HB4 := Lib.hid q_HB4
      clear q_HR4 q_HB4
      have HT4 := Lib.hid (ht.out.then (Tr.of_below ht.out.wf HB4.out))
      have hn4 : n4 ≤ 2000 := by have := HR4.out.1; have := hlen.out; omega
      go_wp2_with fail
      refine (New_any _ c1 _ A4 n4 cp4 (by omega) HT4.out.wf HR4.out).mono ?_
      rintro e w5 ⟨g, rfl, hg, q_HA5, q_HW5⟩
      have HA5 := Lib.hid q_HA5
      have HW5 := Lib.hid q_HW5
      clear q_HA5 q_HW5
      have HT5 := Lib.hid (HT4.out.trans HA5.out fun r _ h => h)
      have hlt5 := HW5.out.lt
      have hw4 := HT4.out.size
      go_wp2_with fail
      obtain ⟨hK0, hK1⟩ := small_mod most 90 (by omega) (by omega)
      generalize wrap64 ((IntKind.u64.wrap most).tmod 90) = K at hK0 hK1
      rw [HK.out] at HW5 hfew hlen
      go_loopw [9, 10] (fun o i wr => ∃ (j : Nat) (xs : List UInt8) (ov : Bool), i = .int .i64 (j : Int) ∧ o = .bool ov ∧ j ≤ k ∧ Hid (xs.length ≤ 2000) ∧ Hid (if ov = true then ∃ x ∈ l.take j, K < x.length else xs = textsB (l.drop j) ∧ ∀ x ∈ l.take j, (x.length : Int) ≤ K) ∧ Hid (Tr (fun _ => False) (fun _ => none) (c1.set g g) w wr) ∧ Hid (Re wr (c1.set g g) g xs ov)) (fun _ i _ => k - (intOf i).toNat)
      case atStart => exact ⟨0, textsB l, false, rfl, rfl, by omega, by show _ ≤ _; have := hlen.out; omega, by show if _ then _ else _; simp, HT5.out, HW5.out⟩
      case round =>
        obtain ⟨j, xs, ov, rfl, rfl, hj, hxl, hst, ht, hR⟩ := hrel
        by_cases hlt2 : j < k
        · obtain ⟨b, off, rfl⟩ := HX.out.addr (by omega)
          have hel := getD_at' l [] (k := j) (by have := HL.out; omega)
          generalize l[j]?.getD [] = x at hel
          have hx80 := hfew.out x (List.mem_of_getElem? hel)
          obtain ⟨A1, n1, cp1, hcell0, hr1⟩ := HX.out.row hel
          obtain ⟨hbl, _, _⟩ := HX.out.elem hel
          have hc1 := (ht.out.kp.cell (i := off + j) hbl rfl).trans hcell0
          have hmx1 := hr1.max
          have HN1 := Lib.hid hr1.1
          have HTK := Lib.hid (take_snoc' hel)
          have HDR : Hid (l.drop j = x :: l.drop (j + 1)) := by
            obtain ⟨hjl, hjx⟩ := List.getElem?_eq_some_iff.1 hel
            show _ = _
            rw [List.drop_eq_getElem_cons hjl, hjx]
          have HR1 := Lib.hid hr1
          have HX80 := Lib.hid hx80
          have HEL := Lib.hid hel
          clear hr1 hx80 hel
          cases ov with
          | true =>
            have hst1 := hst.out
            rw [if_pos rfl] at hst1
            have HST := Lib.hid hst1
            clear hst1
            clear hst
            go_wp2_with fail
            refine (RText_eq _ _ g ⟨xs, true⟩ K [] ⟨xs, true⟩ (RS.text_wrong _ _) (by omega) (by have := hxl.out; show xs.length ≤ _; omega) ht.out.wf hR.out).mono ?_
            rintro e w6 ⟨A7, n7, cp7, rfl, q_HA6, q_HW6, q_HR6⟩
            have HA6 := Lib.hid q_HA6
            have HW6 := Lib.hid q_HW6
            have HR6 := Lib.hid q_HR6
            clear q_HA6 q_HW6 q_HR6
            have HT6 := Lib.hid (ht.out.low HA6.out (by omega))
            have hc6 := (HT6.out.kp.cell (i := off + j) hbl rfl).trans hcell0
            obtain rfl : n7 = 0 := by have := HR6.out.1; simpa using this.symm
            go_wp2_with fail
            refine ⟨⟨j + 1, xs, true, by go_num, rfl, by omega, hxl, ?_, HT6.out, HW6.out⟩, by simp [intOf]; omega⟩
            show if _ then _ else _
            rw [if_pos rfl, HTK.out]
            obtain ⟨y, hy, hy2⟩ := HST.out
            exact ⟨y, by simp [hy], hy2⟩
          | false =>
            have HS := hst.out
            rw [if_neg (by simp)] at HS
            obtain ⟨hxs, hle⟩ := HS
            clear hst
            rw [HDR.out] at hxs
            have htx : xs = textB x ++ textsB (l.drop (j + 1)) := by rw [hxs]; simp [textsB]
            have hwr := RS.text_wrote x (textsB (l.drop (j + 1))) K (by have := HX80.out; omega)
            rw [← htx, show max K 0 = K by omega] at hwr
            have HXS := Lib.hid hxs
            have HLE := Lib.hid hle
            have HTX := Lib.hid htx
            have HWR := Lib.hid hwr
            clear hxs hle htx hwr
            by_cases hle2 : n1 ≤ K.toNat
            · have hl2 : (n1 : Int) ≤ K := by omega
              have hdec : decide (K < (n1 : Int)) = false := by simp; omega
              go_wp2_with fail
              refine (RText_eq _ _ g ⟨xs, false⟩ K x ⟨textsB (l.drop (j + 1)), false⟩ (by rw [HWR.out, if_pos (by have := HN1.out; omega)]) (by omega) (by have := hxl.out; show xs.length ≤ _; omega) ht.out.wf hR.out).mono ?_
              rintro e w6 ⟨A7, n7, cp7, rfl, q_HA6, q_HW6, q_HR6⟩
              have HA6 := Lib.hid q_HA6
              have HW6 := Lib.hid q_HW6
              have HR6 := Lib.hid q_HR6
              clear q_HA6 q_HW6 q_HR6
              have HT6 := Lib.hid (ht.out.low HA6.out (by omega))
              have hc6 := (HT6.out.kp.cell (i := off + j) hbl rfl).trans hcell0
              have HSame := Lib.hid (Same_any w6 _ A7 A1 n7 cp7 n1 cp1 x x HR6.out (HR1.out.tr HT6.out))
              go_wp2_with fail
              refine (HSame.out).mono ?_
              rintro e w7 ⟨rfl, rfl⟩
              go_wp2_with fail
              refine ⟨⟨j + 1, textsB (l.drop (j + 1)), false, by go_num, rfl, by omega, ?_, ?_, HT6.out, HW6.out⟩, by simp [intOf]; omega⟩
              · show _ ≤ _
                have := hxl.out
                rw [HTX.out, List.length_append] at this
                omega
              · show if _ then _ else _
                rw [if_neg (by simp), HTK.out]
                refine ⟨rfl, fun y hy => ?_⟩
                rcases List.mem_append.1 hy with hy | hy
                · exact HLE.out y hy
                · simp at hy; subst hy; have := HN1.out; omega
            · have hl2 : K < (n1 : Int) := by omega
              have hdec : decide (K < (n1 : Int)) = true := by simp; omega
              go_wp2_with fail
              refine (RText_eq _ _ g ⟨xs, false⟩ K [] ⟨x ++ textsB (l.drop (j + 1)), true⟩ (by rw [HWR.out, if_neg (by have := HN1.out; omega)]) (by omega) (by have := hxl.out; show xs.length ≤ _; omega) ht.out.wf hR.out).mono ?_
              rintro e w6 ⟨A7, n7, cp7, rfl, q_HA6, q_HW6, q_HR6⟩
              have HA6 := Lib.hid q_HA6
              have HW6 := Lib.hid q_HW6
              have HR6 := Lib.hid q_HR6
              clear q_HA6 q_HW6 q_HR6
              have HT6 := Lib.hid (ht.out.low HA6.out (by omega))
              have hc6 := (HT6.out.kp.cell (i := off + j) hbl rfl).trans hcell0
              obtain rfl : n7 = 0 := by have := HR6.out.1; simpa using this.symm
              go_wp2_with fail
              refine ⟨⟨j + 1, x ++ textsB (l.drop (j + 1)), true, by go_num, rfl, by omega, ?_, ?_, HT6.out, HW6.out⟩, by simp [intOf]; omega⟩
              · show _ ≤ _
                have := hxl.out
                rw [HTX.out, List.length_append] at this
                simp [textB, numB_length] at this
                simp
                omega
              · show if _ then _ else _
                rw [if_pos rfl, HTK.out]
                exact ⟨x, by simp, by have := HN1.out; omega⟩
        · obtain rfl : j = k := by omega
          have HFIN : Hid (RS.fin ⟨xs, ov⟩ = (if ov = true then 2 else 0) ∧ RS.left ⟨xs, ov⟩ = 0) := by
            have h := hst.out
            cases ov with
            | true => exact ⟨by simp [RS.fin], by simp [RS.left]⟩
            | false =>
              rw [if_neg (by simp), List.drop_of_length_le (by have := HL.out; omega)] at h
              have h1 : xs = [] := h.1
              subst h1
              exact ⟨by simp [RS.fin], by simp [RS.left]⟩
          clear hst
          go_wp2_with fail
          refine (told2 wr).mono ?_
          rintro e w6 ⟨rfl, q_HB6⟩
          have HB6 := Lib.hid q_HB6
          clear q_HB6
          have HT6 := Lib.hid (ht.out.then (Tr.of_below ht.out.wf HB6.out))
          cases ov with
          | true =>
            go_wp2_with fail
            refine (REnd_eq w6 _ g ⟨xs, true⟩ 2 (by rw [HFIN.out.1]; rfl) HT6.out.wf (hR.out.tr (Tr.of_below (M := fun _ => False) ht.out.wf HB6.out) (fun h => h))).mono ?_
            rintro e w7 ⟨rfl, q_HA7, q_HW7⟩
            have HA7 := Lib.hid q_HA7
            have HW7 := Lib.hid q_HW7
            clear q_HA7 q_HW7
            have HT7 := Lib.hid (HT6.out.low HA7.out (by omega))
            go_wp2_with fail
            refine (RLeft_eq w7 _ g ⟨xs, true⟩ 0 HFIN.out.2 HT7.out.wf HW7.out).mono ?_
            rintro e w8 ⟨rfl, q_HA8, q_HW8⟩
            have HA8 := Lib.hid q_HA8
            have HW8 := Lib.hid q_HW8
            clear q_HA8 q_HW8
            have HT8 := Lib.hid (HT7.out.low HA8.out (by omega))
            go_wp2_with fail
            go_ret
            exact ⟨rfl, HT8.out.below fun r _ h => h⟩
          | false =>
            go_wp2_with fail
            refine (REnd_eq w6 _ g ⟨xs, false⟩ 0 (by rw [HFIN.out.1]; rfl) HT6.out.wf (hR.out.tr (Tr.of_below (M := fun _ => False) ht.out.wf HB6.out) (fun h => h))).mono ?_
            rintro e w7 ⟨rfl, q_HA7, q_HW7⟩
            have HA7 := Lib.hid q_HA7
            have HW7 := Lib.hid q_HW7
            clear q_HA7 q_HW7
            have HT7 := Lib.hid (HT6.out.low HA7.out (by omega))
            go_wp2_with fail
            refine (RLeft_eq w7 _ g ⟨xs, false⟩ 0 HFIN.out.2 HT7.out.wf HW7.out).mono ?_
            rintro e w8 ⟨rfl, q_HA8, q_HW8⟩
            have HA8 := Lib.hid q_HA8
            have HW8 := Lib.hid q_HW8
            clear q_HA8 q_HW8
            have HT8 := Lib.hid (HT7.out.low HA8.out (by omega))
            go_wp2_with fail
            go_ret
            exact ⟨rfl, HT8.out.below fun r _ h => h⟩
end Go.Proofs.Ytladpckbajnbeaa
