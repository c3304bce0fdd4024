/- The laws of pack. -/
import Derived.Test.YtladpckbajnbeaaRef1
set_option linter.unusedVariables false
set_option linter.unusedSimpArgs false
namespace Go.Proofs.Ytladpckbajnbeaa
open Go.RowKit

/-- The law's own example holds. -/
def TruePost (w : World) (e : Ending) (w' : World) : Prop := e = .returned (.bool true) ∧ Below w.heap.size w w'

set_option maxHeartbeats 2000000 in
theorem told2 (w : World) : Calls Try.prog 15 #[] w (TruePost w) := by
  obtain ⟨ht0, hW0⟩ := Wr_new w (fun _ => none) (Wf.none w)
  generalize hc0 : Col.set (fun _ => none) w.heap.size w.heap.size = c0 at ht0 hW0
  have HT0 := Lib.hid ht0
  have HW0 := Lib.hid hW0
  clear ht0 hW0
  clear hc0
  have kc := fun (w : World) (C : Array Value) (n c : Nat) => Lib.run_convert_bytes_const (P := Try.prog) w 24 5 C n c Try.underlying24 Try.underlying5
  go_enter Try.func15, Try.ntmps15
  go_wp2_with fail
  refine (Num_good _ c0 w.heap.size [] 258 2 (by omega) (by omega) (by omega) (by simp) HT0.out.wf HW0.out).mono ?_
  rintro e w1 ⟨rfl, c1, q_HA1, q_HW1⟩
  have HA1 := Lib.hid q_HA1
  have HW1 := Lib.hid q_HW1
  clear q_HA1 q_HW1
  have HT1 := Lib.hid (HT0.out.low HA1.out (Nat.le_refl _))
  have hlt1 := HW1.out.lt
  go_wp2_with fail
  refine (Text_any _ c1 w.heap.size _ [97] (some ⟨w1.heap.size, 0, none⟩) 1 1 (by simp [numB]) (HT1.out.wf.below (below_alloc _ _)) (HW1.out.tr (Tr.new HT1.out.wf _) (fun h => h)) (Rd.lit w1 c1 HT1.out.wf 5 [97] (1, 2) (by simp))).mono ?_
  rintro e w2 ⟨rfl, c2, q_HA2, q_HW2⟩
  have HA2 := Lib.hid q_HA2
  have HW2 := Lib.hid q_HW2
  clear q_HA2 q_HW2
  have HT2 := Lib.hid ((HT1.out.alloc _).low HA2.out (Nat.le_refl _))
  have hlt2 := HW2.out.lt
  go_wp2_with fail
  refine (Raw_any _ c2 w.heap.size _ [9] (some ⟨w2.heap.size, 0, none⟩) 1 1 (by simp [numB, textB]) (HT2.out.wf.below (below_alloc _ _)) (HW2.out.tr (Tr.new HT2.out.wf _) (fun h => h)) (Rd.lit w2 c2 HT2.out.wf 5 [9] (0, 0) (by simp))).mono ?_
  rintro e w3 ⟨rfl, c3, q_HA3, q_HW3⟩
  have HA3 := Lib.hid q_HA3
  have HW3 := Lib.hid q_HW3
  clear q_HA3 q_HW3
  have HT3 := Lib.hid ((HT2.out.alloc _).low HA3.out (Nat.le_refl _))
  have hlt3 := HW3.out.lt
  go_wp2_with fail
  refine (Bytes_any _ c3 w.heap.size _ (by simp [numB, textB]) HT3.out.wf HW3.out).mono ?_
  rintro e w4 ⟨A4, n4, cp4, rfl, q_HR4, q_HB4⟩
  have HR4 := Lib.hid q_HR4
  have HB4 := Lib.hid q_HB4
  clear q_HR4 q_HB4
  have HT4 := Lib.hid (HT3.out.then (Tr.of_below HT3.out.wf HB4.out))
  go_wp2_with fail
  refine (New_any _ c3 _ A4 n4 cp4 (by have := HR4.out.1; simp [numB, textB] at this; omega) HT4.out.wf HR4.out).mono ?_
  rintro e w5 ⟨g, rfl, hg, q_HA5, q_HW5⟩
  have HA5 := Lib.hid q_HA5
  have HW5 := Lib.hid q_HW5
  clear q_HA5 q_HW5
  have HT5 := Lib.hid (HT4.out.trans HA5.out fun r _ h => h)
  have hlt5 := HW5.out.lt
  have hw4 := HT4.out.size
  have hbs : ([] ++ numB (258 : Int).toNat (2 : Int).toNat ++ textB [97] ++ [9] : List UInt8) = [1, 2, 0, 0, 0, 1, 97, 9] := by decide
  rw [hbs] at HR4 HW5
  have HBS := Lib.hid hbs
  clear hbs
  have hcv := conv_str 24 9 5 Try.underlying24 Try.underlying5 Try.underlying9 (HR4.out.tr HA5.out)
  go_wp2_with fail
  refine (RNum_eq _ _ g ⟨[1, 2, 0, 0, 0, 1, 97, 9], false⟩ 2 258 ⟨[0, 0, 0, 1, 97, 9], false⟩ rfl HT5.out.wf HW5.out).mono ?_
  rintro e w6 ⟨rfl, q_HA6, q_HW6⟩
  have HA6 := Lib.hid q_HA6
  have HW6 := Lib.hid q_HW6
  clear q_HA6 q_HW6
  have HT6 := Lib.hid (HT5.out.low HA6.out (by omega))
  go_wp2_with fail
  refine (RText_eq _ _ g ⟨[0, 0, 0, 1, 97, 9], false⟩ 1 [97] ⟨[9], false⟩ rfl (by omega) (by simp) HT6.out.wf HW6.out).mono ?_
  rintro e w7 ⟨A7, n7, cp7, rfl, q_HA7, q_HW7, q_HR7⟩
  have HA7 := Lib.hid q_HA7
  have HW7 := Lib.hid q_HW7
  have HR7 := Lib.hid q_HR7
  clear q_HA7 q_HW7 q_HR7
  have HT7 := Lib.hid (HT6.out.low HA7.out (by omega))
  have hcv7 := conv_str 24 9 5 Try.underlying24 Try.underlying5 Try.underlying9 HR7.out
  go_wp2_with fail
  refine (RLeft_eq _ _ g ⟨[9], false⟩ 1 rfl HT7.out.wf HW7.out).mono ?_
  rintro e w8 ⟨rfl, q_HA8, q_HW8⟩
  have HA8 := Lib.hid q_HA8
  have HW8 := Lib.hid q_HW8
  clear q_HA8 q_HW8
  have HT8 := Lib.hid (HT7.out.low HA8.out (by omega))
  go_wp2_with fail
  refine (RRaw_eq _ _ g ⟨[9], false⟩ 1 [9] ⟨[], false⟩ rfl (by simp) HT8.out.wf HW8.out).mono ?_
  rintro e w9 ⟨A9, n9, cp9, rfl, q_HA9, q_HW9, q_HR9⟩
  have HA9 := Lib.hid q_HA9
  have HW9 := Lib.hid q_HW9
  have HR9 := Lib.hid q_HR9
  clear q_HA9 q_HW9 q_HR9
  have HT9 := Lib.hid (HT8.out.low HA9.out (by omega))
  obtain rfl : n9 = 1 := by have := HR9.out.1; simp at this; omega
  go_wp2_with fail
  refine (REnd_eq _ _ g ⟨[], false⟩ 0 rfl HT9.out.wf HW9.out).mono ?_
  rintro e w10 ⟨rfl, q_HA10, q_HW10⟩
  have HA10 := Lib.hid q_HA10
  have HW10 := Lib.hid q_HW10
  clear q_HA10 q_HW10
  have HT10 := Lib.hid (HT9.out.low HA10.out (by omega))
  go_wp2_with fail
  refine (New_any _ _ [] none 0 0 (by omega) HT10.out.wf (Rd.nil _ _ _)).mono ?_
  rintro e w11 ⟨g2, rfl, hg2, q_HA11, q_HW11⟩
  have HA11 := Lib.hid q_HA11
  have HW11 := Lib.hid q_HW11
  clear q_HA11 q_HW11
  have HT11 := Lib.hid (HT10.out.trans HA11.out fun r _ h => h)
  have hw10 := HT10.out.size
  go_wp2_with fail
  refine (REnd_eq _ _ g2 ⟨[], false⟩ 0 rfl HT11.out.wf HW11.out).mono ?_
  rintro e w12 ⟨rfl, q_HA12, q_HW12⟩
  have HA12 := Lib.hid q_HA12
  have HW12 := Lib.hid q_HW12
  clear q_HA12 q_HW12
  have HT12 := Lib.hid (HT11.out.low HA12.out (by omega))
  go_wp2_with fail
  go_ret
  exact ⟨rfl, HT12.out.below fun r _ h => h⟩

structure Part where
  how : Int
  wide : Int
  v : Int
  b : List UInt8
def kPart : Kd Part where
  sz := 4
  pos := by decide
  rep := fun w c x cs => 0 ≤ x.v ∧ ∃ A n cp, cs = [.int .i64 x.how, .int .i64 x.wide, .int .u64 x.v, .slice A n cp] ∧ Rd kU8 w c A n cp x.b
  len := by rintro w c x cs ⟨_, A, n, cp, rfl, _⟩; rfl
  one := by
    rintro w c x cs ⟨_, A, n, cp, rfl, _⟩ u hu
    simp at hu
    rcases hu with rfl | rfl | rfl | rfl <;> rfl
  keep := by
    rintro w w' c c' x cs ⟨h, A, n, cp, rfl, hr⟩ k
    exact ⟨h, A, n, cp, rfl, hr.kp k⟩
theorem part_info : (Try.prog.info? 41).map (fun i => (i.zero, i.size, i.bytes)) = some (some (.agg #[.int .i64 0, .int .i64 0, .int .u64 0, .slice none 0 0]), 4, 48) := by kernel_rfl

/-- A row of parts. -/
def partB (p : Part) : List UInt8 := if p.how = 0 then numW p.v p.wide else if p.how = 1 then textB p.b else p.b
def rowB (l : List Part) : List UInt8 := l.flatMap partB

theorem rowB_snoc (l : List Part) (p : Part) : rowB (l ++ [p]) = rowB l ++ partB p := by simp [rowB]
theorem numW_le (v n : Int) : (numW v n).length ≤ 8 := by
  unfold numW
  split
  · rw [numB_length]; omega
  · simp
def fewP (l : List Part) : Prop := ∀ p ∈ l, p.b.length ≤ 100
theorem fewP_snoc {l : List Part} {k : Nat} {p : Part} (h : fewP (l.take k)) (ht : l.take (k + 1) = l.take k ++ [p]) (hp : p.b.length ≤ 100) : fewP (l.take (k + 1)) := by
  rw [ht]
  intro q hq
  rcases List.mem_append.1 hq with hq | hq
  · exact h q hq
  · simp at hq; subst hq; exact hp
def RowPost (w : World) (l : List Part) (n : Nat) (e : Ending) (w' : World) : Prop :=
  Below w.heap.size w w' ∧ ((fewP l ∧ ∃ B m cq, e = .returned (.tuple #[.slice B m cq, .bool (decide ((n : Int) ≤ 40))]) ∧ w'.ownsRow w.heap.size 5 1 (.slice B m cq) m (bcells (rowB l))) ∨
    (¬ fewP l ∧ e = .returned (.tuple #[.slice none 0 0, .bool false])))
set_option maxHeartbeats 2000000 in
theorem row_any (w : World) (c : Col) (A : Option Addr) (n cp : Nat) (l : List Part) (hw : Wf c w) (hx : Rd kPart w c A n cp l) (hn : n ≤ 100000000) :
    Calls Try.prog 23 #[.slice A n cp] w (RowPost w l n) := by
  have hln := hx.1
  have hmx := hx.max
  have HF := Lib.hid hw
  have HX := Lib.hid hx
  have HL := Lib.hid hln
  clear hw hx hln
  go_enter Try.func23, Try.ntmps23
  go_wp2
  go_loopw [4, 5] (fun o i wr => ∃ (k : Nat) (B : Option Addr) (m cq : Nat), i = .int .i64 (k : Int) ∧ o = .slice B m cq ∧ k ≤ n ∧ m ≤ k * 200 ∧ Hid (fewP (l.take k)) ∧ Hid (Below w.heap.size w wr) ∧ Hid (wr.ownsRow w.heap.size 5 1 (.slice B m cq) m (bcells (rowB (l.take k))))) (fun _ i _ => n - (intOf i).toNat)
  case atStart => exact ⟨0, none, 0, 0, rfl, rfl, by omega, by omega, by intro p hp; simp at hp, Below.refl _ _, own_none w w _⟩
  case round =>
    obtain ⟨k, B, m, cq, rfl, rfl, hk, hm, hfw, hb, ho⟩ := hrel
    by_cases hlt : k < n
    · obtain ⟨b, off, rfl⟩ := HX.out.addr (by omega)
      have hel := getD_at' l ⟨0, 0, 0, []⟩ (k := k) (by have := HL.out; omega)
      generalize l[k]?.getD ⟨0, 0, 0, []⟩ = p at hel
      obtain ⟨hbl, hcb, cs, ⟨hv0, A1, n1, cp1, rfl, hr1⟩, hcs⟩ := (HX.out.below hb.out).elem hel
      have hc0 := hcs 0 _ rfl
      have hc1 := hcs 1 _ rfl
      have hc2 := hcs 2 _ rfl
      have hc3 := hcs 3 _ rfl
      simp only [kPart, Nat.add_zero, ← Nat.add_assoc] at hc0 hc1 hc2 hc3
      have HT := Lib.hid (take_snoc' hel)
      have HN1 := Lib.hid hr1.1
      have HR1 := Lib.hid hr1
      have HE := Lib.hid hel
      have hmx1 := hr1.max
      clear hcs hr1 hel hcb
      by_cases hn1 : n1 ≤ 100
      case neg =>
        go_wp2_with fail
        refine bodyPost_ret (results_tmp2 rfl _ _ _) rfl ?_
        refine ⟨below_then hb.out (below_alloc wr _), .inr ⟨fun hf => ?_, rfl⟩⟩
        have := hf p (List.mem_of_getElem? HE.out)
        have := HN1.out
        omega
      have HFW : Hid (fewP (l.take (k + 1))) := fewP_snoc hfw.out HT.out (by have := HN1.out; omega)
      have hcase : p.how = 0 ∨ (p.how ≠ 0 ∧ p.how = 1) ∨ (p.how ≠ 0 ∧ p.how ≠ 1) := by omega
      rcases hcase with h0 | ⟨h0, h1⟩ | ⟨h0, h1⟩
      · have hb0 : (p.how == 0) = true := by simp [h0]
        have HP : Hid (partB p = numW p.v p.wide) := by show _ = _; simp [partB, h0]
        clear h0
        go_wp2_with fail
        refine (R1Num_any _ p.v p.wide hv0).mono ?_
        rintro e w1 ⟨A2, n2, cp2, rfl, q_HO1, q_HB1⟩
        have HO1 := Lib.hid q_HO1
        have HB1 := Lib.hid q_HB1
        clear q_HO1 q_HB1
        have HW1 := Lib.hid (below_then (below_alloc wr _) HB1.out)
        have hn2 : n2 ≤ 8 := by have := own_len HO1.out; have h2 := numW_le p.v p.wide; omega
        go_wp2_with (at_builtin; go_must (refine app_bytes_new (w0 := w) (c := fun _ => none) (.tmp 30) (.tmp 35) 24 5 rfl rfl Try.underlying24 u8_info (rowB (l.take k)) (numW p.v p.wide) rfl rfl (below_then hb.out HW1.out) (own_below ho.out HW1.out) (own_rd HO1.out (Wf.none _)) (by omega) ?_); intro A3 cp3 w3 hb3 hr3 hown3 hs3; have HO3 := Lib.hid hown3; have HB3 := Lib.hid hb3; clear hb3 hr3 hown3 hs3)
        refine ⟨⟨k + 1, A3, m + n2, cp3, by go_num, rfl, by omega, by omega, HFW, HB3.out, ?_⟩, by simp [intOf]; omega⟩
        show World.ownsRow _ _ _ _ _ _ _
        rw [HT.out, rowB_snoc, HP.out]
        exact HO3.out
      · have hb0 : (p.how == 0) = false := by simp [h0]
        have hb1 : (p.how == 1) = true := by simp [h1]
        have HP : Hid (partB p = textB p.b) := by show _ = _; simp [partB, h0, h1]
        clear h0 h1
        go_wp2_with fail
        refine (R1Text_any _ c A1 n1 cp1 p.b (by omega) (HF.out.below (below_then' hb.out (below_alloc wr _))) (HR1.out.below (below_alloc wr _))).mono ?_
        rintro e w1 ⟨A2, n2, cp2, rfl, q_HO1, q_HB1⟩
        have HO1 := Lib.hid q_HO1
        have HB1 := Lib.hid q_HB1
        clear q_HO1 q_HB1
        have HW1 := Lib.hid (below_then (below_alloc wr _) HB1.out)
        have hn2 : n2 ≤ 104 := by have := own_len HO1.out; have := HN1.out; simp [textB, numB_length] at *; omega
        go_wp2_with (at_builtin; go_must (refine app_bytes_new (w0 := w) (c := fun _ => none) (.tmp 41) (.tmp 44) 24 5 rfl rfl Try.underlying24 u8_info (rowB (l.take k)) (textB p.b) rfl rfl (below_then hb.out HW1.out) (own_below ho.out HW1.out) (own_rd HO1.out (Wf.none _)) (by omega) ?_); intro A3 cp3 w3 hb3 hr3 hown3 hs3; have HO3 := Lib.hid hown3; have HB3 := Lib.hid hb3; clear hb3 hr3 hown3 hs3)
        refine ⟨⟨k + 1, A3, m + n2, cp3, by go_num, rfl, by omega, by omega, HFW, HB3.out, ?_⟩, by simp [intOf]; omega⟩
        show World.ownsRow _ _ _ _ _ _ _
        rw [HT.out, rowB_snoc, HP.out]
        exact HO3.out
      · have hb0 : (p.how == 0) = false := by simp [h0]
        have hb1 : (p.how == 1) = false := by simp [h1]
        have HP : Hid (partB p = p.b) := by show _ = _; simp [partB, h0, h1]
        clear h0 h1
        go_wp2_with (at_builtin; go_must (refine app_bytes_new (w0 := w) (c := c) (.tmp 17) (.tmp 19) 24 5 rfl rfl Try.underlying24 u8_info (rowB (l.take k)) p.b rfl rfl (below_then hb.out (below_alloc wr _)) (own_below ho.out (below_alloc wr _)) (HR1.out.below (below_alloc wr _)) (by omega) ?_); intro A3 cp3 w3 hb3 hr3 hown3 hs3; have HO3 := Lib.hid hown3; have HB3 := Lib.hid hb3; clear hb3 hr3 hown3 hs3)
        refine ⟨⟨k + 1, A3, m + n1, cp3, by go_num, rfl, by omega, by omega, HFW, HB3.out, ?_⟩, by simp [intOf]; omega⟩
        show World.ownsRow _ _ _ _ _ _ _
        rw [HT.out, rowB_snoc, HP.out]
        exact HO3.out
    · obtain rfl : k = n := by omega
      have HK : Hid (l.take k = l) := List.take_of_length_le (by have := HL.out; omega)
      go_wp2_with fail
      go_ret2
      refine ⟨hb.out, .inl ⟨by have := hfw.out; rwa [HK.out] at this, B, m, cq, rfl, ?_⟩⟩
      have := ho.out
      rw [HK.out] at this
      exact this
end Go.Proofs.Ytladpckbajnbeaa
