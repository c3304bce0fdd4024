/- wal: a record is read. -/
import Derived.Test.YtalihocoekplgaaWalB
set_option linter.unusedVariables false
set_option linter.unusedSimpArgs false
namespace Go.Proofs.Ytalihocoekplgaa
open Go.RowKit

/-- Block gl is a log on the disk g: so many records, so many sectors. -/
def Lg (w : World) (c : Col) (gl g num used : Nat) : Prop := c gl = some gl ∧ w.heap[gl]? = some (.cells #[.pointer (some ⟨g, 0, none⟩), .int .i64 (num : Int), .int .i64 (used : Int)] 83 (0, 0))
theorem Lg.tr {M : Nat → Prop} {w w' : World} {c c' : Col} {gl g num used : Nat} (h : Lg w c gl g num used) (k : Tr M c c' w w') (hM : ¬ M gl) : Lg w' c' gl g num used := by
  obtain ⟨h1, h2⟩ := h
  obtain ⟨a1, a2⟩ := k.at_ h1 hM
  exact ⟨a1, by rw [a2]; exact h2⟩
/-- The record that stands at a sector. -/
def recAt (Z : List (List UInt8)) (at_ num : Nat) : Option (List UInt8) :=
  match Z[at_]? with
  | none => none
  | some s =>
    if 1 ≤ beNat (s.take 4) ∧ beNat (s.take 4) ≤ 20000 ∧ secN (beNat (s.take 4)) ≤ Z.length - at_ ∧ sumF (((Z.drop at_).flatten.drop 12).take (beNat (s.take 4))) num = (s.drop 4).take 8 then
      some (((Z.drop at_).flatten.drop 12).take (beNat (s.take 4)))
    else none
def flN (Z : List (List UInt8)) (at_ j : Nat) : List UInt8 := ((Z.drop at_).take j).flatten
theorem flN_one {Z : List (List UInt8)} {at_ : Nat} {s : List UInt8} (h : Z[at_]? = some s) : flN Z at_ 1 = s := by
  unfold flN
  have hl := (List.getElem?_eq_some_iff.1 h).1
  rw [List.drop_eq_getElem_cons hl]
  have := (List.getElem?_eq_some_iff.1 h).2
  simp [this]
theorem flN_succ {Z : List (List UInt8)} {at_ j : Nat} {s : List UInt8} (h : Z[at_ + j]? = some s) : flN Z at_ (j + 1) = flN Z at_ j ++ s := by
  unfold flN
  rw [take_snoc' (x := s) (by rw [List.getElem?_drop]; exact h), List.flatten_append]
  simp
theorem flN_len {Z : List (List UInt8)} (hz : ∀ s ∈ Z, s.length = 64) (at_ : Nat) : ∀ j, at_ + j ≤ Z.length → (flN Z at_ j).length = 64 * j
  | 0, _ => by simp [flN]
  | j + 1, h => by
    obtain ⟨s, hs⟩ : ∃ s, Z[at_ + j]? = some s := ⟨_, List.getElem?_eq_getElem (by omega)⟩
    rw [flN_succ hs, List.length_append, flN_len hz at_ j (by omega), hz s (List.mem_of_getElem? hs)]
    omega
theorem flN_take {Z : List (List UInt8)} (hz : ∀ s ∈ Z, s.length = 64) (at_ j m : Nat) (hj : at_ + j ≤ Z.length) (hm : 12 + m ≤ 64 * j) : ((flN Z at_ j).drop 12).take m = ((Z.drop at_).flatten.drop 12).take m := by
  have hl := flN_len hz at_ j hj
  have e : (Z.drop at_).flatten = flN Z at_ j ++ ((Z.drop at_).drop j).flatten := by
    unfold flN
    rw [← List.flatten_append, List.take_append_drop]
  rw [e, List.drop_append_of_le_length (by omega), List.take_append_of_le_length (by rw [List.length_drop]; omega)]
theorem FullOr.rd {w W : World} {c : Col} {A : Option Addr} {n cp : Nat} {xs : List UInt8} (h : FullOr W c w.heap.size A n cp xs) (hw : Wf c w) : Rd kU8 W c A n cp xs := by
  rcases h with ⟨_, h⟩ | h
  · exact h
  · exact own_rd h hw
theorem FullOr.below {W W' : World} {c : Col} {base : Nat} {A : Option Addr} {n cp : Nat} {xs : List UInt8} (h : FullOr W c base A n cp xs) (hb : Below W.heap.size W W') : FullOr W' c base A n cp xs := by
  rcases h with ⟨h1, h⟩ | h
  · exact .inl ⟨h1, h.below hb⟩
  · exact .inr (own_below h hb)
set_option maxRecDepth 100000 in
set_option maxHeartbeats 8000000 in
theorem WRead_none (w : World) (c : Col) (gl g n num used : Nat) (Y : List (List UInt8)) (D : Dt) (N at_ : Nat) (hat : n ≤ at_) (hw : Wf c w) (hD : Dk w c g n Y D N) (hL : Lg w c gl g num used) :
    Calls Try.prog 39 #[.pointer (some ⟨gl, 0, none⟩), .int .i64 (at_ : Int)] w fun e w' => e = .returned (.tuple #[.slice none 0 0, .bool false]) ∧ Below w.heap.size w w' := by
  have d0 := blk_cell0 hL.2
  have hib : isB n (at_ : Int) = false := by unfold isB; simp; omega
  have HW := Lib.hid hw
  have HD := Lib.hid hD
  clear hw hD
  go_enter Try.func39, Try.ntmps39
  go_wp2_with fail
  refine (KRead_bad w c g n Y D N (at_ : Int) hib HD.out).mono ?_
  rintro e w1 ⟨rfl, rfl⟩
  go_wp2_with fail
  refine (New_any w c [] none 0 0 (by omega) HW.out (Rd.nil _ _ _)).mono ?_
  rintro e w2 ⟨gr, rfl, hgr, q_HT2, q_HR2⟩
  have HT2 := Lib.hid q_HT2
  have HR2 := Lib.hid q_HR2
  clear q_HT2 q_HR2
  go_wp2_with fail
  refine (RNum_no w2 (c.set gr gr) gr [] false 4 (.inr (.inr (.inr (by simp)))) HT2.out.wf HR2.out).mono ?_
  rintro e w3 ⟨rfl, q_HT3, q_HR3⟩
  have HT3 := Lib.hid q_HT3
  have HR3 := Lib.hid q_HR3
  clear q_HT3 q_HR3
  have HTw3 := Lib.hid (HT2.out.low HT3.out hgr)
  go_wp2_with fail
  refine (RRaw_no w3 (c.set gr gr) gr [] true 8 (.inl rfl) HTw3.out.wf HR3.out).mono ?_
  rintro e w4 ⟨A4, n4, cp4, rfl, q_HT4, q_HR4, q_HRD4⟩
  have HT4 := Lib.hid q_HT4
  have HR4 := Lib.hid q_HR4
  have HRD4 := Lib.hid q_HRD4
  clear q_HT4 q_HR4 q_HRD4
  have HTw4 := Lib.hid (HTw3.out.low HT4.out hgr)
  go_wp2_with fail
  refine bodyPost_ret (results_tmp2 rfl _ _ _) rfl ?_
  exact ⟨rfl, HTw4.out.below (fun _ _ h => h)⟩
set_option maxRecDepth 100000 in
set_option maxHeartbeats 8000000 in
theorem WRead_some (w : World) (c : Col) (gl g n num used : Nat) (Y : List (List UInt8)) (D : Dt) (N at_ : Nat) (s : List UInt8) (hs : (syncY Y D)[at_]? = some s) (hnum : num ≤ 100000) (hw : Wf c w) (hD : Dk w c g n Y D N) (hL : Lg w c gl g num used) :
    Calls Try.prog 39 #[.pointer (some ⟨gl, 0, none⟩), .int .i64 (at_ : Int)] w fun e w' => ∃ A m cp b, e = .returned (.tuple #[.slice A m cp, .bool b]) ∧ Below w.heap.size w w' ∧ b = (recAt (syncY Y D) at_ num).isSome ∧ ∀ x, recAt (syncY Y D) at_ num = some x → Rd kU8 w' c A m cp x := by
  have d0 := blk_cell0 hL.2
  have d1 := blk_cell1 hL.2
  have hgll := blk_lt hL.2
  have hYl : Y.length = n := by obtain ⟨_, _, _, _, _, _, _, _, h, _⟩ := hD; exact h
  have hn8 : n ≤ 4096 := by obtain ⟨_, _, _, _, _, _, _, _, _, _, _, h⟩ := hD; exact h
  have hY64 : ∀ s ∈ Y, s.length = 64 := by obtain ⟨_, _, _, _, _, _, _, _, _, h, _⟩ := hD; exact h
  have hDok : DOk D := by obtain ⟨_, _, _, _, _, _, h, _⟩ := hD; exact h.ok
  obtain ⟨Z, hZ⟩ : ∃ Z, syncY Y D = Z := ⟨_, rfl⟩
  have hZ64 : ∀ s ∈ Z, s.length = 64 := by rw [← hZ]; exact syncY_all hY64 hDok
  have hZl : Z.length = n := by rw [← hZ, syncY_len, hYl]
  have hread : ∀ (k : Nat) (z : List UInt8), Z[k]? = some z → ∃ y, Y[k]? = some y ∧ (D (k : Int)).getD y = z := by
    intro k z h
    rw [← hZ, syncY_get] at h
    obtain ⟨y, h1, h2⟩ := Option.map_eq_some_iff.1 h
    exact ⟨y, h1, h2⟩
  rw [hZ] at hs ⊢
  have hatn : at_ < n := by have := (List.getElem?_eq_some_iff.1 hs).1; omega
  have hs64 := hZ64 s (List.mem_of_getElem? hs)
  obtain ⟨y, hy, hys⟩ := hread at_ s hs
  have hK := KRead_full w c g n Y D N at_ hatn hw hD y hy
  rw [hys] at hK
  obtain ⟨nn, hnn⟩ : ∃ nn, beNat (s.take 4) = nn := ⟨_, rfl⟩
  have hnb : nn < 4294967296 := by
    have h := beNat_lt (s.take 4)
    rw [List.length_take, hs64, hnn] at h
    simpa using h
  have HREC : Hid (recAt Z at_ num = if 1 ≤ nn ∧ nn ≤ 20000 ∧ secN nn ≤ n - at_ ∧ sumF (((Z.drop at_).flatten.drop 12).take nn) num = (s.drop 4).take 8 then some (((Z.drop at_).flatten.drop 12).take nn) else none) := by
    show _ = _
    unfold recAt
    rw [hs]
    simp only [hnn, hZl]
  generalize hrc : recAt Z at_ num = rc at HREC
  clear hrc hYl hy hys
  have HW := Lib.hid hw
  have HD := Lib.hid hD
  have HK := Lib.hid hK
  have HS := Lib.hid hs
  have HZ64 := Lib.hid hZ64
  have HZL := Lib.hid hZl
  have HREAD := Lib.hid hread
  have HL := Lib.hid hL
  have HNN := Lib.hid hnn
  have HY64 := Lib.hid hY64
  have HDOK := Lib.hid hDok
  have HZ := Lib.hid hZ
  clear hw hD hK hs hZ64 hZl hread hL hnn hY64 hDok hZ
  go_enter Try.func39, Try.ntmps39
  go_wp2_with fail
  refine (HK.out).mono ?_
  rintro e w1 ⟨A1, rfl, q_HR1, q_HB1⟩
  have HR1 := Lib.hid q_HR1
  have HB1 := Lib.hid q_HB1
  clear q_HR1 q_HB1
  have HT1 := Lib.hid (Tr.of_below (M := fun _ => False) HW.out HB1.out)
  go_wp2_with fail
  refine (New_any w1 c s A1 64 64 (by omega) HT1.out.wf HR1.out).mono ?_
  rintro e w2 ⟨gr, rfl, hgr, q_HT2, q_HR2⟩
  have HT2 := Lib.hid q_HT2
  have HR2 := Lib.hid q_HR2
  clear q_HT2 q_HR2
  have h4 : 4 ≤ s.length := by omega
  go_wp2_with fail
  refine (RNum_yes w2 (c.set gr gr) gr s 4 (by omega) (by omega) h4 HT2.out.wf HR2.out).mono ?_
  rintro e w3 ⟨rfl, q_HT3, q_HR3⟩
  have HT3 := Lib.hid q_HT3
  have HR3 := Lib.hid q_HR3
  clear q_HT3 q_HR3
  have HTw3 := Lib.hid (HT2.out.low HT3.out hgr)
  have h8 : 8 ≤ (s.drop 4).length := by rw [List.length_drop]; omega
  go_wp2_with fail
  refine (RRaw_yes w3 (c.set gr gr) gr (s.drop 4) 8 (by omega) h8 HTw3.out.wf HR3.out).mono ?_
  rintro e w4 ⟨A4, n4, cp4, rfl, q_HT4, q_HR4, q_HRD4⟩
  have HT4 := Lib.hid q_HT4
  have HR4 := Lib.hid q_HR4
  have HRD4 := Lib.hid q_HRD4
  clear q_HT4 q_HR4 q_HRD4
  have hn4 : n4 = 8 := by rw [← HRD4.out.len, List.length_take]; omega
  subst hn4
  have HTw4 := Lib.hid (HTw3.out.low HT4.out hgr)
  have HTW := Lib.hid (HT1.out.then HTw4.out)
  have HBW := Lib.hid (HTW.out.below (fun _ _ h => h))
  have hsz1 := HB1.out.size
  have e0 : w4.cell? ⟨gl, 0, none⟩ = some (.pointer (some ⟨g, 0, none⟩)) := (HBW.out.cell (p := ⟨gl, 0, none⟩) hgll).trans d0
  have e1 : w4.cell? ⟨gl, 1, none⟩ = some (.int .i64 (num : Int)) := (HBW.out.cell (p := ⟨gl, 1, none⟩) hgll).trans d1
  have HDW := Lib.hid (HD.out.tr (Tr.of_below (M := fun _ => False) HW.out HBW.out) (fun h => h))
  rw [HNN.out]
  have hcv : wrap64 (nn : Int) = (nn : Int) := by unfold wrap64; omega
  rw [hcv]
  clear hcv
  have hsec : ((secN nn : Nat) : Int) = (12 + (nn : Int) + 63) / 64 := by unfold secN; omega
  by_cases b1 : 1 ≤ nn
  case neg =>
    have hrc : rc = none := by rw [HREC.out, if_neg (fun h => b1 h.1)]
    subst hrc
    have c1 : (nn : Int) < 1 := by omega
    go_wp2_with fail
    refine bodyPost_ret (results_tmp2 rfl _ _ _) rfl ?_
    exact ⟨_, _, _, _, rfl, HBW.out, rfl, fun x h => by cases h⟩
  have c1 : ¬ ((nn : Int) < 1) := by omega
  by_cases b2 : nn ≤ 20000
  case neg =>
    have hrc : rc = none := by rw [HREC.out, if_neg (fun h => b2 h.2.1)]
    subst hrc
    have c2 : (20000 : Int) < (nn : Int) := by omega
    go_wp2_with fail
    refine bodyPost_ret (results_tmp2 rfl _ _ _) rfl ?_
    exact ⟨_, _, _, _, rfl, HBW.out, rfl, fun x h => by cases h⟩
  have c2 : ¬ ((20000 : Int) < (nn : Int)) := by omega
  by_cases b3 : secN nn ≤ n - at_
  case neg =>
    have hrc : rc = none := by rw [HREC.out, if_neg (fun h => b3 h.2.2.1)]
    subst hrc
    have c3 : ((n : Int) - (at_ : Int)) < (12 + (nn : Int) + 63) / 64 := by omega
    go_wp2_with fail
    refine (KLen_any w4 c g n Y D N HDW.out).mono ?_
    rintro e w5 ⟨rfl, rfl⟩
    go_wp2_with fail
    refine bodyPost_ret (results_tmp2 rfl _ _ _) rfl ?_
    exact ⟨_, _, _, _, rfl, HBW.out, rfl, fun x h => by cases h⟩
  have c3 : ¬ (((n : Int) - (at_ : Int)) < (12 + (nn : Int) + 63) / 64) := by omega
  go_wp2_with fail
  refine (KLen_any w4 c g n Y D N HDW.out).mono ?_
  rintro e w5 ⟨rfl, rfl⟩
  go_wp2_with fail
  have hst1 : Hid (FullOr w4 c w4.heap.size A1 64 64 (flN Z at_ 1)) := .inl ⟨rfl, by rw [flN_one HS.out]; exact HR1.out.below (HTw4.out.below (fun _ _ h => h))⟩
  go_loopw [6, 11] (fun b i wr => ∃ (j m cp : Nat) (A : Option Addr), i = .int .i64 (j : Int) ∧ b = .slice A m cp ∧ 1 ≤ j ∧ at_ + j ≤ n ∧ Hid (m = 64 * j) ∧ Hid (Below w4.heap.size w4 wr) ∧ Hid (FullOr wr c w4.heap.size A m cp (flN Z at_ j))) (fun _ i _ => n - (intOf i).toNat)
  case atStart => exact ⟨1, 64, 64, A1, rfl, rfl, Nat.le_refl _, by omega, rfl, Below.refl _ _, hst1⟩
  case round =>
    obtain ⟨j, m, cp, A, rfl, rfl, hj1, hjn, HM, HBR, HFO⟩ := hrel
    have hBwr := below_then HBW.out HBR.out
    have e0' : wr.cell? ⟨gl, 0, none⟩ = some (.pointer (some ⟨g, 0, none⟩)) := (HBR.out.cell (p := ⟨gl, 0, none⟩) (block_lt_of_cell e0)).trans e0
    have e1' : wr.cell? ⟨gl, 1, none⟩ = some (.int .i64 (num : Int)) := (HBR.out.cell (p := ⟨gl, 1, none⟩) (block_lt_of_cell e1)).trans e1
    have HDR := Lib.hid (HD.out.tr (Tr.of_below (M := fun _ => False) HW.out hBwr) (fun h => h))
    have hwr : Wf c wr := HW.out.below hBwr
    have hfl := flN_len HZ64.out at_ j (by rw [HZL.out]; exact hjn)
    have hrd : Rd kU8 wr c A m cp (flN Z at_ j) := HFO.out.rd (HW.out.below HBW.out)
    by_cases hlt : m < 12 + nn
    · have hlt' : (m : Int) < 12 + (nn : Int) := by omega
      have hjlt : at_ + j < n := by have := HM.out; unfold secN at b3; omega
      obtain ⟨z, hz⟩ : ∃ z, Z[at_ + j]? = some z := ⟨_, List.getElem?_eq_getElem (by rw [HZL.out]; exact hjlt)⟩
      obtain ⟨y2, hy2, hyz⟩ := HREAD.out _ _ hz
      have hK2 := KRead_full wr c g n Y D N (at_ + j) hjlt hwr HDR.out y2 hy2
      rw [hyz] at hK2
      have eadd : ((at_ + j : Nat) : Int) = (at_ : Int) + (j : Int) := by omega
      rw [eadd] at hK2
      have HFS := Lib.hid (flN_succ hz)
      have hm0 : 0 < m := by have := HM.out; omega
      have hmb : m ≤ 300000 := by have := HM.out; omega
      have HK2 := Lib.hid hK2
      have HZ2 := Lib.hid hz
      have HWR := Lib.hid hwr
      have HRD := Lib.hid hrd
      have HBWR := Lib.hid hBwr
      clear hK2 hz hwr hrd hBwr
      clear hy2 hyz eadd hfl
      go_wp2_with fail
      refine (HK2.out).mono ?_
      rintro e w6 ⟨A6, rfl, q_HR6, q_HB6⟩
      have HR6 := Lib.hid q_HR6
      have HB6 := Lib.hid q_HB6
      clear q_HR6 q_HB6
      have HFO6 := Lib.hid (HFO.out.below HB6.out)
      have HBR6 := Lib.hid (below_then HBR.out HB6.out)
      go_wp2_with (at_builtin; go_must (refine app_fo (w := w4) (c := c) (base := w4.heap.size) (.tmp 74) (.tmp 75) 23 5 rfl rfl rfl Try.underlying23 u8_info (flN Z at_ j) z rfl rfl HBR6.out.size HBR6.out HFO6.out HR6.out (by omega) hm0 (by omega) ?_; intro A7 cp7 w7 q_hb7 q_hown7; have HB7 := Lib.hid q_hb7; have HO7 := Lib.hid q_hown7; clear q_hb7 q_hown7))
      have hm1 := HM.out
      exact ⟨⟨j + 1, m + 64, cp7, A7, by go_num, rfl, by omega, by omega, by show _ = _; omega, HB7.out, .inr (by rw [HFS.out]; exact HO7.out)⟩, by simp [intOf]; omega⟩
    · have hlt' : ¬ ((m : Int) < 12 + (nn : Int)) := by omega
      have hmj := HM.out
      have hcp : m ≤ cp := hrd.2.1
      have hx : ((flN Z at_ j).drop 12).take nn = ((Z.drop at_).flatten.drop 12).take nn := flN_take HZ64.out at_ j nn (by rw [HZL.out]; exact hjn) (by omega)
      obtain ⟨b, off, rfl⟩ := hrd.addr (by omega)
      obtain ⟨x, hxx⟩ : ∃ x, ((Z.drop at_).flatten.drop 12).take nn = x := ⟨_, rfl⟩
      have hrx : Rd kU8 wr c (some ⟨b, off + 12, none⟩) nn (cp - 12) x := by
        have h1 := hrd.drop (m := 12) (by omega)
        rw [if_neg (by omega)] at h1
        have h2 := h1.take (m := nn) (by omega)
        rw [hx, hxx] at h2
        simpa [addr_add, kU8] using h2
      have hxl := hrx.1
      have hn1 : (12 : Int) + (nn : Int) ≤ (cp : Int) := by omega
      have hcp12 : ¬ cp = 12 := by omega
      have hmb : m ≤ 300000 := by omega
      have hS := WSum_any wr c (some ⟨b, off + 12, none⟩) nn (cp - 12) x num (by omega) (by omega) hwr hrx
      rw [hxx] at HREC
      have HRX := Lib.hid hrx
      have HS2 := Lib.hid hS
      have HWR := Lib.hid hwr
      have HRD := Lib.hid hrd
      have HBWR := Lib.hid hBwr
      have HX := Lib.hid hx
      have HXX := Lib.hid hxx
      clear hrx hS hwr hrd hBwr hx hxx
      clear hfl
      go_wp2_with fail
      refine (HS2.out).mono ?_
      rintro e w8 ⟨A8, cp8, rfl, q_HR8, q_HB8⟩
      have HR8 := Lib.hid q_HR8
      have HB8 := Lib.hid q_HB8
      clear q_HR8 q_HB8
      have HBW8 := Lib.hid (below_then HBWR.out HB8.out)
      obtain ⟨bq, hbq⟩ : ∃ bq, (sumF x num == (s.drop 4).take 8) = bq := ⟨_, rfl⟩
      have HE : Hid (Calls Try.prog 58 #[.slice A8 8 cp8, .slice A4 8 cp4] w8 (BoolPost w8 bq)) := by
        show Calls _ _ _ _ _
        rw [← hbq]
        exact EqualB_any w8 (fun _ => none) A8 A4 8 cp8 8 cp4 _ _ (HR8.out.cool (fun _ _ _ => rfl)) (((HRD4.out.cool (c' := fun _ => none) (fun _ _ _ => rfl)).below HBR.out).below HB8.out)
      have HBQ := Lib.hid hbq
      clear hbq
      go_wp2_with fail
      refine (HE.out).mono ?_
      rintro e w9 ⟨rfl, q_HB9⟩
      have HB9 := Lib.hid q_HB9
      clear q_HB9
      go_wp2_with fail
      refine bodyPost_ret (results_tmp2 rfl _ _ _) rfl ?_
      have hbw9 := below_then HBW8.out HB9.out
      cases bq with
      | true =>
        have he := HBQ.out
        rw [beq_iff_eq] at he
        have hrc := HREC.out
        rw [if_pos ⟨b1, b2, b3, he⟩] at hrc
        subst hrc
        refine ⟨_, _, _, _, rfl, hbw9, rfl, fun z hz => ?_⟩
        cases hz
        exact (HRX.out.below HB8.out).below HB9.out
      | false =>
        have he := HBQ.out
        rw [beq_eq_false_iff_ne] at he
        have hrc := HREC.out
        rw [if_neg (fun h => he h.2.2.2)] at hrc
        subst hrc
        exact ⟨_, _, _, _, rfl, hbw9, rfl, fun z hz => by cases hz⟩
theorem WRead_any (w : World) (c : Col) (gl g n num used : Nat) (Y : List (List UInt8)) (D : Dt) (N at_ : Nat) (hnum : num ≤ 100000) (hw : Wf c w) (hD : Dk w c g n Y D N) (hL : Lg w c gl g num used) :
    Calls Try.prog 39 #[.pointer (some ⟨gl, 0, none⟩), .int .i64 (at_ : Int)] w fun e w' => ∃ A m cp b, e = .returned (.tuple #[.slice A m cp, .bool b]) ∧ Below w.heap.size w w' ∧ b = (recAt (syncY Y D) at_ num).isSome ∧ ∀ x, recAt (syncY Y D) at_ num = some x → Rd kU8 w' c A m cp x := by
  have hYl : Y.length = n := by obtain ⟨_, _, _, _, _, _, _, _, h, _⟩ := hD; exact h
  cases hs : (syncY Y D)[at_]? with
  | none =>
    rw [List.getElem?_eq_none_iff, syncY_len, hYl] at hs
    have hr : recAt (syncY Y D) at_ num = none := by
      unfold recAt
      rw [List.getElem?_eq_none (by rw [syncY_len, hYl]; exact hs)]
    rw [hr]
    refine (WRead_none w c gl g n num used Y D N at_ hs hw hD hL).mono ?_
    rintro e w' ⟨rfl, hb⟩
    exact ⟨_, _, _, _, rfl, hb, rfl, fun x h => by cases h⟩
  | some s => exact WRead_some w c gl g n num used Y D N at_ s hs hnum hw hD hL
end Go.Proofs.Ytalihocoekplgaa
