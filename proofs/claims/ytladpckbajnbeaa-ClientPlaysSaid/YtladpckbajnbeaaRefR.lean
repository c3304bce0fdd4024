/- ref1.R: the document's reader. -/
import Derived.Test.YtladpckbajnbeaaPackB
import Derived.Test.YtladpckbajnbeaaLib2
set_option linter.unusedVariables false
set_option linter.unusedSimpArgs false
namespace Go.Proofs.Ytladpckbajnbeaa
open Go.RowKit

/-- 'xs[:m]' -/
theorem cut_high {P : Program} {α : Type} (K : Kd α) (t e : TypeId) (kl : IntKind) (ht : P.underlying t = some (.slice e)) {z : Value} {by_ : Nat} (hinfo : (P.info? e).map (fun i => (i.zero, i.size, i.bytes)) = some (some z, K.sz, by_))
    (A : Option Addr) (n cp m : Nat) (hm : m ≤ n) (hn : n ≤ cp) :
    ∃ A' : Option Addr, (∀ W : World, (Instr.slice t (.slice A n cp) none (some (.int kl (m : Int))) none).run P W = .ok (.slice A' m cp) W) ∧
      ∀ (w : World) (c : Col) (xs : List α), Rd K w c A n cp xs → Rd K w c A' m cp (xs.take m) := by
  obtain ⟨i, hi, hzz⟩ := Option.map_eq_some_iff.1 hinfo
  simp only [Prod.mk.injEq] at hzz
  refine ⟨if cp = 0 then A else A.map (·.add 0), fun W => ?_, fun w c xs h => ?_⟩
  · have hel : P.elem t = e := by simp [Program.elem, ht]
    have hu : P.underlying t = some (.slice (P.elem t)) := by rw [hel]; exact ht
    rw [run_slice_h W t A n cp hu kl (m : Int) (Int.natCast_nonneg _) (by omega), hel]
    simp [sizeOf, typeInfo, hi, hzz.2.1, sliced, Result.andThen]
  · have h1 := (h.drop (m := 0) (Nat.zero_le _)).take (m := m) (by omega)
    simpa using h1

def Rf (w : World) (c : Col) (g : Nat) (r : RS) : Prop :=
  c g = some g ∧ ∃ A n cp, w.heap[g]? = some (.cells #[.slice A n cp, .bool r.wrong] 108 (0, 0)) ∧ Rd kU8 w c A n cp (if r.wrong = true then [] else r.xs)
theorem Rf.tr {M : Nat → Prop} {w w' : World} {c c' : Col} {g : Nat} {r : RS} (h : Rf w c g r) (k : Tr M c c' w w') (hM : ¬ M g) : Rf w' c' g r := by
  obtain ⟨hc, A, n, cp, hb, hr⟩ := h
  have := Loc.tr ⟨hc, hb⟩ k hM
  exact ⟨this.1, A, n, cp, this.2, hr.tr k⟩
theorem Rf.lt {w : World} {c : Col} {g : Nat} {r : RS} (h : Rf w c g r) : g < w.heap.size := by
  obtain ⟨hc, A, n, cp, hb, hr⟩ := h
  exact (Array.getElem?_eq_some_iff.1 hb).1
def RfPost (w : World) (c : Col) (g : Nat) (v : Value) (r : RS) (e : Ending) (w' : World) : Prop :=
  e = .returned v ∧ Tr (· = g) c c w w' ∧ Rf w' c g r
def RaPost (w : World) (c : Col) (g : Nat) (out : List UInt8) (r : RS) (e : Ending) (w' : World) : Prop :=
  ∃ A n cp, e = .returned (.slice A n cp) ∧ Tr (· = g) c c w w' ∧ Rf w' c g r ∧ Rd kU8 w' c A n cp out

/-- Made wrong. -/
theorem Rf_bad {w : World} {c : Col} {g : Nat} {A : Option Addr} {n cp : Nat} {b : Bool} (hw : Wf c w) (hc : c g = some g) (hb : w.heap[g]? = some (.cells #[.slice A n cp, .bool b] 108 (0, 0))) (xs : List UInt8) :
    Tr (· = g) c c w ((w.setCell ⟨g, 1, none⟩ (.bool true)).setCell ⟨g, 0, none⟩ (.slice none 0 0)) ∧ Rf ((w.setCell ⟨g, 1, none⟩ (.bool true)).setCell ⟨g, 0, none⟩ (.slice none 0 0)) c g ⟨xs, true⟩ := by
  refine ⟨((Tr.refl (· = g) hw).setCell (p := ⟨g, 1, none⟩) hc (.inl rfl) _).setCell (p := ⟨g, 0, none⟩) hc (.inl rfl) _, hc, none, 0, 0, ?_, Rd.nil _ _ _⟩
  have := blk_set (blk_set hb 1 (.bool true)) 0 (.slice none 0 0)
  simpa using this

set_option maxHeartbeats 1000000 in
theorem rRaw_any (w : World) (c : Col) (g : Nat) (r : RS) (n : Int) (hw : Wf c w) (hW : Rf w c g r) :
    Calls Try.prog 72 #[.pointer (some ⟨g, 0, none⟩), .int .i64 n] w (RaPost w c g (r.raw n).1 (r.raw n).2) := by
  obtain ⟨xs, b⟩ := r
  obtain ⟨hcg, A, m, cp, hb, hR⟩ := hW
  have hc0 := blk_cell0 hb
  have hc1 := blk_cell1 hb
  have hf0 := blk_free hb 0
  have hf1 := blk_free hb 1
  have hmx := hR.max
  have HB := Lib.hid hb
  have HR := Lib.hid hR
  have HF := Lib.hid hw
  clear hb hR hw
  dsimp only at hc1
  cases b with
  | true =>
    have HP : Hid (RS.raw ⟨xs, true⟩ n = ([], ⟨xs, true⟩)) := by show _ = _; unfold RS.raw; rw [if_neg (by simp)]
    go_enter Try.func72, Try.ntmps72
    go_wp2_with fail
    refine bodyPost_ret (results_tmp rfl _ _ _) rfl ?_
    rw [HP.out]
    obtain ⟨ht, hr⟩ := Rf_bad HF.out hcg HB.out xs
    exact ⟨none, 0, 0, rfl, ht, hr, Rd.nil _ _ _⟩
  | false =>
    have HL : Hid (xs.length = m) := HR.out.1
    by_cases h0 : n < 0
    · have HP : Hid (RS.raw ⟨xs, false⟩ n = ([], ⟨xs, true⟩)) := by show _ = _; unfold RS.raw; rw [if_neg (by simp; omega)]
      go_enter Try.func72, Try.ntmps72
      go_wp2_with fail
      refine bodyPost_ret (results_tmp rfl _ _ _) rfl ?_
      rw [HP.out]
      obtain ⟨ht, hr⟩ := Rf_bad HF.out hcg HB.out xs
      exact ⟨none, 0, 0, rfl, ht, hr, Rd.nil _ _ _⟩
    · obtain ⟨j, rfl⟩ := Int.eq_ofNat_of_zero_le (show 0 ≤ n by omega)
      by_cases h1 : j ≤ m
      · have HP : Hid (RS.raw ⟨xs, false⟩ (j : Int) = (xs.take j, ⟨xs.drop j, false⟩)) := by show _ = _; unfold RS.raw; rw [if_pos ⟨rfl, by omega, by simp; have := HL.out; omega⟩]; rfl
        obtain ⟨A1, hcut1, hrd1⟩ := cut_high kU8 24 5 .i64 Try.underlying24 u8_info A m cp j h1 HR.out.2.1 (P := Try.prog)
        obtain ⟨A2, hcut2, hrd2⟩ := cut_low kU8 24 5 .i64 Try.underlying24 u8_info A m cp j h1 (P := Try.prog)
        have HR1 := Lib.hid (hrd1 w c xs HR.out)
        have HR2 := Lib.hid (hrd2 w c xs HR.out)
        clear hrd1 hrd2
        go_enter Try.func72, Try.ntmps72
        go_wp2_with fail
        go_ret
        rw [HP.out]
        have ht := (Tr.refl (· = g) HF.out).setCell (p := ⟨g, 0, none⟩) hcg (.inl rfl) (.slice A2 (m - j) (cp - j))
        exact ⟨A1, j, cp, rfl, ht, ⟨hcg, A2, m - j, cp - j, by simpa using blk_set HB.out 0 (.slice A2 (m - j) (cp - j)), HR2.out.tr ht⟩, HR1.out.tr ht⟩
      · have HP : Hid (RS.raw ⟨xs, false⟩ (j : Int) = ([], ⟨xs, true⟩)) := by show _ = _; unfold RS.raw; rw [if_neg (by simp; have := HL.out; omega)]
        go_enter Try.func72, Try.ntmps72
        go_wp2_with fail
        refine bodyPost_ret (results_tmp rfl _ _ _) rfl ?_
        rw [HP.out]
        obtain ⟨ht, hr⟩ := Rf_bad HF.out hcg HB.out xs
        exact ⟨none, 0, 0, rfl, ht, hr, Rd.nil _ _ _⟩

theorem RS.num_raw (r : RS) (n : Int) : r.num n = (beNat (r.raw (if 1 ≤ n ∧ n ≤ 8 then n else -1)).1, (r.raw (if 1 ≤ n ∧ n ≤ 8 then n else -1)).2) := by
  unfold RS.num RS.raw
  by_cases h : 1 ≤ n ∧ n ≤ 8
  · rw [if_pos h]
    by_cases h2 : r.wrong = false ∧ 0 ≤ n ∧ n ≤ r.xs.length
    · rw [if_pos h2, if_pos ⟨h2.1, h.1, h.2, h2.2.2⟩]
    · rw [if_neg h2, if_neg (fun h3 => h2 ⟨h3.1, by omega, h3.2.2.2⟩)]
      rfl
  · rw [if_neg h, if_neg (fun h3 => h ⟨h3.2.1, h3.2.2.1⟩), if_neg (fun h3 => by omega)]
    rfl
theorem RS.raw_most (r : RS) (n : Int) : (r.raw n).1.length ≤ n.toNat := by
  unfold RS.raw
  split
  · simp; omega
  · simp

set_option maxHeartbeats 1000000 in
theorem rNum_any (w : World) (c : Col) (g : Nat) (r : RS) (n : Int) (hw : Wf c w) (hW : Rf w c g r) :
    Calls Try.prog 63 #[.pointer (some ⟨g, 0, none⟩), .int .i64 n] w (RfPost w c g (.int .u64 ((r.num n).1 : Nat)) (r.num n).2) := by
  have hnr := r.num_raw n
  have hmo := r.raw_most (if 1 ≤ n ∧ n ≤ 8 then n else -1)
  have HC := Lib.hid (fun m => rRaw_any w c g r m hw hW)
  have H8 : Hid ((if 1 ≤ n ∧ n ≤ 8 then n else -1).toNat ≤ 8) := by show _ ≤ _; split <;> omega
  generalize hm : (if 1 ≤ n ∧ n ≤ 8 then n else -1) = m at *
  have hc : (n < 1 ∧ m = -1) ∨ (1 ≤ n ∧ 8 < n ∧ m = -1) ∨ (1 ≤ n ∧ n ≤ 8 ∧ m = n) := by
    rw [← hm]
    by_cases h : 1 ≤ n ∧ n ≤ 8
    · rw [if_pos h]; exact .inr (.inr ⟨h.1, h.2, rfl⟩)
    · rw [if_neg h]; omega
  generalize hq : r.raw m = q at hnr hmo
  obtain ⟨out, r1⟩ := q
  have HC2 : Hid (Calls Try.prog 72 #[.pointer (some ⟨g, 0, none⟩), .int .i64 m] w (RaPost w c g out r1)) := by show Calls _ _ _ _ _; have := HC.out m; rw [hq] at this; exact this
  have H88 : Hid (out.length ≤ 8) := Nat.le_trans hmo H8.out
  have HNR := Lib.hid hnr
  clear hnr
  clear hm hq hmo HC H8 hW hw
  rcases hc with ⟨h, rfl⟩ | ⟨h, h', rfl⟩ | ⟨h, h', rfl⟩
  all_goals
    go_enter Try.func63, Try.ntmps63
    go_wp2_with fail
    refine (HC2.out).mono ?_
    rintro e w1 ⟨A, j, cp, rfl, q_HT1, q_HW1, q_HR⟩
    have HT1 := Lib.hid q_HT1
    have HW1 := Lib.hid q_HW1
    have HR := Lib.hid q_HR
    clear q_HT1 q_HW1 q_HR
    have HL : Hid (out.length = j) := HR.out.1
    have hj8 : j ≤ 8 := by have := H88.out; have := HL.out; omega
    go_wp2_with fail
    go_loop [6, 7] (fun v i => ∃ k : Nat, k ≤ j ∧ i = .int .i64 (k : Int) ∧ v = .int .u64 (beNat (out.take k) : Nat)) (fun _ i => j - (intOf i).toNat)
    case atStart => exact ⟨0, by omega, rfl, rfl⟩
    case round =>
      obtain ⟨k, hk, rfl, rfl⟩ := hrel
      by_cases hlt : k < j
      · obtain ⟨b, off, rfl⟩ := HR.out.addr (by omega)
        have hbyte := HR.out.byte (k := k) (by omega)
        have hv := beNat_lt (out.take k)
        have hlen : (out.take k).length = k := by rw [List.length_take]; have := HL.out; omega
        rw [hlen] at hv
        clear hlen
        have hv2 : beNat (out.take k) < 72057594037927936 := Nat.lt_of_lt_of_le hv (by
          have : 256 ^ k ≤ 256 ^ 7 := Nat.pow_le_pow_right (by omega) (by omega)
          omega)
        have hor := or_step (beNat (out.take k)) (out[k]?.getD 0) hv2
        have HV := Lib.hid ((beNat_snoc (out.take k) (out[k]?.getD 0)).symm.trans (congrArg beNat (take_snoc out 0 (k := k) (by have := HL.out; omega)).symm))
        generalize beNat (out.take k) = v at *
        have HO := Lib.hid hor
        clear hor
        go_wp2_with fail
        refine ⟨⟨k + 1, by omega, by go_num, ?_⟩, by simp [intOf]; omega⟩
        rw [HO.out, HV.out]
      · obtain rfl : k = j := by omega
        have HK : Hid (out.take k = out) := List.take_of_length_le (by have := HL.out; omega)
        rw [HK.out]
        go_wp2_with fail
        go_ret
        rw [HNR.out]
        exact ⟨rfl, HT1.out, HW1.out⟩

set_option maxHeartbeats 1000000 in
theorem rText_any (w : World) (c : Col) (g : Nat) (r : RS) (most : Int) (hm0 : 0 ≤ most) (hm : most ≤ 9223372036854775807) (hw : Wf c w) (hW : Rf w c g r) :
    Calls Try.prog 64 #[.pointer (some ⟨g, 0, none⟩), .int .i64 most] w (RaPost w c g (r.text most).1 (r.text most).2) := by
  have hlt := r.num_lt
  have HE : Hid (r.text most = (r.num 4).2.raw (if ((r.num 4).1 : Int) > max most 0 then -1 else (r.num 4).1)) := rfl
  have HC := Lib.hid (rNum_any w c g r 4 hw hW)
  generalize r.num 4 = q at *
  obtain ⟨v, r1⟩ := q
  have hv : v < 4294967296 := hlt
  clear hlt hW hw
  have hmx : max most 0 = most := by omega
  have hwm : IntKind.u64.wrap most = most := by show most % 18446744073709551616 = most; omega
  have HV0 : Hid (r1.wrong = true → True) := fun _ => trivial
  rw [hmx] at HE
  go_enter Try.func64, Try.ntmps64
  go_wp2_with fail
  refine (HC.out).mono ?_
  rintro e w1 ⟨rfl, q_HT1, q_HW1⟩
  have HT1 := Lib.hid q_HT1
  have HW1 := Lib.hid q_HW1
  clear q_HT1 q_HW1
  simp only at *
  obtain ⟨hcg, A, n, cp, hb, hR⟩ := HW1.out
  have hc0 := blk_cell0 hb
  have hc1 := blk_cell1 hb
  have hf0 := blk_free hb 0
  have hf1 := blk_free hb 1
  have hmxn := hR.max
  have HB := Lib.hid hb
  have HR := Lib.hid hR
  clear hb hR
  by_cases hgt : most < (v : Int)
  · have HE1 : Hid (r.text most = ([], ⟨r1.xs, true⟩)) := by
      show _ = _
      rw [HE.out, if_pos hgt]
      unfold RS.raw
      rw [if_neg (by omega)]
    go_wp2_with fail
    refine bodyPost_ret (results_tmp rfl _ _ _) rfl ?_
    rw [HE1.out]
    obtain ⟨ht, hr⟩ := Rf_bad HT1.out.wf hcg HB.out r1.xs
    exact ⟨none, 0, 0, rfl, HT1.out.then ht, hr, Rd.nil _ _ _⟩
  · by_cases hgn : (n : Int) < (v : Int)
    · have HE1 : Hid (r.text most = ([], ⟨r1.xs, true⟩)) := by
        show _ = _
        rw [HE.out, if_neg hgt]
        unfold RS.raw
        rw [if_neg]
        rintro ⟨h1, h2, h3⟩
        have := HR.out.1
        rw [h1] at this
        simp at this
        omega
      go_wp2_with fail
      refine bodyPost_ret (results_tmp rfl _ _ _) rfl ?_
      rw [HE1.out]
      obtain ⟨ht, hr⟩ := Rf_bad HT1.out.wf hcg HB.out r1.xs
      exact ⟨none, 0, 0, rfl, HT1.out.then ht, hr, Rd.nil _ _ _⟩
    · have HE1 : Hid (r.text most = r1.raw v) := by show _ = _; rw [HE.out, if_neg hgt]
      go_wp2_with fail
      refine (rRaw_any w1 c g r1 v HT1.out.wf HW1.out).mono ?_
      rintro e w2 ⟨A2, n2, cp2, rfl, q_HT2, q_HW2, q_HR2⟩
      have HT2 := Lib.hid q_HT2
      have HW2 := Lib.hid q_HW2
      have HR2 := Lib.hid q_HR2
      clear q_HT2 q_HW2 q_HR2
      go_wp2_with fail
      go_ret
      rw [HE1.out]
      exact ⟨A2, n2, cp2, rfl, HT1.out.then HT2.out, HW2.out, HR2.out⟩

set_option maxHeartbeats 1000000 in
theorem rEnd_any (w : World) (c : Col) (g : Nat) (r : RS) (hw : Wf c w) (hW : Rf w c g r) :
    Calls Try.prog 65 #[.pointer (some ⟨g, 0, none⟩)] w (RfPost w c g (.int .i64 r.fin) r) := by
  obtain ⟨xs, b⟩ := r
  have HW := Lib.hid hW
  obtain ⟨hcg, A, m, cp, hb, hR⟩ := hW
  have hc0 := blk_cell0 hb
  have hc1 := blk_cell1 hb
  have hmx := hR.max
  have HB := Lib.hid hb
  have HR := Lib.hid hR
  have HF := Lib.hid hw
  clear hb hR hw
  dsimp only at hc1
  cases b with
  | true =>
    have HX : Hid (RS.fin ⟨xs, true⟩ = 2) := by show _ = _; simp [RS.fin]
    go_enter Try.func65, Try.ntmps65
    go_wp2_with fail
    refine bodyPost_ret (results_tmp rfl _ _ _) rfl ?_
    exact ⟨by rw [HX.out]; rfl, Tr.refl _ HF.out, HW.out⟩
  | false =>
    have HN : Hid (xs.length = m) := HR.out.1
    rcases Nat.eq_zero_or_pos m with h0 | h0
    · have HX : Hid (RS.fin ⟨xs, false⟩ = 0) := by
        have : xs = [] := List.eq_nil_of_length_eq_zero (HN.out.trans h0)
        show RS.fin _ = _
        simp [RS.fin, this]
      subst h0
      go_enter Try.func65, Try.ntmps65
      go_wp2_with fail
      go_ret
      exact ⟨by rw [HX.out]; rfl, Tr.refl _ HF.out, HW.out⟩
    · have HX : Hid (RS.fin ⟨xs, false⟩ = 2) := by
        have : xs ≠ [] := fun e => by have := HN.out; rw [e] at this; simp at this; omega
        show RS.fin _ = _
        simp [RS.fin, this]
      go_enter Try.func65, Try.ntmps65
      go_wp2_with fail
      refine bodyPost_ret (results_tmp rfl _ _ _) rfl ?_
      exact ⟨by rw [HX.out]; rfl, Tr.refl _ HF.out, HW.out⟩
end Go.Proofs.Ytladpckbajnbeaa
