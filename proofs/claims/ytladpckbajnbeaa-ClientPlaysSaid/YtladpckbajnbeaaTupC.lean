/- tuple.Put: what it does. -/
import Derived.Test.YtladpckbajnbeaaTupB
set_option linter.unusedVariables false
set_option linter.unusedSimpArgs false
namespace Go.Proofs.Ytladpckbajnbeaa
open Go.RowKit

def u64N (x : Int) : Nat := (IntKind.u64.wrap x).toNat
theorem u64_pos (x : Int) : 0 ≤ IntKind.u64.wrap x := by
  have : IntKind.u64.wrap x = x % 18446744073709551616 := rfl
  omega
def fldB (x : Fld) : List UInt8 := numB x.kind.toNat 1 ++ (if x.kind = 1 then numB (u64N x.n) 8 else if x.kind = 2 then textB x.s else [])
def tupB (l : List Fld) : List UInt8 := numB l.length 1 ++ l.flatMap fldB

theorem asked_kind {x : Fld} (h : askedB x = true) : 1 ≤ x.kind ∧ x.kind ≤ 5 ∧ (x.kind = 2 → x.s.length ≤ 40) := by
  unfold askedB plainB at h
  split at h
  · rename_i h3; omega
  · split at h
    · omega
    · split at h
      · rename_i h2
        refine ⟨by omega, by omega, fun _ => ?_⟩
        simp at h
        exact h.2
      · cases h
theorem fldB_len {x : Fld} (h : askedB x = true) : (fldB x).length ≤ 50 := by
  obtain ⟨_, _, h3⟩ := asked_kind h
  unfold fldB
  rw [List.length_append, numB_length]
  split
  · rw [numB_length]; omega
  · split
    · rename_i h2
      have := h3 h2
      simp [textB, numB_length]; omega
    · simp
theorem flds_len {l : List Fld} (h : ∀ x ∈ l, askedB x = true) : (l.flatMap fldB).length ≤ l.length * 50 := by
  induction l with
  | nil => simp
  | cons x l ih =>
    have h1 := ih fun y hy => h y (List.mem_cons_of_mem _ hy)
    have h2 := fldB_len (h x (by simp))
    rw [List.flatMap_cons, List.length_append, List.length_cons]
    omega

/-- Bytes, or an error: Put's answer. -/
def PutPost (w : World) (ok : Bool) (ys : List UInt8) (e : Ending) (w' : World) : Prop :=
  Below w.heap.size w w' ∧ (if ok = true then ∃ A n cp, e = .returned (.tuple #[.slice A n cp, .int .i64 0]) ∧ w'.ownsRow w.heap.size 5 1 (.slice A n cp) n (bcells ys)
    else e = .returned (.tuple #[.slice none 0 0, .int .i64 1]))

set_option maxHeartbeats 4000000 in
theorem TPut_any (w : World) (c : Col) (A : Option Addr) (n cp : Nat) (l : List Fld) (hw : Wf c w) (hx : Rd kFld w c A n cp l) :
    Calls Try.prog 40 #[.slice A n cp] w (PutPost w (mayTB l) (tupB l)) := by
  have hln := hx.1
  have hmx := hx.max
  have HC := Lib.hid (MayT_any w c A n cp l hx)
  have HX := Lib.hid hx
  have HL := Lib.hid hln
  have HF := Lib.hid hw
  clear hx hln hw
  cases hmay : mayTB l with
  | false =>
    rw [hmay] at HC
    clear hmay
    go_enter Try.func40, Try.ntmps40
    go_wp2_with fail
    refine (HC.out).mono ?_
    rintro e w1 ⟨rfl, q_HB1⟩
    have HB1 := Lib.hid q_HB1
    clear q_HB1
    go_wp2_with fail
    refine bodyPost_ret (results_tmp2 rfl _ _ _) rfl ?_
    exact ⟨HB1.out, rfl⟩
  | true =>
    rw [hmay] at HC
    have hall : (∀ x ∈ l, askedB x = true) ∧ n ≤ 6 := by
      unfold mayTB at hmay
      simp only [Bool.and_eq_true, decide_eq_true_eq, List.all_eq_true] at hmay
      exact ⟨hmay.2.2, by have := HL.out; omega⟩
    obtain ⟨hall, hn6⟩ := hall
    have HALL := Lib.hid hall
    clear hall
    clear hmay
    go_enter Try.func40, Try.ntmps40
    go_wp2_with fail
    refine (HC.out).mono ?_
    rintro e w1 ⟨rfl, q_HB1⟩
    have HB1 := Lib.hid q_HB1
    clear q_HB1
    obtain ⟨ht0, hW0⟩ := Wr_new w1 c (HF.out.below HB1.out)
    generalize hc0 : Col.set c w1.heap.size w1.heap.size = c0 at ht0 hW0
    have HT0 := Lib.hid ((Tr.of_below (M := fun _ => False) HF.out HB1.out).then ht0)
    have HW0 := Lib.hid hW0
    clear hW0
    clear hc0 ht0
    have hw1 := HB1.out.size
    go_wp2_with fail
    refine (Num_good _ c0 w1.heap.size [] n 1 (by omega) (by omega) (by omega) (by simp) HT0.out.wf HW0.out).mono ?_
    rintro e w2 ⟨rfl, c2, q_HA2, q_HW2⟩
    have HA2 := Lib.hid q_HA2
    have HW2 := Lib.hid q_HW2
    clear q_HA2 q_HW2
    have HT2 := Lib.hid (HT0.out.low HA2.out hw1)
    go_wp2_with fail
    go_loopw [16] (fun i wr => ∃ (k : Nat) (c1 : Col), i = .int .i64 (k : Int) ∧ k ≤ n ∧ Hid (Tr (fun _ => False) c c1 w wr) ∧ Hid (Wr wr c1 w1.heap.size (numB n 1 ++ (l.take k).flatMap fldB))) (fun i _ => n - (intOf i).toNat)
    case atStart => exact ⟨0, c2, rfl, by omega, HT2.out, by show Wr _ _ _ _; have := HW2.out; simpa using this⟩
    case round =>
      obtain ⟨k, c1, rfl, hk, ht, hW⟩ := hrel
      by_cases hlt : k < n
      · obtain ⟨bb, off, rfl⟩ := HX.out.addr (by omega)
        have hel := getD_at' l ⟨0, 0, []⟩ (k := k) (by have := HL.out; omega)
        generalize l[k]?.getD ⟨0, 0, []⟩ = x at hel
        obtain ⟨hok, h0, h1, h2⟩ := (HX.out.tr ht.out).fld hel
        have HTK := Lib.hid (take_snoc' hel)
        obtain ⟨hk1, hk5, hs40⟩ := asked_kind (HALL.out x (List.mem_of_getElem? hel))
        have hpl := flds_len (l := l.take k) fun y hy => HALL.out y (List.mem_of_mem_take hy)
        have HLEN : Hid ((numB n 1 ++ (l.take k).flatMap fldB).length ≤ 400) := by show _ ≤ _; rw [List.length_append, numB_length]; rw [List.length_take] at hpl; omega
        have hkw1 := ht.out.size
        have HOK := Lib.hid hok
        have HS40 := Lib.hid hs40
        have HEL := Lib.hid hel
        clear hok hs40 hel
        clear hpl
        go_wp2_with fail
        refine (Num_good _ c1 w1.heap.size _ x.kind 1 (by omega) (by omega) (by omega) (by have := HLEN.out; omega) (ht.out.alloc _).wf (hW.out.tr (Tr.new ht.out.wf _) (fun h => h))).mono ?_
        rintro e w3 ⟨rfl, c3, q_HA3, q_HW3⟩
        have HA3 := Lib.hid q_HA3
        have HW3 := Lib.hid q_HW3
        clear q_HA3 q_HW3
        have HT3 := Lib.hid ((ht.out.alloc _).low HA3.out hw1)
        have e0 := HA3.out.newcell ht.out.wf 0 _ rfl
        have e1 := HA3.out.newcell ht.out.wf 1 _ rfl
        have e2 := HA3.out.newcell ht.out.wf 2 _ rfl
        have hcase : x.kind = 1 ∨ x.kind = 2 ∨ (x.kind ≠ 1 ∧ x.kind ≠ 2) := by omega
        rcases hcase with hkd | hkd | ⟨hka, hkb⟩
        · have hb1 : (x.kind == 1) = true := by simp [hkd]
          have hb2 : (x.kind == 2) = false := by simp; omega
          have HFB : Hid (fldB x = numB x.kind.toNat 1 ++ numB (u64N x.n) 8) := by show _ = _; unfold fldB; rw [if_pos hkd]
          clear hkd
          go_wp2_with fail
          refine (Num_good _ c3 w1.heap.size _ (IntKind.u64.wrap x.n) 8 (u64_pos _) (by omega) (by omega) (by rw [List.length_append, numB_length]; have := HLEN.out; omega) HT3.out.wf HW3.out).mono ?_
          rintro e w4 ⟨rfl, c4, q_HA4, q_HW4⟩
          have HA4 := Lib.hid q_HA4
          have HW4 := Lib.hid q_HW4
          clear q_HA4 q_HW4
          have HT4 := Lib.hid (HT3.out.low HA4.out hw1)
          go_wp2_with fail
          refine ⟨⟨k + 1, c4, by go_num, by omega, HT4.out, ?_⟩, by simp [intOf]; omega⟩
          show Wr _ _ _ _
          rw [HTK.out, List.flatMap_append, List.flatMap_singleton, HFB.out]
          have := HW4.out
          simp only [List.append_assoc] at this ⊢
          exact this
        · have hb1 : (x.kind == 1) = false := by simp; omega
          have hb2 : (x.kind == 2) = true := by simp [hkd]
          have hsl := HS40.out hkd
          have HFB : Hid (fldB x = numB x.kind.toNat 1 ++ textB x.s) := by show _ = _; unfold fldB; rw [if_neg (by omega), if_pos hkd]
          clear hkd
          obtain ⟨cpb, wb, hcv, q_HBB, hbl, q_HRB⟩ := conv_bytes 9 24 5 Try.underlying9 rfl Try.underlying24 Try.underlying5 w3 x.s (by omega)
          have HBB := Lib.hid q_HBB
          have HRB := Lib.hid q_HRB
          have HSL := Lib.hid hsl
          clear q_HBB q_HRB hsl
          go_wp2_with fail
          refine (Text_any wb c3 w1.heap.size _ x.s _ _ cpb (by rw [List.length_append, numB_length]; have := HLEN.out; have := HSL.out; omega) (HT3.out.wf.below HBB.out) (HW3.out.tr (Tr.of_below (M := fun _ => False) HT3.out.wf HBB.out) (fun h => h)) (HRB.out c3 HT3.out.wf)).mono ?_
          rintro e w4 ⟨rfl, c4, q_HA4, q_HW4⟩
          have HA4 := Lib.hid q_HA4
          have HW4 := Lib.hid q_HW4
          clear q_HA4 q_HW4
          have HT4 := Lib.hid ((HT3.out.then (Tr.of_below HT3.out.wf HBB.out)).low HA4.out hw1)
          go_wp2_with fail
          refine ⟨⟨k + 1, c4, by go_num, by omega, HT4.out, ?_⟩, by simp [intOf]; omega⟩
          show Wr _ _ _ _
          rw [HTK.out, List.flatMap_append, List.flatMap_singleton, HFB.out]
          have := HW4.out
          simp only [List.append_assoc] at this ⊢
          exact this
        · have hb1 : (x.kind == 1) = false := by simp; omega
          have hb2 : (x.kind == 2) = false := by simp; omega
          have HFB : Hid (fldB x = numB x.kind.toNat 1) := by show _ = _; unfold fldB; rw [if_neg hka, if_neg hkb, List.append_nil]
          clear hka hkb
          go_wp2_with fail
          refine ⟨⟨k + 1, c3, by go_num, by omega, HT3.out, ?_⟩, by simp [intOf]; omega⟩
          show Wr _ _ _ _
          rw [HTK.out, List.flatMap_append, List.flatMap_singleton, HFB.out]
          have := HW3.out
          simp only [List.append_assoc] at this ⊢
          exact this
      · obtain rfl : k = n := by omega
        have HK : Hid (l.take k = l) := List.take_of_length_le (by have := HL.out; omega)
        have hpl := flds_len HALL.out
        have HLEN : Hid ((numB k 1 ++ l.flatMap fldB).length ≤ 400) := by show _ ≤ _; rw [List.length_append, numB_length]; have := HL.out; omega
        rw [HK.out] at hW
        clear hpl
        go_wp2_with fail
        refine (Bytes_own wr c1 w1.heap.size _ (by have := HLEN.out; omega) ht.out.wf hW.out).mono ?_
        rintro e w4 ⟨A4, n4, cp4, rfl, q_HO4, q_HB4⟩
        have HO4 := Lib.hid q_HO4
        have HB4 := Lib.hid q_HB4
        clear q_HO4 q_HB4
        have hkw1 := ht.out.size
        go_wp2_with fail
        go_ret2
        refine ⟨(ht.out.below fun _ _ h => h).trans (HB4.out.mono hkw1), ?_⟩
        rw [if_pos rfl]
        refine ⟨A4, n4, cp4, rfl, ?_⟩
        unfold tupB
        rw [HL.out]
        exact own_weak HO4.out hkw1
end Go.Proofs.Ytladpckbajnbeaa
