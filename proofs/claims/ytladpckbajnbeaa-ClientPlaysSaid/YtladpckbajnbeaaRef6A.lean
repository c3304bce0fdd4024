/- ref6: fields, MayTuple, MayTemplate, SameFields, Match; law6's Few. -/
import Derived.Test.YtladpckbajnbeaaTupB
import Derived.Deep.RegionWith
set_option linter.unusedVariables false
set_option linter.unusedSimpArgs false
namespace Go.Proofs.Ytladpckbajnbeaa
open Go.RowKit

def fieldB (m : Int) (x : Fld) : Bool := decide (1 ≤ x.kind) && (decide (x.kind ≤ m) && ((x.kind == 1 || x.n == 0) && ((x.kind == 2 || x.s.isEmpty) && decide (x.s.length ≤ 40))))
def fieldsB (m : Int) (l : List Fld) : Bool := decide (1 ≤ l.length) && (decide (l.length ≤ 6) && l.all (fieldB m))
theorem field_plain (x : Fld) : fieldB 2 x = plainB x := by
  obtain ⟨k, n, s⟩ := x
  simp only [fieldB, plainB]
  by_cases h1 : k = 1
  · subst h1; cases s <;> simp
  · by_cases h2 : k = 2
    · subst h2; simp
    · rw [if_neg h1, if_neg h2]
      have : decide (1 ≤ k) = false ∨ decide (k ≤ 2) = false := by
        by_cases h : 1 ≤ k
        · exact .inr (decide_eq_false (by omega))
        · exact .inl (decide_eq_false h)
      rcases this with h | h <;> simp [h]
theorem field_asked (x : Fld) : fieldB 5 x = askedB x := by
  obtain ⟨k, n, s⟩ := x
  simp only [fieldB, askedB, plainB]
  by_cases h1 : k = 1
  · subst h1; cases s <;> simp
  · by_cases h2 : k = 2
    · subst h2; simp
    · by_cases h : k = 3 ∨ k = 4 ∨ k = 5
      · rcases h with rfl | rfl | rfl <;> cases s <;> simp
      · rw [if_neg h, if_neg h1, if_neg h2]
        have : decide (1 ≤ k) = false ∨ decide (k ≤ 5) = false := by
          by_cases h : 1 ≤ k
          · exact .inr (decide_eq_false (by omega))
          · exact .inl (decide_eq_false h)
        rcases this with h | h <;> simp [h]

set_option maxHeartbeats 4000000 in
theorem r6fields_any (w : World) (c : Col) (A : Option Addr) (n cp : Nat) (l : List Fld) (mo : Int) (hmo : 2 ≤ mo) (hx : Rd kFld w c A n cp l) :
    Calls Try.prog 62 #[.slice A n cp, .int .i64 mo] w (BoolPost w (fieldsB mo l)) := by
  have hln := hx.1
  have hmx := hx.max
  have HX := Lib.hid hx
  have HL := Lib.hid hln
  clear hx hln
  generalize hr : fieldsB mo l = r
  have hc : n < 1 ∨ (1 ≤ n ∧ 6 < n) ∨ (1 ≤ n ∧ n ≤ 6) := by omega
  rcases hc with h | ⟨h1, h⟩ | ⟨h1, h⟩
  · have HP : Hid (r = false) := by show _ = _; rw [← hr]; unfold fieldsB; rw [decide_eq_false (by have := HL.out; omega)]; rfl
    clear hr
    go_enter Try.func62, Try.ntmps62
    go_wp2_with fail
    refine bodyPost_ret (results_tmp rfl _ _ _) rfl ?_
    rw [HP.out]
    exact ⟨rfl, Below.refl _ _⟩
  · have HP : Hid (r = false) := by show _ = _; rw [← hr]; unfold fieldsB; rw [decide_eq_false (p := l.length ≤ 6) (by have := HL.out; omega)]; simp
    clear hr
    go_enter Try.func62, Try.ntmps62
    go_wp2_with fail
    refine bodyPost_ret (results_tmp rfl _ _ _) rfl ?_
    rw [HP.out]
    exact ⟨rfl, Below.refl _ _⟩
  have HR : Hid (r = l.all (fieldB mo)) := by show _ = _; rw [← hr]; unfold fieldsB; rw [decide_eq_true (p := 1 ≤ l.length) (by have := HL.out; omega), decide_eq_true (p := l.length ≤ 6) (by have := HL.out; omega)]; rfl
  clear hr
  go_enter Try.func62, Try.ntmps62
  go_wp2_with fail
  go_loopw [5] (fun i wr => ∃ k : Nat, i = .int .i64 (k : Int) ∧ k ≤ n ∧ Hid ((l.take k).all (fieldB mo) = true) ∧ Hid (Below w.heap.size w wr)) (fun i _ => n - (intOf i).toNat)
  case atStart => exact ⟨0, rfl, by omega, by show _ = _; simp, Below.refl _ _⟩
  case round =>
    obtain ⟨k, rfl, hk, hall, hbl⟩ := hrel
    by_cases hlt : k < n
    · obtain ⟨bb, off, rfl⟩ := HX.out.addr (by omega)
      have hel := getD_at' l ⟨0, 0, []⟩ (k := k) (by have := HL.out; omega)
      generalize l[k]?.getD ⟨0, 0, []⟩ = x at hel
      obtain ⟨_, h0, h1', h2⟩ := (HX.out.below hbl.out).fld hel
      have HTK := Lib.hid (take_snoc' hel)
      have HEL := Lib.hid hel
      have HB := Lib.hid (below_then hbl.out (below_alloc wr (.cells #[.int .i64 x.kind, .int .i64 x.n, .string ⟨x.s.toArray⟩] 54)))
      clear hel
      have hsz := size_mk x.s
      have HF : Hid (fieldB mo x = false → r = false) := fun e => by
        rw [HR.out, List.all_eq_false]
        exact ⟨x, List.mem_of_getElem? HEL.out, by simp [e]⟩
      have hcs : (x.kind < 1) ∨ (1 ≤ x.kind ∧ mo < x.kind) ∨ (x.kind = 1 ∨ x.kind = 2 ∨ (2 < x.kind ∧ x.kind ≤ mo)) := by omega
      have done : ∀ (b : Bool), fieldB mo x = b → Hid (fieldB mo x = b) := fun b h => h
      have hs0 : x.s = [] ∨ (x.s ≠ [] ∧ x.s.isEmpty = false) := by cases x.s <;> simp
      have hn0 : x.n = 0 ∨ (x.n ≠ 0 ∧ (x.n == 0) = false) := by by_cases h : x.n = 0 <;> simp [h]
      have hl0 : x.s.length ≤ 40 ∨ 40 < x.s.length := by omega
      rcases hcs with h | ⟨ha, h⟩ | h | h | ⟨ha, h⟩
      · have HP := done false (by unfold fieldB; rw [decide_eq_false (by omega)]; rfl)
        clear hs0 hn0 hl0
        go_wp2_with fail
        refine bodyPost_ret (results_tmp rfl _ _ _) rfl ?_
        rw [HF.out HP.out]
        exact ⟨rfl, HB.out⟩
      · have HP := done false (by unfold fieldB; rw [decide_eq_false (p := x.kind ≤ mo) (by omega)]; simp)
        clear hs0 hn0 hl0
        go_wp2_with fail
        refine bodyPost_ret (results_tmp rfl _ _ _) rfl ?_
        rw [HF.out HP.out]
        exact ⟨rfl, HB.out⟩
      · rcases hs0 with hs | ⟨hs, hs'⟩
        · have HP := done true (by unfold fieldB; rw [h, hs]; simp; omega)
          have he : (x.s == ([] : List UInt8)) = true := by rw [hs]; rfl
          have hl : x.s.length = 0 := by rw [hs]; rfl
          have hb1 : (x.kind == 1) = true := by rw [h]; rfl
          have hb2 : (x.kind == 2) = false := by rw [h]; rfl
          clear hs hn0 hl0
          go_wp2_with fail
          exact ⟨⟨k + 1, by go_num, by omega, by show _ = _; rw [HTK.out, List.all_append, hall.out]; simp [HP.out], below_then hbl.out (below_alloc _ _)⟩, by simp [intOf]; omega⟩
        · have HP := done false (by unfold fieldB; rw [hs', h]; simp)
          have he : (x.s == ([] : List UInt8)) = false := by simp [hs]
          have hb1 : (x.kind == 1) = true := by rw [h]; rfl
          have hb2 : (x.kind == 2) = false := by rw [h]; rfl
          clear hs hn0 hl0
          go_wp2_with fail
          refine bodyPost_ret (results_tmp rfl _ _ _) rfl ?_
          rw [HF.out HP.out]
          exact ⟨rfl, below_then hbl.out (below_alloc _ _)⟩
      · rcases hn0 with hn | ⟨hn, hn'⟩
        · rcases hl0 with hl | hl
          · have HP := done true (by unfold fieldB; rw [hn, h]; simp; omega)
            have hm0 : (x.n == 0) = true := by rw [hn]; rfl
            have hb1 : (x.kind == 1) = false := by rw [h]; rfl
            have hb2 : (x.kind == 2) = true := by rw [h]; rfl
            clear hs0
            go_wp2_with fail
            exact ⟨⟨k + 1, by go_num, by omega, by show _ = _; rw [HTK.out, List.all_append, hall.out]; simp [HP.out], below_then hbl.out (below_alloc _ _)⟩, by simp [intOf]; omega⟩
          · have HP := done false (by unfold fieldB; rw [decide_eq_false (p := x.s.length ≤ 40) (by omega)]; simp)
            have hm0 : (x.n == 0) = true := by rw [hn]; rfl
            have hb1 : (x.kind == 1) = false := by rw [h]; rfl
            have hb2 : (x.kind == 2) = true := by rw [h]; rfl
            clear hs0
            go_wp2_with fail
            refine bodyPost_ret (results_tmp rfl _ _ _) rfl ?_
            rw [HF.out HP.out]
            exact ⟨rfl, below_then hbl.out (below_alloc _ _)⟩
        · have HP := done false (by unfold fieldB; rw [hn', h]; simp)
          have hb1 : (x.kind == 1) = false := by rw [h]; rfl
          have hb2 : (x.kind == 2) = true := by rw [h]; rfl
          clear hs0 hl0
          go_wp2_with fail
          refine bodyPost_ret (results_tmp rfl _ _ _) rfl ?_
          rw [HF.out HP.out]
          exact ⟨rfl, below_then hbl.out (below_alloc _ _)⟩
      · rcases hn0 with hn | ⟨hn, hn'⟩
        · rcases hs0 with hs | ⟨hs, hs'⟩
          · have HP := done true (by unfold fieldB; rw [hn, hs, decide_eq_true (p := 1 ≤ x.kind) (by omega), decide_eq_true (p := x.kind ≤ mo) (by omega)]; simp)
            have hm0 : (x.n == 0) = true := by rw [hn]; rfl
            have he : (x.s == ([] : List UInt8)) = true := by rw [hs]; rfl
            have hl : x.s.length = 0 := by rw [hs]; rfl
            have hb1 : (x.kind == 1) = false := by simp; omega
            have hb2 : (x.kind == 2) = false := by simp; omega
            clear hs hl0
            go_wp2_with fail
            exact ⟨⟨k + 1, by go_num, by omega, by show _ = _; rw [HTK.out, List.all_append, hall.out]; simp [HP.out], below_then hbl.out (below_alloc _ _)⟩, by simp [intOf]; omega⟩
          · have HP := done false (by unfold fieldB; rw [hs', show (x.kind == 2) = false by simp; omega]; simp)
            have hm0 : (x.n == 0) = true := by rw [hn]; rfl
            have he : (x.s == ([] : List UInt8)) = false := by simp [hs]
            have hb1 : (x.kind == 1) = false := by simp; omega
            have hb2 : (x.kind == 2) = false := by simp; omega
            clear hs hl0
            go_wp2_with fail
            refine bodyPost_ret (results_tmp rfl _ _ _) rfl ?_
            rw [HF.out HP.out]
            exact ⟨rfl, below_then hbl.out (below_alloc _ _)⟩
        · have HP := done false (by unfold fieldB; rw [hn', show (x.kind == 1) = false by simp; omega]; simp)
          have hb1 : (x.kind == 1) = false := by simp; omega
          have hb2 : (x.kind == 2) = false := by simp; omega
          clear hs0 hl0
          go_wp2_with fail
          refine bodyPost_ret (results_tmp rfl _ _ _) rfl ?_
          rw [HF.out HP.out]
          exact ⟨rfl, below_then hbl.out (below_alloc _ _)⟩
    · obtain rfl : k = n := by omega
      have HK : Hid (l.take k = l) := List.take_of_length_le (by have := HL.out; omega)
      go_wp2_with fail
      go_ret
      rw [HR.out, ← HK.out, hall.out]
      exact ⟨rfl, hbl.out⟩
set_option maxHeartbeats 1000000 in
theorem r6MayT_any (w : World) (c : Col) (A : Option Addr) (n cp : Nat) (l : List Fld) (hx : Rd kFld w c A n cp l) :
    Calls Try.prog 48 #[.slice A n cp] w (BoolPost w (mayB l)) := by
  have HE : Hid (fieldsB 2 l = mayB l) := by
    show _ = _
    unfold fieldsB mayB
    rw [show fieldB 2 = plainB from funext field_plain]
  have HX := Lib.hid hx
  clear hx
  go_enter Try.func48, Try.ntmps48
  go_wp2_with fail
  refine (r6fields_any w c A n cp l 2 (by decide) HX.out).mono ?_
  rintro e w1 ⟨rfl, q_HB1⟩
  have HB1 := Lib.hid q_HB1
  clear q_HB1
  go_wp2_with fail
  go_ret
  rw [← HE.out]
  exact ⟨rfl, HB1.out⟩
set_option maxHeartbeats 1000000 in
theorem r6MayP_any (w : World) (c : Col) (A : Option Addr) (n cp : Nat) (l : List Fld) (hx : Rd kFld w c A n cp l) :
    Calls Try.prog 43 #[.slice A n cp] w (BoolPost w (mayTB l)) := by
  have HE : Hid (fieldsB 5 l = mayTB l) := by
    show _ = _
    unfold fieldsB mayTB
    rw [show fieldB 5 = askedB from funext field_asked]
  have HX := Lib.hid hx
  clear hx
  go_enter Try.func43, Try.ntmps43
  go_wp2_with fail
  refine (r6fields_any w c A n cp l 5 (by decide) HX.out).mono ?_
  rintro e w1 ⟨rfl, q_HB1⟩
  have HB1 := Lib.hid q_HB1
  clear q_HB1
  go_wp2_with fail
  go_ret
  rw [← HE.out]
  exact ⟨rfl, HB1.out⟩

def fewB (l : List Fld) : Bool := decide (l.length ≤ 20) && l.all fun x => decide (x.s.length ≤ 100)
set_option maxHeartbeats 2000000 in
theorem l6Few_any (w : World) (c : Col) (A : Option Addr) (n cp : Nat) (l : List Fld) (hx : Rd kFld w c A n cp l) :
    Calls Try.prog 37 #[.slice A n cp] w (BoolPost w (fewB l)) := by
  have hln := hx.1
  have hmx := hx.max
  have HX := Lib.hid hx
  have HL := Lib.hid hln
  clear hx hln
  generalize hr : fewB l = r
  by_cases h : 20 < n
  · have HP : Hid (r = false) := by show _ = _; rw [← hr]; unfold fewB; rw [decide_eq_false (by have := HL.out; omega)]; rfl
    clear hr
    go_enter Try.func37, Try.ntmps37
    go_wp2_with fail
    refine bodyPost_ret (results_tmp rfl _ _ _) rfl ?_
    rw [HP.out]
    exact ⟨rfl, Below.refl _ _⟩
  have HR : Hid (r = l.all fun x => decide (x.s.length ≤ 100)) := by show _ = _; rw [← hr]; unfold fewB; rw [decide_eq_true (p := l.length ≤ 20) (by have := HL.out; omega)]; rfl
  clear hr
  go_enter Try.func37, Try.ntmps37
  go_wp2_with fail
  go_loopw [3] (fun i wr => ∃ k : Nat, i = .int .i64 (k : Int) ∧ k ≤ n ∧ Hid ((l.take k).all (fun x => decide (x.s.length ≤ 100)) = true) ∧ wr = w) (fun i _ => n - (intOf i).toNat)
  case atStart => exact ⟨0, rfl, by omega, by show _ = _; simp, rfl⟩
  case round =>
    obtain ⟨k, rfl, hk, hall, rfl⟩ := hrel
    by_cases hlt : k < n
    · obtain ⟨bb, off, rfl⟩ := HX.out.addr (by omega)
      have hel := getD_at' l ⟨0, 0, []⟩ (k := k) (by have := HL.out; omega)
      generalize l[k]?.getD ⟨0, 0, []⟩ = x at hel
      obtain ⟨_, h0, h1', h2⟩ := HX.out.fld hel
      have HTK := Lib.hid (take_snoc' hel)
      have HEL := Lib.hid hel
      clear hel
      have hsz := size_mk x.s
      by_cases h100 : x.s.length ≤ 100
      · go_wp2_with fail
        refine ⟨⟨k + 1, by go_num, by omega, ?_, by first | rfl | trivial⟩, by simp [intOf]; omega⟩
        show _ = _
        rw [HTK.out, List.all_append, hall.out]
        simp
        exact h100
      · have HP : Hid (r = false) := by
          show _ = _
          rw [HR.out, List.all_eq_false]
          exact ⟨x, List.mem_of_getElem? HEL.out, by simp; omega⟩
        go_wp2_with fail
        refine bodyPost_ret (results_tmp rfl _ _ _) rfl ?_
        rw [HP.out]
        exact ⟨rfl, Below.refl _ _⟩
    · obtain rfl : k = n := by omega
      have HK : Hid (l.take k = l) := List.take_of_length_le (by have := HL.out; omega)
      go_wp2_with fail
      go_ret
      rw [HR.out, ← HK.out, hall.out]
      exact ⟨rfl, Below.refl _ _⟩
set_option maxHeartbeats 2000000 in
theorem r6Same_any (w : World) (c : Col) (A B : Option Addr) (n cp m cq : Nat) (p t : List Fld) (hx : Rd kFld w c A n cp p) (hy : Rd kFld w c B m cq t) :
    Calls Try.prog 46 #[.slice A n cp, .slice B m cq] w (BoolPost w (sameL p t)) := by
  have hln := hx.1
  have hmx := hx.max
  have hln2 := hy.1
  have hmx2 := hy.max
  have HX := Lib.hid hx
  have HL := Lib.hid hln
  have HY := Lib.hid hy
  have HL2 := Lib.hid hln2
  clear hx hln hy hln2
  generalize hr : sameL p t = r
  by_cases hnm : n = m
  case neg =>
    have HP : Hid (r = false) := by show _ = _; rw [← hr]; exact all2_len_ne (by rw [HL.out, HL2.out]; exact hnm)
    have hne : ((n : Int) == (m : Int)) = false := by simp; omega
    have hne2 : ((n : Int) != (m : Int)) = true := by simp; omega
    clear hr
    go_enter Try.func46, Try.ntmps46
    go_wp2_with fail
    refine bodyPost_ret (results_tmp rfl _ _ _) rfl ?_
    rw [HP.out]
    exact ⟨rfl, Below.refl _ _⟩
  subst hnm
  have HR := Lib.hid hr
  clear hr
  go_enter Try.func46, Try.ntmps46
  go_wp2_with fail
  go_loopw [5] (fun i wr => ∃ k : Nat, i = .int .i64 (k : Int) ∧ k ≤ n ∧ Hid (∀ j x y, j < k → p[j]? = some x → t[j]? = some y → fdEq x y = true) ∧ Hid (Below w.heap.size w wr)) (fun i _ => n - (intOf i).toNat)
  case atStart => exact ⟨0, rfl, by omega, fun j x y h => absurd h (by omega), Below.refl _ _⟩
  case round =>
    obtain ⟨k, rfl, hk, hall, hbl⟩ := hrel
    by_cases hlt : k < n
    · obtain ⟨bb, off, rfl⟩ := HX.out.addr (by omega)
      obtain ⟨b2, off2, rfl⟩ := HY.out.addr (by omega)
      have hel := getD_at' p ⟨0, 0, []⟩ (k := k) (by have := HL.out; omega)
      generalize p[k]?.getD ⟨0, 0, []⟩ = x at hel
      have hel2 := getD_at' t ⟨0, 0, []⟩ (k := k) (by have := HL2.out; omega)
      generalize t[k]?.getD ⟨0, 0, []⟩ = y at hel2
      obtain ⟨_, h0, h1, h2⟩ := (HX.out.below hbl.out).fld hel
      obtain ⟨_, g0, g1, g2⟩ := (HY.out.below hbl.out).fld hel2
      have HEL := Lib.hid hel
      have HEL2 := Lib.hid hel2
      clear hel hel2
      have heq := fun W => run_neq_fld W x y
      have hk0 : (0 : Int) ≤ (k : Int) := Int.natCast_nonneg _
      have hk1 : (k : Int) < (n : Int) := by omega
      go_wp2_with fail
      go_quiet (fail)
      have HB := Lib.hid (Drew.below hbl.out nq)
      by_cases hp : fdEq x y = true
      · have hp2 : (!fdEq x y) = false := by simp [hp]
        rw [hp2]
        go_wp2_with fail
        refine ⟨⟨k + 1, by go_num, by omega, fun j a b hj ha hb => ?_, HB.out⟩, by simp [intOf]; omega⟩
        rcases Nat.lt_or_ge j k with h | h
        · exact hall.out j a b h ha hb
        · obtain rfl : j = k := by omega
          rw [HEL.out] at ha
          rw [HEL2.out] at hb
          cases ha
          cases hb
          exact hp
      · have hpf : fdEq x y = false := by simpa using hp
        have HP : Hid (r = false) := by show _ = _; rw [← HR.out]; exact all2_false HEL.out HEL2.out hpf
        have hp2 : (!fdEq x y) = true := by simp [hpf]
        rw [hp2]
        clear hp
        go_wp2_with fail
        refine bodyPost_ret (results_tmp rfl _ _ _) rfl ?_
        rw [HP.out]
        exact ⟨rfl, HB.out⟩
    · obtain rfl : k = n := by omega
      have HP : Hid (r = true) := by
        show _ = _
        rw [← HR.out]
        refine (all2_iff _ _ _).2 ⟨by rw [HL.out, HL2.out], fun j x y hx hy => hall.out j x y ?_ hx hy⟩
        have := (List.getElem?_eq_some_iff.1 hx).1
        have := HL.out
        omega
      go_wp2_with fail
      go_ret
      rw [HP.out]
      exact ⟨rfl, hbl.out⟩
end Go.Proofs.Ytladpckbajnbeaa
