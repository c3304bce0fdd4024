/- tuple: May, MayTemplate, Match, Same: what each call does. -/
import Derived.Test.YtladpckbajnbeaaTupA
import Derived.BigQuiet
import Derived.Deep.QuietTactic
set_option linter.unusedVariables false
set_option linter.unusedSimpArgs false
namespace Go.Proofs.Ytladpckbajnbeaa
open Go.RowKit

/-- A call that tells a bool, and turned nothing. -/
def BoolPost (w : World) (b : Bool) (e : Ending) (w' : World) : Prop := e = .returned (.bool b) ∧ Below w.heap.size w w'
abbrev fV (x : Fld) : Value := .agg #[.int .i64 x.kind, .int .i64 x.n, .string ⟨x.s.toArray⟩]

def plainB (x : Fld) : Bool := if x.kind = 1 then x.s.isEmpty else if x.kind = 2 then x.n == 0 && decide (x.s.length ≤ 40) else false
def askedB (x : Fld) : Bool := if x.kind = 3 ∨ x.kind = 4 ∨ x.kind = 5 then x.n == 0 && x.s.isEmpty else plainB x
def fitsB (p x : Fld) : Bool := if p.kind = 3 then x.kind == 1 else if p.kind = 4 then x.kind == 2 else if p.kind = 5 then true else fdEq p x

theorem str_none (s : List UInt8) : (s == ([] : List UInt8)) = s.isEmpty := by cases s <;> rfl

set_option maxHeartbeats 1000000 in
theorem plain_any (w : World) (x : Fld) : Calls Try.prog 66 #[fV x] w (BoolPost w (plainB x)) := by
  obtain ⟨k, n, s⟩ := x
  dsimp only [fV]
  by_cases h1 : k = 1
  · have HP : Hid (plainB ⟨k, n, s⟩ = s.isEmpty) := by show _ = _; simp [plainB, h1]
    have hb1 : (k == 1) = true := by simp [h1]
    clear h1
    go_enter Try.func66, Try.ntmps66
    go_wp2
    go_ret
    rw [HP.out]
    exact ⟨by simp, below_alloc _ _⟩
  · by_cases h2 : k = 2
    · have hb1 : (k == 1) = false := by simp [h1]
      have hb2 : (k == 2) = true := by simp [h2]
      by_cases h3 : n = 0
      · have HP : Hid (plainB ⟨k, n, s⟩ = decide (s.length ≤ 40)) := by show _ = _; simp [plainB, h1, h2, h3]
        have hb3 : (n == 0) = true := by simp [h3]
        clear h1 h2 h3
        go_enter Try.func66, Try.ntmps66
        go_wp2
        go_ret
        rw [HP.out]
        exact ⟨by simp [size_mk]; omega, below_alloc _ _⟩
      · have HP : Hid (plainB ⟨k, n, s⟩ = false) := by show _ = _; simp [plainB, h1, h2, h3]
        have hb3 : (n == 0) = false := by simp [h3]
        clear h1 h2 h3
        go_enter Try.func66, Try.ntmps66
        go_wp2
        go_ret
        rw [HP.out]
        exact ⟨by simp, below_alloc _ _⟩
    · have HP : Hid (plainB ⟨k, n, s⟩ = false) := by show _ = _; simp [plainB, h1, h2]
      have hb1 : (k == 1) = false := by simp [h1]
      have hb2 : (k == 2) = false := by simp [h2]
      clear h1 h2
      go_enter Try.func66, Try.ntmps66
      go_wp2
      go_ret
      rw [HP.out]
      exact ⟨by simp, below_alloc _ _⟩

set_option maxHeartbeats 1000000 in
theorem asked_any (w : World) (x : Fld) : Calls Try.prog 60 #[fV x] w (BoolPost w (askedB x)) := by
  obtain ⟨k, n, s⟩ := x
  dsimp only [fV]
  by_cases h : k = 3 ∨ k = 4 ∨ k = 5
  · have HP : Hid (askedB ⟨k, n, s⟩ = (n == 0 && s.isEmpty)) := by show _ = _; simp [askedB, h]
    by_cases h0 : n = 0
    · have hb0 : (n == 0) = true := by simp [h0]
      rcases h with rfl | rfl | rfl
      all_goals
        clear h0
        go_enter Try.func60, Try.ntmps60
        go_wp2
        go_ret
        rw [HP.out]
        exact ⟨by simp [hb0], below_alloc _ _⟩
    · have hb0 : (n == 0) = false := by simp [h0]
      rcases h with rfl | rfl | rfl
      all_goals
        clear h0
        go_enter Try.func60, Try.ntmps60
        go_wp2
        go_ret
        rw [HP.out]
        exact ⟨by simp [hb0], below_alloc _ _⟩
  · have HP : Hid (askedB ⟨k, n, s⟩ = plainB ⟨k, n, s⟩) := by show _ = _; simp [askedB, h]
    have hb3 : (k == 3) = false := by simp; omega
    have hb4 : (k == 4) = false := by simp; omega
    have hb5 : (k == 5) = false := by simp; omega
    clear h
    go_enter Try.func60, Try.ntmps60
    go_wp2_with fail
    refine (plain_any _ ⟨k, n, s⟩).mono ?_
    rintro e w1 ⟨rfl, q_HB1⟩
    have HB1 := Lib.hid q_HB1
    clear q_HB1
    go_wp2_with fail
    go_ret
    rw [HP.out]
    exact ⟨rfl, below_then (below_alloc _ _) HB1.out⟩

set_option maxHeartbeats 1000000 in
theorem fits_any (w : World) (p x : Fld) : Calls Try.prog 68 #[fV p, fV x] w (BoolPost w (fitsB p x)) := by
  dsimp only [fV]
  have heq := fun W => run_eq_fld W p x
  have hc : p.kind = 3 ∨ (p.kind ≠ 3 ∧ p.kind = 4) ∨ (p.kind ≠ 3 ∧ p.kind ≠ 4 ∧ p.kind = 5) ∨ (p.kind ≠ 3 ∧ p.kind ≠ 4 ∧ p.kind ≠ 5) := by omega
  rcases hc with h | ⟨h1, h⟩ | ⟨h1, h2, h⟩ | ⟨h1, h2, h⟩
  · have HP : Hid (fitsB p x = (x.kind == 1)) := by show _ = _; simp [fitsB, h]
    have hb3 : (p.kind == 3) = true := by simp [h]
    clear h
    go_enter Try.func68, Try.ntmps68
    go_wp2
    go_ret
    rw [HP.out]
    exact ⟨rfl, below_then (below_alloc _ _) (below_alloc _ _)⟩
  · have HP : Hid (fitsB p x = (x.kind == 2)) := by show _ = _; simp [fitsB, h]
    have hb3 : (p.kind == 3) = false := by simp [h1]
    have hb4 : (p.kind == 4) = true := by simp [h]
    clear h h1
    go_enter Try.func68, Try.ntmps68
    go_wp2
    go_ret
    rw [HP.out]
    exact ⟨rfl, below_then (below_alloc _ _) (below_alloc _ _)⟩
  · have HP : Hid (fitsB p x = true) := by show _ = _; simp [fitsB, h]
    have hb3 : (p.kind == 3) = false := by simp [h1]
    have hb4 : (p.kind == 4) = false := by simp [h2]
    have hb5 : (p.kind == 5) = true := by simp [h]
    clear h h1 h2
    go_enter Try.func68, Try.ntmps68
    go_wp2
    go_ret
    rw [HP.out]
    exact ⟨rfl, below_then (below_alloc _ _) (below_alloc _ _)⟩
  · have HP : Hid (fitsB p x = fdEq p x) := by show _ = _; simp [fitsB, h, h1, h2]
    have hb3 : (p.kind == 3) = false := by simp [h1]
    have hb4 : (p.kind == 4) = false := by simp [h2]
    have hb5 : (p.kind == 5) = false := by simp [h]
    clear h h1 h2
    go_enter Try.func68, Try.ntmps68
    go_wp2
    go_ret
    rw [HP.out]
    exact ⟨rfl, below_then (below_alloc _ _) (below_alloc _ _)⟩

/-! ### all$1, IndexFunc, ContainsFunc, all -/
set_option maxHeartbeats 1000000 in
theorem all1_plain (w : World) (b : Nat) (x : Fld) (hb : b < w.heap.size) (hc : w.cell? ⟨b, 0, none⟩ = some (.func (.func 66) #[] #[])) :
    Calls Try.prog 71 #[fV x, .pointer (some ⟨b, 0, none⟩)] w (BoolPost w (!plainB x)) := by
  dsimp only [fV]
  go_enter Try.func71, Try.ntmps71
  go_wp2_with fail
  refine (plain_any _ x).mono ?_
  rintro e w1 ⟨rfl, q_HB1⟩
  have HB1 := Lib.hid q_HB1
  clear q_HB1
  go_wp2_with fail
  go_ret
  exact ⟨rfl, below_then (below_alloc _ _) HB1.out⟩
set_option maxHeartbeats 1000000 in
theorem all1_asked (w : World) (b : Nat) (x : Fld) (hb : b < w.heap.size) (hc : w.cell? ⟨b, 0, none⟩ = some (.func (.func 60) #[] #[])) :
    Calls Try.prog 71 #[fV x, .pointer (some ⟨b, 0, none⟩)] w (BoolPost w (!askedB x)) := by
  dsimp only [fV]
  go_enter Try.func71, Try.ntmps71
  go_wp2_with fail
  refine (asked_any _ x).mono ?_
  rintro e w1 ⟨rfl, q_HB1⟩
  have HB1 := Lib.hid q_HB1
  clear q_HB1
  go_wp2_with fail
  go_ret
  exact ⟨rfl, below_then (below_alloc _ _) HB1.out⟩

set_option maxHeartbeats 2000000 in
theorem index_plain (w : World) (c : Col) (b : Nat) (A : Option Addr) (n cp : Nat) (l : List Fld) (hx : Rd kFld w c A n cp l) (hb : b < w.heap.size) (hcv : w.cell? ⟨b, 0, none⟩ = some (.func (.func 66) #[] #[])) :
    Calls Try.prog 73 #[.slice A n cp, .func (.func 71) #[] #[.pointer (some ⟨b, 0, none⟩)]] w fun e w' => ∃ i : Int, e = .returned (.int .i64 i) ∧ Hid (decide (0 ≤ i) = !l.all plainB) ∧ Below w.heap.size w w' := by
  have hln := hx.1
  have hmx := hx.max
  have HX := Lib.hid hx
  have HL := Lib.hid hln
  have HCV := Lib.hid hcv
  clear hx hln hcv
  go_enter Try.func73, Try.ntmps73
  go_wp2_with fail
  go_loopw [8] (fun i wr => ∃ k : Nat, i = .int .i64 (k : Int) ∧ k ≤ n ∧ Hid ((l.take k).all plainB = true) ∧ Hid (Below w.heap.size w wr)) (fun i _ => n - (intOf i).toNat)
  case atStart => exact ⟨0, rfl, by omega, by show _ = _; simp, Below.refl _ _⟩
  case round =>
    obtain ⟨k, rfl, hk, hall, hbl⟩ := hrel
    by_cases hlt : k < n
    · obtain ⟨bb, off, rfl⟩ := HX.out.addr (by omega)
      have hel := getD_at' l ⟨0, 0, []⟩ (k := k) (by have := HL.out; omega)
      generalize l[k]?.getD ⟨0, 0, []⟩ = x at hel
      obtain ⟨_, h0, h1, h2⟩ := (HX.out.below hbl.out).fld hel
      have HTK := Lib.hid (take_snoc' hel)
      have HEL := Lib.hid hel
      have hbs := hbl.out.size
      clear hel
      go_wp2_with fail
      refine (all1_plain wr b x (by omega) ((hbl.out.cell (p := ⟨b, 0, none⟩) hb).trans HCV.out)).mono ?_
      rintro e w1 ⟨rfl, q_HB1⟩
      have HB1 := Lib.hid q_HB1
      clear q_HB1
      have HB := Lib.hid (below_then hbl.out HB1.out)
      by_cases hp : plainB x = true
      · go_wp2_with fail
        exact ⟨⟨k + 1, by go_num, by omega, by show _ = _; rw [HTK.out, List.all_append, hall.out]; simp [hp], HB.out⟩, by simp [intOf]; omega⟩
      · have hpf : plainB x = false := by simpa using hp
        clear hp
        go_wp2_with fail
        refine bodyPost_ret (results_tmp rfl _ _ _) rfl ?_
        refine ⟨k, rfl, ?_, HB.out⟩
        show _ = _
        have : l.all plainB = false := by
          rw [List.all_eq_false]
          exact ⟨x, List.mem_of_getElem? HEL.out, by simp [hpf]⟩
        rw [this]
        simp
    · obtain rfl : k = n := by omega
      have HK : Hid (l.take k = l) := List.take_of_length_le (by have := HL.out; omega)
      go_wp2_with fail
      go_ret
      refine ⟨-1, rfl, ?_, hbl.out⟩
      show _ = _
      rw [← HK.out, hall.out]
      rfl
set_option maxHeartbeats 1000000 in
theorem contains_plain (w : World) (c : Col) (b : Nat) (A : Option Addr) (n cp : Nat) (l : List Fld) (hx : Rd kFld w c A n cp l) (hb : b < w.heap.size) (hcv : w.cell? ⟨b, 0, none⟩ = some (.func (.func 66) #[] #[])) :
    Calls Try.prog 70 #[.slice A n cp, .func (.func 71) #[] #[.pointer (some ⟨b, 0, none⟩)]] w (BoolPost w (!l.all plainB)) := by
  have HX := Lib.hid hx
  have HCV := Lib.hid hcv
  clear hx hcv
  go_enter Try.func70, Try.ntmps70
  go_wp2_with fail
  refine (index_plain w c b A n cp l HX.out hb HCV.out).mono ?_
  rintro e w1 ⟨i, rfl, q_HI, q_HB1⟩
  have HI := Lib.hid q_HI
  have HB1 := Lib.hid q_HB1
  clear q_HI q_HB1
  go_wp2_with fail
  go_ret
  exact ⟨by rw [← HI.out]; rfl, HB1.out⟩
set_option maxHeartbeats 1000000 in
theorem all_plain (w : World) (c : Col) (A : Option Addr) (n cp : Nat) (l : List Fld) (hx : Rd kFld w c A n cp l) :
    Calls Try.prog 59 #[.slice A n cp, .func (.func 66) #[] #[]] w (BoolPost w (decide (1 ≤ n) && (decide (n ≤ 6) && l.all plainB))) := by
  have hmx := hx.max
  have HX := Lib.hid hx
  clear hx
  have hc : n < 1 ∨ (1 ≤ n ∧ 6 < n) ∨ (1 ≤ n ∧ n ≤ 6) := by omega
  generalize hr : (decide (1 ≤ n) && (decide (n ≤ 6) && l.all plainB)) = r
  rcases hc with h | ⟨h1, h⟩ | ⟨h1, h⟩
  · have HP : Hid (r = false) := by show _ = _; rw [← hr, decide_eq_false (by omega)]; rfl
    clear hr
    go_enter Try.func59, Try.ntmps59
    go_wp2_with fail
    go_ret
    rw [HP.out]
    exact ⟨rfl, below_alloc _ _⟩
  · have HP : Hid (r = false) := by show _ = _; rw [← hr, decide_eq_true (by omega), decide_eq_false (by omega)]; rfl
    clear hr
    go_enter Try.func59, Try.ntmps59
    go_wp2_with fail
    go_ret
    rw [HP.out]
    exact ⟨rfl, below_alloc _ _⟩
  · have HP : Hid (r = l.all plainB) := by show _ = _; rw [← hr, decide_eq_true (by omega), decide_eq_true (by omega)]; rfl
    clear hr
    go_enter Try.func59, Try.ntmps59
    go_wp2_with fail
    refine (contains_plain _ c w.heap.size A n cp l (HX.out.below (below_alloc _ _)) (by simp) (by simp)).mono ?_
    rintro e w1 ⟨rfl, q_HB1⟩
    have HB1 := Lib.hid q_HB1
    clear q_HB1
    go_wp2_with fail
    go_ret
    rw [HP.out]
    exact ⟨by simp, below_then (below_alloc _ _) HB1.out⟩

set_option maxHeartbeats 2000000 in
theorem index_asked (w : World) (c : Col) (b : Nat) (A : Option Addr) (n cp : Nat) (l : List Fld) (hx : Rd kFld w c A n cp l) (hb : b < w.heap.size) (hcv : w.cell? ⟨b, 0, none⟩ = some (.func (.func 60) #[] #[])) :
    Calls Try.prog 73 #[.slice A n cp, .func (.func 71) #[] #[.pointer (some ⟨b, 0, none⟩)]] w fun e w' => ∃ i : Int, e = .returned (.int .i64 i) ∧ Hid (decide (0 ≤ i) = !l.all askedB) ∧ Below w.heap.size w w' := by
  have hln := hx.1
  have hmx := hx.max
  have HX := Lib.hid hx
  have HL := Lib.hid hln
  have HCV := Lib.hid hcv
  clear hx hln hcv
  go_enter Try.func73, Try.ntmps73
  go_wp2_with fail
  go_loopw [8] (fun i wr => ∃ k : Nat, i = .int .i64 (k : Int) ∧ k ≤ n ∧ Hid ((l.take k).all askedB = true) ∧ Hid (Below w.heap.size w wr)) (fun i _ => n - (intOf i).toNat)
  case atStart => exact ⟨0, rfl, by omega, by show _ = _; simp, Below.refl _ _⟩
  case round =>
    obtain ⟨k, rfl, hk, hall, hbl⟩ := hrel
    by_cases hlt : k < n
    · obtain ⟨bb, off, rfl⟩ := HX.out.addr (by omega)
      have hel := getD_at' l ⟨0, 0, []⟩ (k := k) (by have := HL.out; omega)
      generalize l[k]?.getD ⟨0, 0, []⟩ = x at hel
      obtain ⟨_, h0, h1, h2⟩ := (HX.out.below hbl.out).fld hel
      have HTK := Lib.hid (take_snoc' hel)
      have HEL := Lib.hid hel
      have hbs := hbl.out.size
      clear hel
      go_wp2_with fail
      refine (all1_asked wr b x (by omega) ((hbl.out.cell (p := ⟨b, 0, none⟩) hb).trans HCV.out)).mono ?_
      rintro e w1 ⟨rfl, q_HB1⟩
      have HB1 := Lib.hid q_HB1
      clear q_HB1
      have HB := Lib.hid (below_then hbl.out HB1.out)
      by_cases hp : askedB x = true
      · go_wp2_with fail
        exact ⟨⟨k + 1, by go_num, by omega, by show _ = _; rw [HTK.out, List.all_append, hall.out]; simp [hp], HB.out⟩, by simp [intOf]; omega⟩
      · have hpf : askedB x = false := by simpa using hp
        clear hp
        go_wp2_with fail
        refine bodyPost_ret (results_tmp rfl _ _ _) rfl ?_
        refine ⟨k, rfl, ?_, HB.out⟩
        show _ = _
        have : l.all askedB = false := by
          rw [List.all_eq_false]
          exact ⟨x, List.mem_of_getElem? HEL.out, by simp [hpf]⟩
        rw [this]
        simp
    · obtain rfl : k = n := by omega
      have HK : Hid (l.take k = l) := List.take_of_length_le (by have := HL.out; omega)
      go_wp2_with fail
      go_ret
      refine ⟨-1, rfl, ?_, hbl.out⟩
      show _ = _
      rw [← HK.out, hall.out]
      rfl
set_option maxHeartbeats 1000000 in
theorem contains_asked (w : World) (c : Col) (b : Nat) (A : Option Addr) (n cp : Nat) (l : List Fld) (hx : Rd kFld w c A n cp l) (hb : b < w.heap.size) (hcv : w.cell? ⟨b, 0, none⟩ = some (.func (.func 60) #[] #[])) :
    Calls Try.prog 70 #[.slice A n cp, .func (.func 71) #[] #[.pointer (some ⟨b, 0, none⟩)]] w (BoolPost w (!l.all askedB)) := by
  have HX := Lib.hid hx
  have HCV := Lib.hid hcv
  clear hx hcv
  go_enter Try.func70, Try.ntmps70
  go_wp2_with fail
  refine (index_asked w c b A n cp l HX.out hb HCV.out).mono ?_
  rintro e w1 ⟨i, rfl, q_HI, q_HB1⟩
  have HI := Lib.hid q_HI
  have HB1 := Lib.hid q_HB1
  clear q_HI q_HB1
  go_wp2_with fail
  go_ret
  exact ⟨by rw [← HI.out]; rfl, HB1.out⟩
set_option maxHeartbeats 1000000 in
theorem all_asked (w : World) (c : Col) (A : Option Addr) (n cp : Nat) (l : List Fld) (hx : Rd kFld w c A n cp l) :
    Calls Try.prog 59 #[.slice A n cp, .func (.func 60) #[] #[]] w (BoolPost w (decide (1 ≤ n) && (decide (n ≤ 6) && l.all askedB))) := by
  have hmx := hx.max
  have HX := Lib.hid hx
  clear hx
  have hc : n < 1 ∨ (1 ≤ n ∧ 6 < n) ∨ (1 ≤ n ∧ n ≤ 6) := by omega
  generalize hr : (decide (1 ≤ n) && (decide (n ≤ 6) && l.all askedB)) = r
  rcases hc with h | ⟨h1, h⟩ | ⟨h1, h⟩
  · have HP : Hid (r = false) := by show _ = _; rw [← hr, decide_eq_false (by omega)]; rfl
    clear hr
    go_enter Try.func59, Try.ntmps59
    go_wp2_with fail
    go_ret
    rw [HP.out]
    exact ⟨rfl, below_alloc _ _⟩
  · have HP : Hid (r = false) := by show _ = _; rw [← hr, decide_eq_true (by omega), decide_eq_false (by omega)]; rfl
    clear hr
    go_enter Try.func59, Try.ntmps59
    go_wp2_with fail
    go_ret
    rw [HP.out]
    exact ⟨rfl, below_alloc _ _⟩
  · have HP : Hid (r = l.all askedB) := by show _ = _; rw [← hr, decide_eq_true (by omega), decide_eq_true (by omega)]; rfl
    clear hr
    go_enter Try.func59, Try.ntmps59
    go_wp2_with fail
    refine (contains_asked _ c w.heap.size A n cp l (HX.out.below (below_alloc _ _)) (by simp) (by simp)).mono ?_
    rintro e w1 ⟨rfl, q_HB1⟩
    have HB1 := Lib.hid q_HB1
    clear q_HB1
    go_wp2_with fail
    go_ret
    rw [HP.out]
    exact ⟨by simp, below_then (below_alloc _ _) HB1.out⟩

/-! ### May, MayTemplate, Match, Same -/
def mayB (l : List Fld) : Bool := decide (1 ≤ l.length) && (decide (l.length ≤ 6) && l.all plainB)
def mayTB (l : List Fld) : Bool := decide (1 ≤ l.length) && (decide (l.length ≤ 6) && l.all askedB)
def sameL (a b : List Fld) : Bool := all2 fdEq a b
def fitsL (p t : List Fld) : Bool := all2 fitsB p t
def matchB (p t : List Fld) : Bool := mayTB p && (mayB t && fitsL p t)
set_option maxHeartbeats 1000000 in
theorem May_any (w : World) (c : Col) (A : Option Addr) (n cp : Nat) (l : List Fld) (hx : Rd kFld w c A n cp l) :
    Calls Try.prog 47 #[.slice A n cp] w (BoolPost w (mayB l)) := by
  have hln := hx.1
  have HX := Lib.hid hx
  have HL := Lib.hid hln
  clear hx hln
  go_enter Try.func47, Try.ntmps47
  go_wp2_with fail
  refine (all_plain w c A n cp l HX.out).mono ?_
  rintro e w1 ⟨rfl, q_HB1⟩
  have HB1 := Lib.hid q_HB1
  clear q_HB1
  go_wp2_with fail
  go_ret
  exact ⟨by unfold mayB; rw [HL.out]; simp, HB1.out⟩
set_option maxHeartbeats 1000000 in
theorem MayT_any (w : World) (c : Col) (A : Option Addr) (n cp : Nat) (l : List Fld) (hx : Rd kFld w c A n cp l) :
    Calls Try.prog 38 #[.slice A n cp] w (BoolPost w (mayTB l)) := by
  have hln := hx.1
  have HX := Lib.hid hx
  have HL := Lib.hid hln
  clear hx hln
  go_enter Try.func38, Try.ntmps38
  go_wp2_with fail
  refine (all_asked w c A n cp l HX.out).mono ?_
  rintro e w1 ⟨rfl, q_HB1⟩
  have HB1 := Lib.hid q_HB1
  clear q_HB1
  go_wp2_with fail
  go_ret
  exact ⟨by unfold mayTB; rw [HL.out]; simp, HB1.out⟩

set_option maxHeartbeats 2000000 in
theorem equalFunc_fits (w : World) (c : Col) (A B : Option Addr) (n cp m cq : Nat) (p t : List Fld) (hx : Rd kFld w c A n cp p) (hy : Rd kFld w c B m cq t) :
    Calls Try.prog 67 #[.slice A n cp, .slice B m cq, .func (.func 68) #[] #[]] w (BoolPost w (fitsL p t)) := by
  have hln := hx.1
  have hmx := hx.max
  have hln2 := hy.1
  have hmx2 := hy.max
  have HX := Lib.hid hx
  have HL := Lib.hid hln
  have HY := Lib.hid hy
  have HL2 := Lib.hid hln2
  clear hx hln hy hln2
  generalize hr : fitsL p t = r
  by_cases hnm : n = m
  case neg =>
    have HP : Hid (r = false) := by show _ = _; rw [← hr]; exact all2_len_ne (by rw [HL.out, HL2.out]; exact hnm)
    have hne : ((n : Int) == (m : Int)) = false := by simp; omega
    have hne2 : ((n : Int) != (m : Int)) = true := by simp; omega
    clear hr
    go_enter Try.func67, Try.ntmps67
    go_wp2_with fail
    refine bodyPost_ret (results_tmp rfl _ _ _) rfl ?_
    rw [HP.out]
    exact ⟨rfl, Below.refl _ _⟩
  subst hnm
  have HR := Lib.hid hr
  clear hr
  go_enter Try.func67, Try.ntmps67
  go_wp2_with fail
  go_loopw [17] (fun i wr => ∃ k : Nat, i = .int .i64 (k : Int) ∧ k ≤ n ∧ Hid (∀ j x y, j < k → p[j]? = some x → t[j]? = some y → fitsB x y = true) ∧ Hid (Below w.heap.size w wr)) (fun i _ => n - (intOf i).toNat)
  case atStart => exact ⟨0, rfl, by omega, fun j x y h => absurd h (by omega), Below.refl _ _⟩
  case round =>
    obtain ⟨k, rfl, hk, hall, hbl⟩ := hrel
    by_cases hlt : k < n
    · obtain ⟨bb, off, rfl⟩ := HX.out.addr (by omega)
      obtain ⟨b2, off2, rfl⟩ := HY.out.addr (by omega)
      have hel := getD_at' p ⟨0, 0, []⟩ (k := k) (by have := HL.out; omega)
      generalize p[k]?.getD ⟨0, 0, []⟩ = x at hel
      have hel2 := getD_at' t ⟨0, 0, []⟩ (k := k) (by have := HL2.out; omega)
      generalize t[k]?.getD ⟨0, 0, []⟩ = y at hel2
      obtain ⟨_, h0, h1, h2⟩ := (HX.out.below hbl.out).fld hel
      obtain ⟨_, g0, g1, g2⟩ := (HY.out.below hbl.out).fld hel2
      obtain ⟨hb2, _, _⟩ := (HY.out.below hbl.out).elem hel2
      have HEL := Lib.hid hel
      have HEL2 := Lib.hid hel2
      clear hel hel2
      go_wp2_with fail
      refine (fits_any _ x y).mono ?_
      rintro e w1 ⟨rfl, q_HB1⟩
      have HB1 := Lib.hid q_HB1
      clear q_HB1
      have HB := Lib.hid (below_then hbl.out (below_then (below_then (below_alloc _ _) (below_alloc _ _)) HB1.out))
      by_cases hp : fitsB x y = true
      · go_wp2_with fail
        refine ⟨⟨k + 1, by go_num, by omega, fun j a b hj ha hb => ?_, HB.out⟩, by simp [intOf]; omega⟩
        rcases Nat.lt_or_ge j k with h | h
        · exact hall.out j a b h ha hb
        · obtain rfl : j = k := by omega
          rw [HEL.out] at ha
          rw [HEL2.out] at hb
          cases ha
          cases hb
          exact hp
      · have hpf : fitsB x y = false := by simpa using hp
        have HP : Hid (r = false) := by show _ = _; rw [← HR.out]; exact all2_false HEL.out HEL2.out hpf
        clear hp
        go_wp2_with fail
        refine bodyPost_ret (results_tmp rfl _ _ _) rfl ?_
        rw [HP.out]
        exact ⟨rfl, HB.out⟩
    · obtain rfl : k = n := by omega
      have HP : Hid (r = true) := by
        show _ = _
        rw [← HR.out]
        refine (all2_iff _ _ _).2 ⟨by rw [HL.out, HL2.out], fun j x y hx hy => hall.out j x y ?_ hx hy⟩
        have := (List.getElem?_eq_some_iff.1 hx).1
        have := HL.out
        omega
      go_wp2_with fail
      go_ret
      rw [HP.out]
      exact ⟨rfl, hbl.out⟩

set_option maxHeartbeats 1000000 in
theorem Match_any (w : World) (c : Col) (A B : Option Addr) (n cp m cq : Nat) (p t : List Fld) (hx : Rd kFld w c A n cp p) (hy : Rd kFld w c B m cq t) :
    Calls Try.prog 49 #[.slice A n cp, .slice B m cq] w (BoolPost w (matchB p t)) := by
  have HX := Lib.hid hx
  have HY := Lib.hid hy
  clear hx hy
  generalize hr : matchB p t = r
  unfold matchB at hr
  cases h1 : mayTB p with
  | false =>
    have HP : Hid (r = false) := by show _ = _; rw [← hr, h1]; rfl
    have HC : Hid (Calls Try.prog 38 #[.slice A n cp] w (BoolPost w false)) := by have := MayT_any w c A n cp p HX.out; rw [h1] at this; exact this
    clear hr h1
    go_enter Try.func49, Try.ntmps49
    go_wp2_with fail
    refine (HC.out).mono ?_
    rintro e w1 ⟨rfl, q_HB1⟩
    have HB1 := Lib.hid q_HB1
    clear q_HB1
    go_wp2_with fail
    go_ret
    rw [HP.out]
    exact ⟨rfl, HB1.out⟩
  | true =>
    have HC : Hid (Calls Try.prog 38 #[.slice A n cp] w (BoolPost w true)) := by have := MayT_any w c A n cp p HX.out; rw [h1] at this; exact this
    cases h2 : mayB t with
    | false =>
      have HP : Hid (r = false) := by show _ = _; rw [← hr, h1, h2]; rfl
      have HD : Hid (∀ W, Rd kFld W c B m cq t → Calls Try.prog 47 #[.slice B m cq] W (BoolPost W false)) := by intro W h; have := May_any W c B m cq t h; rw [h2] at this; exact this
      clear hr h1 h2
      go_enter Try.func49, Try.ntmps49
      go_wp2_with fail
      refine (HC.out).mono ?_
      rintro e w1 ⟨rfl, q_HB1⟩
      have HB1 := Lib.hid q_HB1
      clear q_HB1
      go_wp2_with fail
      refine (HD.out w1 (HY.out.below HB1.out)).mono ?_
      rintro e w2 ⟨rfl, q_HB2⟩
      have HB2 := Lib.hid q_HB2
      clear q_HB2
      go_wp2_with fail
      go_ret
      rw [HP.out]
      exact ⟨rfl, below_then HB1.out HB2.out⟩
    | true =>
      have HP : Hid (r = fitsL p t) := by show _ = _; rw [← hr, h1, h2]; rfl
      have HD : Hid (∀ W, Rd kFld W c B m cq t → Calls Try.prog 47 #[.slice B m cq] W (BoolPost W true)) := by intro W h; have := May_any W c B m cq t h; rw [h2] at this; exact this
      clear hr h1 h2
      go_enter Try.func49, Try.ntmps49
      go_wp2_with fail
      refine (HC.out).mono ?_
      rintro e w1 ⟨rfl, q_HB1⟩
      have HB1 := Lib.hid q_HB1
      clear q_HB1
      go_wp2_with fail
      refine (HD.out w1 (HY.out.below HB1.out)).mono ?_
      rintro e w2 ⟨rfl, q_HB2⟩
      have HB2 := Lib.hid q_HB2
      clear q_HB2
      go_wp2_with fail
      refine (equalFunc_fits w2 c A B n cp m cq p t (HX.out.below (below_then HB1.out HB2.out)) (HY.out.below (below_then HB1.out HB2.out))).mono ?_
      rintro e w3 ⟨rfl, q_HB3⟩
      have HB3 := Lib.hid q_HB3
      clear q_HB3
      go_wp2_with fail
      go_ret
      rw [HP.out]
      exact ⟨rfl, below_then (below_then HB1.out HB2.out) HB3.out⟩

set_option maxHeartbeats 2000000 in
theorem Equal_any (w : World) (c : Col) (A B : Option Addr) (n cp m cq : Nat) (p t : List Fld) (hx : Rd kFld w c A n cp p) (hy : Rd kFld w c B m cq t) :
    Calls Try.prog 61 #[.slice A n cp, .slice B m cq] w (BoolPost w (sameL p t)) := by
  have hln := hx.1
  have hmx := hx.max
  have hln2 := hy.1
  have hmx2 := hy.max
  have HX := Lib.hid hx
  have HL := Lib.hid hln
  have HY := Lib.hid hy
  have HL2 := Lib.hid hln2
  clear hx hln hy hln2
  generalize hr : sameL p t = r
  by_cases hnm : n = m
  case neg =>
    have HP : Hid (r = false) := by show _ = _; rw [← hr]; exact all2_len_ne (by rw [HL.out, HL2.out]; exact hnm)
    have hne : ((n : Int) == (m : Int)) = false := by simp; omega
    have hne2 : ((n : Int) != (m : Int)) = true := by simp; omega
    clear hr
    go_enter Try.func61, Try.ntmps61
    go_wp2_with fail
    refine bodyPost_ret (results_tmp rfl _ _ _) rfl ?_
    rw [HP.out]
    exact ⟨rfl, Below.refl _ _⟩
  subst hnm
  have HR := Lib.hid hr
  clear hr
  go_enter Try.func61, Try.ntmps61
  go_wp2_with fail
  go_loopw [13] (fun i wr => ∃ k : Nat, i = .int .i64 (k : Int) ∧ k ≤ n ∧ Hid (∀ j x y, j < k → p[j]? = some x → t[j]? = some y → fdEq x y = true) ∧ Hid (Below w.heap.size w wr)) (fun i _ => n - (intOf i).toNat)
  case atStart => exact ⟨0, rfl, by omega, fun j x y h => absurd h (by omega), Below.refl _ _⟩
  case round =>
    obtain ⟨k, rfl, hk, hall, hbl⟩ := hrel
    by_cases hlt : k < n
    · obtain ⟨bb, off, rfl⟩ := HX.out.addr (by omega)
      obtain ⟨b2, off2, rfl⟩ := HY.out.addr (by omega)
      have hel := getD_at' p ⟨0, 0, []⟩ (k := k) (by have := HL.out; omega)
      generalize p[k]?.getD ⟨0, 0, []⟩ = x at hel
      have hel2 := getD_at' t ⟨0, 0, []⟩ (k := k) (by have := HL2.out; omega)
      generalize t[k]?.getD ⟨0, 0, []⟩ = y at hel2
      obtain ⟨_, h0, h1, h2⟩ := (HX.out.below hbl.out).fld hel
      obtain ⟨_, g0, g1, g2⟩ := (HY.out.below hbl.out).fld hel2
      have HEL := Lib.hid hel
      have HEL2 := Lib.hid hel2
      clear hel hel2
      have heq := fun W => run_neq_fld W x y
      have hk0 : (0 : Int) ≤ (k : Int) := Int.natCast_nonneg _
      have hk1 : (k : Int) < (n : Int) := by omega
      go_wp2_with fail
      go_quiet (fail)
      have HB := Lib.hid (Drew.below hbl.out nq)
      by_cases hp : fdEq x y = true
      · have hp2 : (!fdEq x y) = false := by simp [hp]
        rw [hp2]
        go_wp2_with fail
        refine ⟨⟨k + 1, by go_num, by omega, fun j a b hj ha hb => ?_, HB.out⟩, by simp [intOf]; omega⟩
        rcases Nat.lt_or_ge j k with h | h
        · exact hall.out j a b h ha hb
        · obtain rfl : j = k := by omega
          rw [HEL.out] at ha
          rw [HEL2.out] at hb
          cases ha
          cases hb
          exact hp
      · have hpf : fdEq x y = false := by simpa using hp
        have HP : Hid (r = false) := by show _ = _; rw [← HR.out]; exact all2_false HEL.out HEL2.out hpf
        have hp2 : (!fdEq x y) = true := by simp [hpf]
        rw [hp2]
        clear hp
        go_wp2_with fail
        refine bodyPost_ret (results_tmp rfl _ _ _) rfl ?_
        rw [HP.out]
        exact ⟨rfl, HB.out⟩
    · obtain rfl : k = n := by omega
      have HP : Hid (r = true) := by
        show _ = _
        rw [← HR.out]
        refine (all2_iff _ _ _).2 ⟨by rw [HL.out, HL2.out], fun j x y hx hy => hall.out j x y ?_ hx hy⟩
        have := (List.getElem?_eq_some_iff.1 hx).1
        have := HL.out
        omega
      go_wp2_with fail
      go_ret
      rw [HP.out]
      exact ⟨rfl, hbl.out⟩
set_option maxHeartbeats 1000000 in
theorem TSame_any (w : World) (c : Col) (A B : Option Addr) (n cp m cq : Nat) (p t : List Fld) (hx : Rd kFld w c A n cp p) (hy : Rd kFld w c B m cq t) :
    Calls Try.prog 42 #[.slice A n cp, .slice B m cq] w (BoolPost w (sameL p t)) := by
  have HX := Lib.hid hx
  have HY := Lib.hid hy
  clear hx hy
  go_enter Try.func42, Try.ntmps42
  go_wp2_with fail
  refine (Equal_any w c A B n cp m cq p t HX.out HY.out).mono ?_
  rintro e w1 ⟨rfl, q_HB1⟩
  have HB1 := Lib.hid q_HB1
  clear q_HB1
  go_wp2_with fail
  go_ret
  exact ⟨rfl, HB1.out⟩
end Go.Proofs.Ytladpckbajnbeaa
