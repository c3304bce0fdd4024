/- pack.Writer's Bytes; pack.Reader: what each of its calls does. -/
import Derived.Test.YtalihocoekplgaaPackA
set_option linter.unusedVariables false
set_option linter.unusedSimpArgs false
namespace Go.Proofs.Ytalihocoekplgaa
open Go.RowKit

/-- A call that made bytes, and turned nothing. -/
def BytesPost (w : World) (c : Col) (ys : List UInt8) (e : Ending) (w' : World) : Prop :=
  ∃ A n cp, e = .returned (.slice A n cp) ∧ Rd kU8 w' c A n cp ys ∧ Below w.heap.size w w'

/-- A call that made bytes of its own, and turned nothing. -/
def OwnPost (w : World) (ys : List UInt8) (e : Ending) (w' : World) : Prop :=
  ∃ A n cp, e = .returned (.slice A n cp) ∧ w'.ownsRow w.heap.size 5 1 (.slice A n cp) n (bcells ys) ∧ Below w.heap.size w w'
theorem own_rd {w0 w : World} {c : Col} {A : Option Addr} {n cp : Nat} {ys : List UInt8} (h : w.ownsRow w0.heap.size 5 1 (.slice A n cp) n (bcells ys)) (hc : Wf c w0) : Rd kU8 w c A n cp ys := by
  obtain ⟨A', cp', he, hr⟩ := Rd.of_own_bytes (c := c) h fun q hq => hc.fresh (h.lt q hq).1
  cases he
  exact hr
theorem OwnPost.bytes {w : World} {c : Col} {ys : List UInt8} {e : Ending} {w' : World} (h : OwnPost w ys e w') (hc : Wf c w) : BytesPost w c ys e w' := by
  obtain ⟨A, n, cp, he, ho, hb⟩ := h
  exact ⟨A, n, cp, he, own_rd ho hc, hb⟩

set_option maxHeartbeats 1000000 in
theorem Bytes_own (w : World) (c : Col) (g : Nat) (xs : List UInt8) (hl : xs.length ≤ 1000000000000) (hw : Wf c w) (hW : Wr w c g xs) :
    Calls Try.prog 50 #[.pointer (some ⟨g, 0, none⟩)] w (OwnPost w xs) := by
  obtain ⟨hcg, A, cp, hb, hown⟩ := hW
  have hc0 := blk_cell0 hb
  have hgl := blk_lt hb
  have HF := Lib.hid hw
  obtain ⟨A', cp', he, hR⟩ := Rd.of_own_bytes (c := fun _ => none) hown.1 fun _ _ => rfl
  cases he
  have HR := Lib.hid hR
  generalize hqn : xs.length = qn at *
  clear hqn hw hR hown
  go_enter Try.func50, Try.ntmps50
  go_wp2_with (at_builtin; go_must (refine app_bytes_new (w0 := w) (.tmp 5) (.tmp 9) 23 5 rfl rfl Try.underlying23 u8_info [] xs rfl rfl ((Below.refl _ _).alloc (Nat.le_refl _) _) (own_empty w w _ (Nat.le_refl _)) (HR.out.below ((Below.refl _ _).alloc (Nat.le_refl _) _)) (by omega) ?_); intro A1 cp1 w1 hb1 hr1 hown1 hs1; have HR1 := Lib.hid hown1; have HB1 := Lib.hid hb1; clear hr1 hown1 hs1 hb1)
  go_ret
  exact ⟨A1, _, cp1, rfl, by simpa using HR1.out, HB1.out⟩
theorem Bytes_any (w : World) (c : Col) (g : Nat) (xs : List UInt8) (hl : xs.length ≤ 1000000000000) (hw : Wf c w) (hW : Wr w c g xs) :
    Calls Try.prog 50 #[.pointer (some ⟨g, 0, none⟩)] w (BytesPost w c xs) := (Bytes_own w c g xs hl hw hW).mono fun e w' h => h.bytes hw

set_option maxHeartbeats 1000000 in
theorem Bytes_nil (w : World) (c : Col) : Calls Try.prog 50 #[.pointer none] w (BytesPost w c []) := by
  go_enter Try.func50, Try.ntmps50
  go_wp2
  go_ret
  exact ⟨none, 0, 0, rfl, Rd.nil _ _ _, Below.refl _ _⟩

/-- Block g is a Reader: xs is left; b: it is wrong. -/
def Re (w : World) (c : Col) (g : Nat) (xs : List UInt8) (b : Bool) : Prop :=
  c g = some g ∧ ∃ A n cp, w.heap[g]? = some (.cells #[.slice A n cp, .bool b] 118 (0, 0)) ∧ Rd kU8 w c A n cp xs
theorem Re.tr {M : Nat → Prop} {w w' : World} {c c' : Col} {g : Nat} {xs : List UInt8} {b : Bool} (h : Re w c g xs b) (k : Tr M c c' w w') (hM : ¬ M g) : Re w' c' g xs b := by
  obtain ⟨hc, A, n, cp, hb, hr⟩ := h
  have := Loc.tr ⟨hc, hb⟩ k hM
  exact ⟨this.1, A, n, cp, this.2, hr.tr k⟩
theorem Re.lt {w : World} {c : Col} {g : Nat} {xs : List UInt8} {b : Bool} (h : Re w c g xs b) : g < w.heap.size := by
  obtain ⟨hc, A, n, cp, hb, hr⟩ := h
  exact (Array.getElem?_eq_some_iff.1 hb).1
def RePost (w : World) (c : Col) (g : Nat) (v : Value) (xs : List UInt8) (b : Bool) (e : Ending) (w' : World) : Prop :=
  e = .returned v ∧ Tr (· = g) c c w w' ∧ Re w' c g xs b
/-- pack.New: a new Reader at g. -/
def NewPost (w : World) (c : Col) (xs : List UInt8) (e : Ending) (w' : World) : Prop :=
  ∃ g, e = .returned (.pointer (some ⟨g, 0, none⟩)) ∧ w.heap.size ≤ g ∧ Tr (fun _ => False) c (c.set g g) w w' ∧ Re w' (c.set g g) g xs false

set_option maxHeartbeats 1000000 in
theorem New_any (w : World) (c : Col) (xs : List UInt8) (B : Option Addr) (m cq : Nat) (hl : m ≤ 1000000000000) (hw : Wf c w) (hR : Rd kU8 w c B m cq xs) :
    Calls Try.prog 55 #[.slice B m cq] w (NewPost w c xs) := by
  have HF := Lib.hid hw
  have HR := Lib.hid hR
  clear hw hR
  go_enter Try.func55, Try.ntmps55
  go_wp2_with (at_builtin; go_must (refine app_bytes_new (w0 := w) (c := c) (.tmp 3) (.tmp 4) 23 5 rfl rfl Try.underlying23 u8_info [] xs rfl rfl ((Below.refl _ _).alloc (Nat.le_refl _) _) (own_empty w w _ (Nat.le_refl _)) (HR.out.below ((Below.refl _ _).alloc (Nat.le_refl _) _)) (by omega) ?_); intro A1 cp1 w1 hb1 hr1 hown1 hs1; have HR1 := Lib.hid (hr1 c HF.out); have HB1 := Lib.hid hb1; clear hr1 hown1 hs1 hb1)
  go_ret
  have hT : Tr (fun _ => False) c c w w1 := Tr.of_below HF.out HB1.out
  have hsz := hT.size
  refine ⟨_, rfl, hsz, (hT.alloc _).hot hsz (by simp) (by simp) (.inr hsz), Col.set_same _ _ _, A1, _, cp1, heap_alloc_new _ _, ?_⟩
  simpa using HR1.out.hot_new (.cells #[.slice A1 (0 + m) cp1, .bool false] 118) w1.heap.size

/-! ### the Reader -/
set_option maxHeartbeats 1000000 in
theorem right_yes (w : World) (c : Col) (g : Nat) (xs : List UInt8) (k : Int) (h0 : 0 ≤ k) (hk : k ≤ xs.length) (hw : Wf c w) (hW : Re w c g xs false) :
    Calls Try.prog 68 #[.pointer (some ⟨g, 0, none⟩), .int .i64 k] w (RePost w c g (.bool true) xs false) := by
  obtain ⟨hcg, A, n, cp, hb, hR⟩ := hW
  have hc0 := blk_cell0 hb
  have hc1 := blk_cell1 hb
  have hf1 := blk_free hb 1
  have hm := hR.max
  have hkn : k ≤ n := by have := hR.1; omega
  have hd0 : decide (k < 0) = false := by simp; omega
  have hd1 : decide ((n : Int) < k) = false := by simp; omega
  have HF := Lib.hid hw
  have HR := Lib.hid hR
  clear hR hw hk
  go_enter Try.func68, Try.ntmps68
  go_wp2
  go_ret
  have ht : Tr (· = g) c c w (w.setCell ⟨g, 1, none⟩ (.bool false)) := (Tr.refl (· = g) HF.out).setCell hcg (.inl rfl) _
  exact ⟨rfl, ht, hcg, A, n, cp, by simpa using blk_set hb 1 (.bool false), HR.out.tr ht⟩
set_option maxHeartbeats 1000000 in
theorem right_no (w : World) (c : Col) (g : Nat) (xs : List UInt8) (b : Bool) (k : Int) (hk : b = true ∨ k < 0 ∨ (xs.length : Int) < k) (hw : Wf c w) (hW : Re w c g xs b) :
    Calls Try.prog 68 #[.pointer (some ⟨g, 0, none⟩), .int .i64 k] w (RePost w c g (.bool false) xs true) := by
  obtain ⟨hcg, A, n, cp, hb, hR⟩ := hW
  have hc0 := blk_cell0 hb
  have hc1 := blk_cell1 hb
  have hf1 := blk_free hb 1
  have hm := hR.max
  have hkn : b = true ∨ k < 0 ∨ (n : Int) < k := by have := hR.1; rw [this] at hk; exact hk
  have HF := Lib.hid hw
  have HR := Lib.hid hR
  clear hR hw hk
  cases b with
  | true =>
    clear hkn
    go_enter Try.func68, Try.ntmps68
    go_wp2
    go_ret
    have ht : Tr (· = g) c c w (w.setCell ⟨g, 1, none⟩ (.bool true)) := (Tr.refl (· = g) HF.out).setCell hcg (.inl rfl) _
    exact ⟨rfl, ht, hcg, A, n, cp, by simpa using blk_set hb 1 (.bool true), HR.out.tr ht⟩
  | false =>
    have hkn : k < 0 ∨ (0 ≤ k ∧ (n : Int) < k) := by
      rcases hkn with h | h | h
      · cases h
      · exact .inl h
      · exact .inr ⟨by omega, h⟩
    rcases hkn with h | ⟨h0, h⟩
    all_goals
      go_enter Try.func68, Try.ntmps68
      go_wp2
      go_ret
      have ht : Tr (· = g) c c w (w.setCell ⟨g, 1, none⟩ (.bool true)) := (Tr.refl (· = g) HF.out).setCell hcg (.inl rfl) _
      exact ⟨rfl, ht, hcg, A, n, cp, by simpa using blk_set hb 1 (.bool true), HR.out.tr ht⟩

/-- The number that bytes make, the greatest first. -/
def beNat (l : List UInt8) : Nat := l.foldl (fun v c => v * 256 + c.toNat) 0
theorem beNat_snoc (l : List UInt8) (c : UInt8) : beNat (l ++ [c]) = beNat l * 256 + c.toNat := by simp [beNat]
theorem beNat_lt (l : List UInt8) : beNat l < 256 ^ l.length := by
  rw [← List.reverse_reverse l]
  induction l.reverse with
  | nil => simp [beNat]
  | cons c r ih =>
    rw [List.reverse_cons, beNat_snoc, List.length_append, List.length_singleton, Nat.pow_succ]
    have := c.toNat_lt
    omega
theorem or_step (v : Nat) (b : UInt8) (hv : v < 72057594037927936) : bits .or .u64 ((v : Int) * 256) (IntKind.u64.wrap (b.toNat : Int)) = ((v * 256 + b.toNat : Nat) : Int) := by
  have hb := b.toNat_lt
  have hw : IntKind.u64.wrap (b.toNat : Int) = (b.toNat : Int) := by
    show (b.toNat : Int) % 18446744073709551616 = _
    omega
  rw [hw, show ((v : Int) * 256) = ((v * 256 : Nat) : Int) by simp, u64_or_nat _ _ (by omega) (by omega)]
  have := Nat.two_pow_add_eq_or_of_lt (i := 8) (b := b.toNat) (by omega) v
  rw [Nat.mul_comm v 256]
  rw [show (2 : Nat) ^ 8 = 256 from rfl] at this
  rw [← this]
/-- Behind a store of what is left. -/
theorem Re_cut {w w1 : World} {c : Col} {g n n' cp cp' : Nat} {A A' : Option Addr} {b : Bool} {v : Value} {ys : List UInt8} (ht : Tr (· = g) c c w w1) (hc : c g = some g)
    (hb : w1.heap[g]? = some (.cells #[.slice A n cp, .bool b] 118 (0, 0))) (hr : Rd kU8 w1 c A' n' cp' ys) : RePost w c g v ys b (.returned v) (w1.setCell ⟨g, 0, none⟩ (.slice A' n' cp')) := by
  have h2 := ht.setCell (p := ⟨g, 0, none⟩) hc (.inl rfl) (.slice A' n' cp')
  exact ⟨rfl, h2, hc, A', n', cp', by simpa using blk_set hb 0 (.slice A' n' cp'), hr.tr ((Tr.refl (· = g) ht.wf).setCell (p := ⟨g, 0, none⟩) hc (.inl rfl) _)⟩
set_option maxHeartbeats 1000000 in
theorem RNum_yes (w : World) (c : Col) (g : Nat) (xs : List UInt8) (m : Nat) (h1 : 1 ≤ m) (h8 : m ≤ 8) (hm : m ≤ xs.length) (hw : Wf c w) (hW : Re w c g xs false) :
    Calls Try.prog 56 #[.pointer (some ⟨g, 0, none⟩), .int .i64 (m : Int)] w (RePost w c g (.int .u64 (beNat (xs.take m) : Nat)) (xs.drop m) false) := by
  have HF := Lib.hid hw
  have HW := Lib.hid hW
  have HM := Lib.hid hm
  clear hw hW hm
  go_enter Try.func56, Try.ntmps56
  go_wp2_with fail
  refine (right_yes w c g xs m (by omega) (by have := HM.out; omega) HF.out HW.out).mono ?_
  rintro e w1 ⟨rfl, ht1, hW1⟩
  obtain ⟨hcg, A, n, cp, hb, hR⟩ := hW1
  have hc0 := blk_cell0 hb
  have hf0 := blk_free hb 0
  have hmx := hR.max
  have hmn : m ≤ n := by have := hR.1; have := HM.out; omega
  obtain ⟨b, off, rfl⟩ := hR.addr (by omega)
  have HT1 := Lib.hid ht1
  have HR := Lib.hid hR
  have HB := Lib.hid hb
  clear ht1 hR hb
  go_wp2_with fail
  go_loop [5, 18] (fun v i => ∃ k : Nat, k ≤ m ∧ i = .int .i64 (k : Int) ∧ v = .int .u64 (beNat (xs.take k) : Nat)) (fun _ i => m - (intOf i).toNat)
  case atStart => exact ⟨0, by omega, rfl, rfl⟩
  case round =>
    obtain ⟨k, hk, rfl, rfl⟩ := hrel
    by_cases hlt : k < m
    · have hbyte := HR.out.byte (k := k) (by omega)
      have hv := beNat_lt (xs.take k)
      have hlen : (xs.take k).length = k := by rw [List.length_take]; have := HM.out; omega
      rw [hlen] at hv
      clear hlen
      have hv2 : beNat (xs.take k) < 72057594037927936 := Nat.lt_of_lt_of_le hv (by
        have : 256 ^ k ≤ 256 ^ 7 := Nat.pow_le_pow_right (by omega) (by omega)
        omega)
      have hor := or_step (beNat (xs.take k)) (xs[k]?.getD 0) hv2
      have HV := Lib.hid ((beNat_snoc (xs.take k) (xs[k]?.getD 0)).symm.trans (congrArg beNat (take_snoc xs 0 (k := k) (by have := HR.out.1; omega)).symm))
      generalize beNat (xs.take k) = v at *
      have HO := Lib.hid hor
      clear hor
      go_wp2_with fail
      refine ⟨⟨k + 1, by omega, by go_num, ?_⟩, by simp [intOf]; omega⟩
      rw [HO.out, HV.out]
    · obtain rfl : k = m := by omega
      obtain ⟨A', hcut, hrd⟩ := cut_low kU8 23 5 .i64 Try.underlying23 u8_info (some ⟨b, off, none⟩) n cp k hmn (P := Try.prog)
      have HRD := Lib.hid (hrd w1 c xs HR.out)
      clear hrd
      go_wp2_with fail
      go_ret
      exact Re_cut HT1.out hcg HB.out HRD.out

set_option maxHeartbeats 1000000 in
theorem RNum_no (w : World) (c : Col) (g : Nat) (xs : List UInt8) (b : Bool) (n : Int) (hn : b = true ∨ n < 1 ∨ 8 < n ∨ (xs.length : Int) < n) (hw : Wf c w) (hW : Re w c g xs b) :
    Calls Try.prog 56 #[.pointer (some ⟨g, 0, none⟩), .int .i64 n] w (RePost w c g (.int .u64 0) xs true) := by
  have HF := Lib.hid hw
  have HW := Lib.hid hW
  clear hw hW
  by_cases h1 : 1 ≤ n ∧ n ≤ 8
  · have HN : Hid (b = true ∨ n < 0 ∨ (xs.length : Int) < n) := by
      rcases hn with h | h | h | h
      · exact .inl h
      · omega
      · omega
      · exact .inr (.inr h)
    clear hn
    obtain ⟨h1, h8⟩ := h1
    go_enter Try.func56, Try.ntmps56
    go_wp2_with fail
    refine (right_no w c g xs b n HN.out HF.out HW.out).mono ?_
    rintro e w1 ⟨rfl, ht1, hW1⟩
    go_wp2_with fail
    go_ret
    exact ⟨rfl, ht1, hW1⟩
  · have h2 : n < 1 ∨ (1 ≤ n ∧ 8 < n) := by omega
    clear hn h1
    rcases h2 with h2 | ⟨h2, h3⟩
    all_goals
      go_enter Try.func56, Try.ntmps56
      go_wp2_with fail
      refine (right_no w c g xs b (-1) (.inr (.inl (by omega))) HF.out HW.out).mono ?_
      rintro e w1 ⟨rfl, ht1, hW1⟩
      go_wp2_with fail
      go_ret
      exact ⟨rfl, ht1, hW1⟩

def RawPost (w : World) (c : Col) (g : Nat) (out xs : List UInt8) (b : Bool) (e : Ending) (w' : World) : Prop :=
  ∃ A n cp, e = .returned (.slice A n cp) ∧ Tr (· = g) c c w w' ∧ Re w' c g xs b ∧ Rd kU8 w' c A n cp out

set_option maxHeartbeats 1000000 in
theorem RRaw_yes (w : World) (c : Col) (g : Nat) (xs : List UInt8) (m : Nat) (hb : m ≤ 1000000000000) (hm : m ≤ xs.length) (hw : Wf c w) (hW : Re w c g xs false) :
    Calls Try.prog 57 #[.pointer (some ⟨g, 0, none⟩), .int .i64 (m : Int)] w (RawPost w c g (xs.take m) (xs.drop m) false) := by
  have HF := Lib.hid hw
  have HW := Lib.hid hW
  have HM := Lib.hid hm
  clear hw hW hm
  go_enter Try.func57, Try.ntmps57
  go_wp2_with fail
  refine (right_yes w c g xs m (by omega) (by have := HM.out; omega) HF.out HW.out).mono ?_
  rintro e w1 ⟨rfl, ht1, hW1⟩
  obtain ⟨hcg, A, n, cp, hb, hR⟩ := hW1
  have hc0 := blk_cell0 hb
  have hmx := hR.max
  have hmn : m ≤ n := by have := hR.1; have := HM.out; omega
  have hnc : n ≤ cp := hR.2.1
  obtain ⟨A', hcut, hrd⟩ := cut_low kU8 23 5 .i64 Try.underlying23 u8_info A n cp m hmn (P := Try.prog)
  have HT1 := Lib.hid ht1
  have HR := Lib.hid hR
  have HB := Lib.hid hb
  have HRD := Lib.hid hrd
  clear ht1 hR hb hrd
  go_wp2_with (at_builtin; go_must (refine app_bytes_new (w0 := w1) (c := c) (.const (.slice none 0 0)) (.tmp 15) 23 5 rfl rfl Try.underlying23 u8_info [] (xs.take m) rfl rfl (Below.refl _ _) (own_none w1 w1 _) (HR.out.take hmn) (by omega) ?_); intro A1 cp1 w2 hb1 hr1 hown1 hs1; have HR1 := Lib.hid (hr1 c HT1.out.wf); have HB1 := Lib.hid hb1; have hb2 := (hb1.block g (blk_lt HB.out)).trans HB.out; have hc2 := blk_cell0 hb2; have hf2 := blk_free hb2 0; clear hr1 hown1 hs1 hb1 hc0)
  go_ret
  have hT := HT1.out.then (Tr.of_below HT1.out.wf HB1.out)
  have hst := hT.setCell (p := ⟨g, 0, none⟩) hcg (.inl rfl) (.slice A' (n - m) (cp - m))
  refine ⟨A1, _, cp1, rfl, hst, (Re_cut (v := .nilFunc) hT hcg hb2 ((HRD.out w1 c xs HR.out).below HB1.out)).2.2, ?_⟩
  have := HR1.out.tr ((Tr.refl (· = g) hT.wf).setCell (p := ⟨g, 0, none⟩) hcg (.inl rfl) (.slice A' (n - m) (cp - m)))
  simpa using this

set_option maxHeartbeats 1000000 in
theorem RRaw_no (w : World) (c : Col) (g : Nat) (xs : List UInt8) (b : Bool) (n : Int) (hn : b = true ∨ n < 0 ∨ (xs.length : Int) < n) (hw : Wf c w) (hW : Re w c g xs b) :
    Calls Try.prog 57 #[.pointer (some ⟨g, 0, none⟩), .int .i64 n] w (RawPost w c g [] xs true) := by
  have HF := Lib.hid hw
  have HW := Lib.hid hW
  have HN := Lib.hid hn
  clear hw hW hn
  go_enter Try.func57, Try.ntmps57
  go_wp2_with fail
  refine (right_no w c g xs b n HN.out HF.out HW.out).mono ?_
  rintro e w1 ⟨rfl, ht1, hW1⟩
  go_wp2_with fail
  go_ret
  exact ⟨none, 0, 0, rfl, ht1, hW1, Rd.nil _ _ _⟩

/-! ### the Reader as a function of what is left and whether it is wrong -/
structure RS where
  xs : List UInt8
  wrong : Bool
def RS.num (r : RS) (n : Int) : Nat × RS := if r.wrong = false ∧ 1 ≤ n ∧ n ≤ 8 ∧ n ≤ r.xs.length then (beNat (r.xs.take n.toNat), ⟨r.xs.drop n.toNat, false⟩) else (0, ⟨r.xs, true⟩)
def RS.raw (r : RS) (n : Int) : List UInt8 × RS := if r.wrong = false ∧ 0 ≤ n ∧ n ≤ r.xs.length then (r.xs.take n.toNat, ⟨r.xs.drop n.toNat, false⟩) else ([], ⟨r.xs, true⟩)
def RS.text (r : RS) (most : Int) : List UInt8 × RS := (r.num 4).2.raw (if ((r.num 4).1 : Int) > max most 0 then -1 else (r.num 4).1)
def RS.left (r : RS) : Nat := if r.wrong then 0 else r.xs.length
def RS.fin (r : RS) : Int := if r.wrong = false ∧ r.xs = [] then 0 else 2
abbrev ReS (w : World) (c : Col) (g : Nat) (r : RS) : Prop := Re w c g r.xs r.wrong

theorem RS.num_le (r : RS) (n : Int) : (r.num n).2.xs.length ≤ r.xs.length := by
  unfold RS.num; split
  · simp
  · simp
theorem RS.num_lt (r : RS) : (r.num 4).1 < 4294967296 := by
  unfold RS.num
  split
  · rename_i h
    have := beNat_lt (r.xs.take (4 : Int).toNat)
    rw [List.length_take] at this
    have h4 : min (4 : Int).toNat r.xs.length = 4 := by have := h.2.2.2; omega
    rw [h4] at this
    simpa using this
  · simp

theorem RNum_any (w : World) (c : Col) (g : Nat) (r : RS) (n : Int) (hw : Wf c w) (hW : ReS w c g r) :
    Calls Try.prog 56 #[.pointer (some ⟨g, 0, none⟩), .int .i64 n] w (RePost w c g (.int .u64 ((r.num n).1 : Nat)) (r.num n).2.xs (r.num n).2.wrong) := by
  obtain ⟨xs, b⟩ := r
  unfold RS.num
  split
  · rename_i h
    obtain ⟨h0, h1, h8, hl⟩ := h
    obtain ⟨m, rfl⟩ := Int.eq_ofNat_of_zero_le (show 0 ≤ n by omega)
    have hb : b = false := h0
    subst hb
    exact RNum_yes w c g xs m (by omega) (by omega) (by simpa using hl) hw hW
  · rename_i h
    refine RNum_no w c g xs b n ?_ hw hW
    simp only [not_and, Int.not_le] at h
    cases b with
    | true => exact .inl rfl
    | false =>
      by_cases h1 : 1 ≤ n
      · by_cases h8 : n ≤ 8
        · exact .inr (.inr (.inr (h rfl h1 h8)))
        · exact .inr (.inr (.inl (by omega)))
      · exact .inr (.inl (by omega))

theorem RRaw_any (w : World) (c : Col) (g : Nat) (r : RS) (n : Int) (hb : r.xs.length ≤ 1000000000000) (hw : Wf c w) (hW : ReS w c g r) :
    Calls Try.prog 57 #[.pointer (some ⟨g, 0, none⟩), .int .i64 n] w (RawPost w c g (r.raw n).1 (r.raw n).2.xs (r.raw n).2.wrong) := by
  obtain ⟨xs, b⟩ := r
  unfold RS.raw
  split
  · rename_i h
    obtain ⟨h0, h1, hl⟩ := h
    obtain ⟨m, rfl⟩ := Int.eq_ofNat_of_zero_le h1
    have hb' : b = false := h0
    subst hb'
    have hl' : m ≤ xs.length := by simpa using hl
    exact RRaw_yes w c g xs m (by have : xs.length ≤ 1000000000000 := hb; omega) hl' hw hW
  · rename_i h
    refine RRaw_no w c g xs b n ?_ hw hW
    simp only [not_and, Int.not_le] at h
    cases b with
    | true => exact .inl rfl
    | false =>
      by_cases h1 : 0 ≤ n
      · exact .inr (.inr (h rfl h1))
      · exact .inr (.inl (by omega))

theorem RNum_eq (w : World) (c : Col) (g : Nat) (r : RS) (n : Int) (v : Nat) (r' : RS) (h : r.num n = (v, r')) (hw : Wf c w) (hW : ReS w c g r) :
    Calls Try.prog 56 #[.pointer (some ⟨g, 0, none⟩), .int .i64 n] w (RePost w c g (.int .u64 (v : Nat)) r'.xs r'.wrong) := by
  have := RNum_any w c g r n hw hW
  rw [h] at this
  exact this
theorem RRaw_eq (w : World) (c : Col) (g : Nat) (r : RS) (n : Int) (out : List UInt8) (r' : RS) (h : r.raw n = (out, r')) (hb : r.xs.length ≤ 1000000000000) (hw : Wf c w) (hW : ReS w c g r) :
    Calls Try.prog 57 #[.pointer (some ⟨g, 0, none⟩), .int .i64 n] w (RawPost w c g out r'.xs r'.wrong) := by
  have := RRaw_any w c g r n hb hw hW
  rw [h] at this
  exact this
/-! ### What was written is read -/
theorem beNat_append (xs ys : List UInt8) : beNat (xs ++ ys) = beNat xs * 256 ^ ys.length + beNat ys := by
  rw [← List.reverse_reverse ys]
  induction ys.reverse with
  | nil => simp [beNat]
  | cons c r ih =>
    rw [List.reverse_cons, ← List.append_assoc, beNat_snoc, beNat_snoc, ih, List.length_append, List.length_singleton, Nat.pow_succ, Nat.add_mul, Nat.mul_assoc]
    omega
theorem beNat_numB (v n : Nat) : beNat (numB v n) = v % 256 ^ n := by
  induction n with
  | zero => simp [numB, beNat, Nat.mod_one]
  | succ n ih =>
    have h : numB v (n + 1) = [UInt8.ofNat (v / 256 ^ n)] ++ numB v n := rfl
    rw [h, beNat_append, ih, numB_length]
    have h1 : beNat [UInt8.ofNat (v / 256 ^ n)] = v / 256 ^ n % 256 := by simp [beNat, UInt8.toNat_ofNat']
    rw [h1, Nat.pow_succ, Nat.mod_mul, Nat.mul_comm (256 ^ n)]
    omega
theorem RS.num_wrote (v : Nat) (n : Nat) (rest : List UInt8) (h1 : 1 ≤ n) (h8 : n ≤ 8) : RS.num ⟨numB v n ++ rest, false⟩ n = (v % 256 ^ n, ⟨rest, false⟩) := by
  have hl := numB_length v n
  unfold RS.num
  rw [if_pos ⟨rfl, by omega, by omega, by simp [hl]; omega⟩]
  simp only [Int.toNat_natCast]
  rw [List.take_append_of_le_length (by omega), List.take_of_length_le (by omega), beNat_numB, List.drop_append_of_le_length (by omega), List.drop_of_length_le (by omega), List.nil_append]
theorem RS.raw_wrote (ys rest : List UInt8) : RS.raw ⟨ys ++ rest, false⟩ ys.length = (ys, ⟨rest, false⟩) := by
  unfold RS.raw
  rw [if_pos ⟨rfl, by omega, by simp; omega⟩]
  simp
theorem RS.text_wrote (ys rest : List UInt8) (most : Int) (h : ys.length < 4294967296) :
    RS.text ⟨textB ys ++ rest, false⟩ most = if (ys.length : Int) ≤ max most 0 then (ys, ⟨rest, false⟩) else ([], ⟨ys ++ rest, true⟩) := by
  unfold RS.text textB
  rw [List.append_assoc]
  have := RS.num_wrote ys.length 4 (ys ++ rest) (by omega) (by omega)
  rw [show ((4 : Nat) : Int) = 4 from rfl] at this
  rw [this, Nat.mod_eq_of_lt (by omega)]
  dsimp only
  by_cases hm : (ys.length : Int) ≤ max most 0
  · rw [if_neg (by omega), if_pos hm]
    exact RS.raw_wrote ys rest
  · rw [if_pos (by omega), if_neg hm]
    unfold RS.raw
    rw [if_neg (by rintro ⟨_, h, _⟩; omega)]
theorem RS.text_wrong (xs : List UInt8) (most : Int) : RS.text ⟨xs, true⟩ most = ([], ⟨xs, true⟩) := by
  have h : RS.num ⟨xs, true⟩ 4 = (0, ⟨xs, true⟩) := by unfold RS.num; rw [if_neg (by rintro ⟨h, _⟩; cases h)]
  unfold RS.text
  rw [h]
  unfold RS.raw
  rw [if_neg (by rintro ⟨h, _⟩; cases h)]
/-- A Writer of one's own, just made. -/
theorem Wr_new (w : World) (c : Col) (hw : Wf c w) : Tr (fun _ => False) c (c.set w.heap.size w.heap.size) w (w.alloc (.cells #[.slice none 0 0] 92)) ∧
    Wr (w.alloc (.cells #[.slice none 0 0] 92)) (c.set w.heap.size w.heap.size) w.heap.size [] := by
  refine ⟨((Tr.refl _ hw).alloc _).hot (Nat.le_refl _) (by simp) (by simp) (.inr (Nat.le_refl _)), Col.set_same _ _ _, none, 0, heap_alloc_new _ _, World.ownsRow_nil _ _ _ _, fun k hk => by cases hk⟩
end Go.Proofs.Ytalihocoekplgaa
