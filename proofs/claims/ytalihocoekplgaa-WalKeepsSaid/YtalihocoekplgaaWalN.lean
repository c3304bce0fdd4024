/- wal: the document's side: Open. -/
import Derived.Test.YtalihocoekplgaaWalL
import Derived.Deep.CutBlock
import Derived.Deep.DeepCutAuto
set_option linter.unusedVariables false
set_option linter.unusedSimpArgs false
namespace Go.Proofs.Ytalihocoekplgaa
open Go.RowKit

/-- Block gq is the document's log. -/
def Lr (w : World) (c : Col) (gq g num used : Nat) : Prop := c gq = some gq ∧ w.heap[gq]? = some (.cells #[.pointer (some ⟨g, 0, none⟩), .int .i64 (num : Int), .int .i64 (used : Int)] 60 (0, 0))
theorem Lr.tr {M : Nat → Prop} {w w' : World} {c c' : Col} {gl g num used : Nat} (h : Lr w c gl g num used) (k : Tr M c c' w w') (hM : ¬ M gl) : Lr w' c' gl g num used := by
  obtain ⟨h1, h2⟩ := h
  obtain ⟨a1, a2⟩ := k.at_ h1 hM
  exact ⟨a1, by rw [a2]; exact h2⟩
/-- Behind an append to a row of slices: what is of other types is as it was. -/
theorem RDk.keepT {w w' : World} {c c' : Col} {g n : Nat} {R : List RSec} (h : RDk w c g n R) (hk : ∀ (b : Nat) (t' : TypeId) (cs : Array Value) (fr : Nat × Nat), t' ≠ 23 → w.heap[b]? = some (.cells cs t' fr) → w'.heap[b]? = some (.cells cs t' fr)) (hc : ∀ k, k < w.heap.size → c' k = c k) : RDk w' c' g n R := by
  have hlt := h.lt
  obtain ⟨hg, A, cp, h1, h4, h5⟩ := h
  refine ⟨(hc g hlt).trans hg, A, cp, hk _ _ _ _ (by decide) h1, ⟨⟨h4.1.1, ?_⟩, fun k hk2 => (hc k (h4.1.lt k hk2).2).trans (h4.2 k hk2)⟩, h5⟩
  rcases h4.1.2 with hn | ⟨b, cap, cur, he, hb, hh, r⟩
  · exact .inl hn
  · exact .inr ⟨b, cap, cur, he, hb, hk _ _ _ _ (by decide) hh, r⟩
theorem numB4_inj {xs : List UInt8} (h : xs.length = 4) : numB (beNat xs) 4 = xs := by
  match xs, h with
  | [a, b, c, d], _ =>
    have ha := a.toNat_lt
    have hb := b.toNat_lt
    have hc := c.toNat_lt
    have hd := d.toNat_lt
    have e : beNat [a, b, c, d] = ((a.toNat * 256 + b.toNat) * 256 + c.toNat) * 256 + d.toNat := by simp [beNat]
    rw [e]
    simp only [numB]
    have k : ∀ (v : Nat) (x : UInt8), v % 256 = x.toNat → UInt8.ofNat v = x := fun v x h => UInt8.toNat_inj.1 (by rw [UInt8.toNat_ofNat']; exact h)
    rw [k _ a (by omega), k _ b (by omega), k _ c (by omega), k _ d (by omega)]
theorem i64_or_nat (a b : Nat) (ha : a < 4611686018427387904) (hb : b < 4611686018427387904) : bits .or .i64 (a : Int) (b : Int) = ((a ||| b : Nat) : Int) := by
  have hx : a ||| b < 2 ^ 62 := Nat.or_lt_two_pow (by omega) (by omega)
  show IntKind.i64.wrap (((BitVec.ofInt 64 (a : Int) ||| BitVec.ofInt 64 (b : Int)).toNat : Nat) : Int) = _
  rw [BitVec.toNat_or, ofInt_u64 a (by omega), ofInt_u64 b (by omega)]
  exact i64_id rfl (by omega)
theorem or_i64 (x y k : Nat) (hy : y < 2 ^ k) (hb : x * 2 ^ k + y < 4611686018427387904) : bits .or .i64 ((x * 2 ^ k : Nat) : Int) (y : Int) = ((x * 2 ^ k + y : Nat) : Int) := by
  rw [i64_or_nat _ _ (by omega) (by omega)]
  have := Nat.two_pow_add_eq_or_of_lt hy x
  rw [Nat.mul_comm x]
  rw [← this]
theorem wrap64_nat (x : Nat) (h : x < 4611686018427387904) : wrap64 (x : Int) = (x : Int) := by unfold wrap64; omega
theorem wrap_mul (x m : Nat) (hx : x < 256) (hm : m ≤ 16777216) : wrap64 (wrap64 (x : Int) * (m : Int)) = ((x * m : Nat) : Int) := by
  have h1 : x * m ≤ 256 * 16777216 := Nat.mul_le_mul (by omega) hm
  have h0 : wrap64 (x : Int) = (x : Int) := wrap64_nat _ (by omega)
  rw [h0, ← Int.natCast_mul]
  exact wrap64_nat _ (by omega)
theorem beI4 (a0 a1 a2 a3 : UInt8) : bits .or .i64 (bits .or .i64 (bits .or .i64 (wrap64 (wrap64 (a0.toNat : Int) * 16777216)) (wrap64 (wrap64 (a1.toNat : Int) * 65536))) (wrap64 (wrap64 (a2.toNat : Int) * 256))) (wrap64 (a3.toNat : Int)) = ((beNat [a0, a1, a2, a3] : Nat) : Int) := by
  have h0 := a0.toNat_lt
  have h1 := a1.toNat_lt
  have h2 := a2.toNat_lt
  have h3 := a3.toNat_lt
  have e : beNat [a0, a1, a2, a3] = ((a0.toNat * 256 + a1.toNat) * 256 + a2.toNat) * 256 + a3.toNat := by simp [beNat]
  rw [e]
  generalize a0.toNat = x0 at *
  generalize a1.toNat = x1 at *
  generalize a2.toNat = x2 at *
  generalize a3.toNat = x3 at *
  clear e
  have w0 := wrap_mul x0 16777216 h0 (by omega)
  have w1 := wrap_mul x1 65536 h1 (by omega)
  have w2 := wrap_mul x2 256 h2 (by omega)
  have w3 : wrap64 (x3 : Int) = (x3 : Int) := wrap64_nat _ (by omega)
  have w0' : wrap64 (wrap64 (x0 : Int) * 16777216) = ((x0 * 16777216 : Nat) : Int) := w0
  have w1' : wrap64 (wrap64 (x1 : Int) * 65536) = ((x1 * 65536 : Nat) : Int) := w1
  have w2' : wrap64 (wrap64 (x2 : Int) * 256) = ((x2 * 256 : Nat) : Int) := w2
  rw [w0', w1', w2', w3]
  clear w0 w1 w2 w0' w1' w2' w3
  have o1 := or_i64 x0 (x1 * 65536) 24 (by omega) (by omega)
  have o2 := or_i64 (x0 * 256 + x1) (x2 * 256) 16 (by omega) (by omega)
  have o3 := or_i64 ((x0 * 256 + x1) * 256 + x2) x3 8 (by omega) (by omega)
  rw [show x0 * 2 ^ 24 = x0 * 16777216 from rfl] at o1
  rw [o1, show x0 * 16777216 + x1 * 65536 = (x0 * 256 + x1) * 2 ^ 16 by omega, o2, show (x0 * 256 + x1) * 2 ^ 16 + x2 * 256 = ((x0 * 256 + x1) * 256 + x2) * 2 ^ 8 by omega, o3]
def wipeR (R : List RSec) (used j : Nat) : List RSec := R.mapIdx (fun i x => if used ≤ i ∧ i < j then { x with is := zsec } else x)
theorem wipeR_get (R : List RSec) (used j i : Nat) : (wipeR R used j)[i]? = (R[i]?).map (fun x => if used ≤ i ∧ i < j then { x with is := zsec } else x) := by
  unfold wipeR
  rw [List.getElem?_mapIdx]
theorem wipeR_start (R : List RSec) (used : Nat) : wipeR R used used = R := by
  apply List.ext_getElem?
  intro i
  rw [wipeR_get]
  cases R[i]? with
  | none => rfl
  | some x => rw [Option.map_some, if_neg (by omega)]
theorem wipeR_ok {R : List RSec} (h : ROk R) (used j : Nat) : ROk (wipeR R used j) := by
  intro x hx
  obtain ⟨i, hi⟩ := List.mem_iff_getElem?.1 hx
  rw [wipeR_get] at hi
  obtain ⟨y, hy, rfl⟩ := Option.map_eq_some_iff.1 hi
  have := h y (List.mem_of_getElem? hy)
  split
  · exact ⟨zsec_len, this.2⟩
  · exact this
theorem wipeR_len (R : List RSec) (used j : Nat) : (wipeR R used j).length = R.length := by simp [wipeR]
theorem wipeR_succ {R : List RSec} {used j : Nat} {x : RSec} (hu : used ≤ j) (hx : (wipeR R used j)[j]? = some x) : (wipeR R used j).set j { x with is := zsec } = wipeR R used (j + 1) := by
  apply List.ext_getElem?
  intro i
  rw [List.getElem?_set, wipeR_get, wipeR_get]
  by_cases e : j = i
  · subst e
    rw [wipeR_get] at hx
    obtain ⟨y, hy, rfl⟩ := Option.map_eq_some_iff.1 hx
    have hl := (List.getElem?_eq_some_iff.1 hy).1
    rw [if_pos rfl, wipeR_len, if_pos hl, hy, Option.map_some, if_neg (by omega), if_pos (by omega)]
  · rw [if_neg e]
    cases R[i]? with
    | none => rfl
    | some y =>
      rw [Option.map_some, Option.map_some]
      by_cases h2 : used ≤ i ∧ i < j
      · rw [if_pos h2, if_pos (by omega)]
      · rw [if_neg h2, if_neg (by omega)]
theorem wipeR_done {Y : List (List UInt8)} {D : Dt} {used n : Nat} (hn : Y.length = n) (hu : used ≤ n) : (wipeR (relR Y D) used n).map syncS = relR (cleanZ (syncY Y D) used) (fun _ => none) := by
  apply List.ext_getElem?
  intro i
  have hzl : (syncY Y D).length = n := by rw [syncY_len, hn]
  rw [List.getElem?_map, wipeR_get, relR_get, relR_get, cleanZ_get _ _ _ (by omega), syncY_get, hzl]
  cases hy : Y[i]? with
  | none =>
    have := (List.getElem?_eq_none_iff.1 hy)
    by_cases h1 : i < used
    · omega
    · rw [if_neg h1, if_neg (by omega)]
      rfl
  | some y =>
    have hi := (List.getElem?_eq_some_iff.1 hy).1
    by_cases h1 : i < used
    · rw [if_pos h1]
      simp only [Option.map_some]
      rw [if_neg (by omega)]
      rfl
    · rw [if_neg h1, if_pos (by omega)]
      simp only [Option.map_some]
      rw [if_pos (by omega)]
      rfl
theorem open_end {w wc w5 : World} {c c' : Col} {gq gx n len used cp : Nat} {R : List RSec} {A : Option Addr} {cells : List Value} {recs : List (List UInt8)} (t0 : Tr (fun _ => False) c c' w wc) (t : Tr (· = gx) c c' w w5) (hq : c' gq = some gq) (hq0 : w.heap.size ≤ gq) (hd : RDk w5 c' gx n R) (hgx : gx < w.heap.size) (hl : Lr w5 c' gq gx len used)
    (ho : OwnR w5 c' gq 23 1 A len cp cells) (hr : Reps (kSl kU8) w5 c' recs cells) (hn : recs.length = len) :
    Tr (· = gx) c (c.set gq gq) w w5 ∧ RDk w5 (c.set gq gq) gx n R ∧ Lr w5 (c.set gq gq) gq gx len used ∧ Rd (kSl kU8) w5 (c.set gq gq) A len cp recs := by
  have hfresh : ∀ k, w.heap.size ≤ k → k ≠ gq → (c.set gq gq) k = none := fun k hk hne => by
    rw [Col.set_ne _ hne]
    exact t.wf0.fresh hk
  have hin : ∀ k, c' k = some gx → (c.set gq gq) k = some gx := fun k hk => by
    have hlt : k < w.heap.size := by
      rcases Nat.lt_or_ge k w.heap.size with h | h
      · exact h
      · rcases t0.own k gx h hk with h1 | h1
        · exact h1.elim
        · omega
    rw [Col.set_ne _ (by omega), ← t.col k hlt]
    exact hk
  refine ⟨⟨t.os, t.tape, t.output, t.size, t.wf0, fun k g hk => ?_, fun k hk => Col.set_ne _ (by omega), fun k g hk hg => ?_, t.cold⟩, ?_, ⟨Col.set_same _ _ _, hl.2⟩, ?_⟩
  · by_cases e : k = gq
    · subst e
      rw [Col.set_same] at hk
      cases hk
      exact t.wf k k hq
    · rw [Col.set_ne _ e] at hk
      have h1 := t.wf0 k g hk
      have := t.size
      exact ⟨by omega, by omega⟩
  · by_cases e : k = gq
    · subst e
      rw [Col.set_same] at hg
      cases hg
      exact .inr hk
    · rw [hfresh k hk e] at hg
      cases hg
  · obtain ⟨h0, A', cp', h1, h4, h5⟩ := hd
    exact ⟨hin gx h0, A', cp', h1, ⟨h4.1, fun k hk => hin k (h4.2 k hk)⟩, h5⟩
  · have hr' : Reps (kSl kU8) w5 (c.set gq gq) recs cells := hr.keep (Kp.of_col w5 fun k hk h0 => by
      by_cases e : k = gq
      · subst e
        rw [hq] at h0
        cases h0
      · rw [Col.set_ne _ e]
        rcases Nat.lt_or_ge k w.heap.size with h | h
        · rw [← t.col k h]
          exact h0
        · exact t.wf0.fresh h)
    obtain ⟨A', cp', he, hR⟩ := hr'.rd ho.1 hn (fun k hk => by
      have h1 := (ho.1.lt k hk).1
      have h2 : some gq ≠ (Value.slice A len cp).ownBlock := own_block_ne ho.1 hl.2 (by decide)
      exact hfresh k (by omega) (fun e => h2 (by rw [← e]; exact hk.symm)))
    cases he
    exact hR
theorem R16Sectors_any (w : World) (m : Nat) (hm : m ≤ 1000000000) : Calls Try.prog 45 #[.int .i64 (m : Int)] w fun e w' => e = .returned (.int .i64 ((secN m : Nat) : Int)) ∧ w = w' := by
  have hs : ((secN m : Nat) : Int) = ((m : Int) + 12 + 64 - 1) / 64 := by unfold secN; omega
  rw [hs]
  go_enter Try.func45, Try.ntmps45
  go_wp2_with fail
  refine bodyPost_ret (results_tmp rfl _ _ _) rfl ?_
  refine ⟨?_, rfl⟩
  show Ending.returned (.int .i64 _) = Ending.returned (.int .i64 _)
  congr 2
  try omega
/-- Between two records. -/
def RO (w : World) (c : Col) (gq gx n : Nat) (R : List RSec) (Z : List (List UInt8)) (w0 : World) (c0 : Col) (recs : List (List UInt8)) (used len : Nat) (A : Option Addr) (cp : Nat) : Prop :=
  recs.length = len ∧ used ≤ n ∧ len ≤ used ∧ Chain Z 0 0 recs used ∧ Tr (fun _ => False) c0 c w0 w ∧ RDk w c gx n R ∧ Lr w c gq gx len used ∧ ∃ cells, OwnR w c gq 23 1 A len cp cells ∧ Reps (kSl kU8) w c recs cells
theorem RO.below {w w' : World} {c : Col} {gq gx n : Nat} {R : List RSec} {Z : List (List UInt8)} {w0 : World} {c0 : Col} {recs : List (List UInt8)} {used len : Nat} {A : Option Addr} {cp : Nat} (h : RO w c gq gx n R Z w0 c0 recs used len A cp) (hb : Below w.heap.size w w') : RO w' c gq gx n R Z w0 c0 recs used len A cp := by
  obtain ⟨h1, h2, h3, h4, h5, h6, h7, cells, h8, h9⟩ := h
  have t := Tr.of_below (M := fun _ => False) h5.wf hb
  exact ⟨h1, h2, h3, h4, h5.then t, h6.tr t (fun h => h), h7.tr t (fun h => h), cells, h8.keep t (fun _ _ h => h), h9.keep t.kp⟩
set_option maxRecDepth 100000 in
set_option maxHeartbeats 8000000 in
theorem ROpen_any (w : World) (c : Col) (gx n : Nat) (R : List RSec) (hw : Wf c w) (h : RDk w c gx n R) :
    Calls Try.prog 25 #[.pointer (some ⟨gx, 0, none⟩)] w fun e w' => ∃ gq A m cp, e = .returned (.tuple #[.pointer (some ⟨gq, 0, none⟩), .slice A m cp]) ∧ ∃ recs used c', Finds (isZ R) recs used ∧ used ≤ n ∧ w.heap.size ≤ gq ∧ Tr (· = gx) c c' w w' ∧
      RDk w' c' gx n ((wipeR R used n).map syncS) ∧ Lr w' c' gq gx recs.length used ∧ Rd (kSl kU8) w' c' A m cp recs := by
  obtain ⟨f1, f2, f3⟩ := h.facts
  have hgl := h.lt
  obtain ⟨Z, hZ⟩ : ∃ Z, isZ R = Z := ⟨_, rfl⟩
  have hZl : Z.length = n := by rw [← hZ, isZ_len, f1]
  have hZ64 : ∀ s ∈ Z, s.length = 64 := by
    intro s hs
    rw [← hZ] at hs
    unfold isZ at hs
    obtain ⟨x, hx, rfl⟩ := List.mem_map.1 hs
    exact (f2 x hx).1
  rw [hZ]
  have ht1 := (Tr.new hw (.cells #[.pointer (some ⟨gx, 0, none⟩), .int .i64 0, .int .i64 0] 60)).hot (k := w.heap.size) (g := w.heap.size) (Nat.le_refl _) (by simp) (by simp) (.inr (Nat.le_refl _))
  have hlr : Lr (w.alloc (.cells #[.pointer (some ⟨gx, 0, none⟩), .int .i64 0, .int .i64 0] 60)) (c.set w.heap.size w.heap.size) w.heap.size gx 0 0 := ⟨Col.set_same _ _ _, heap_alloc_new w _⟩
  have hd1 := h.tr ht1 (fun h => h)
  have hne : gx ≠ w.heap.size := by omega
  have HT1 := Lib.hid ht1
  have HL1 := Lib.hid hlr
  have HD1 := Lib.hid hd1
  have HZ := Lib.hid hZ
  have HZL := Lib.hid hZl
  have HZ64 := Lib.hid hZ64
  have HW := Lib.hid hw
  have HD := Lib.hid h
  clear ht1 hlr hd1 hZ hZl hZ64 hw h
  clear f2
  go_enter Try.func25, Try.ntmps25
  go_upto_block 0 with fail
  generalize w.alloc (.cells #[.pointer (some ⟨gx, 0, none⟩), .int .i64 0, .int .i64 0] 60) = W1 at *
  obtain ⟨gq, hgq⟩ : ∃ gq, w.heap.size = gq := ⟨_, rfl⟩
  have hgq0 : w.heap.size ≤ gq := by omega
  rw [hgq] at HT1 HL1 HD1 hne ⊢
  have HGQ := Lib.hid hgq
  clear hgq
  go_cut [5] (fun o wx => ∃ recs used len A cp c', o = .slice A len cp ∧ Hid (RO wx c' gq gx n R Z w c recs used len A cp) ∧ Hid (recAt Z used len = none))
  case first =>
    go_wp2_with fail
    go_loopw [5] (fun o wr => ∃ recs used len A cp c', o = .slice A len cp ∧ Hid (RO wr c' gq gx n R Z w c recs used len A cp)) (fun _ wr => n - cellN wr ⟨gq, 2, none⟩)
    case atStart => exact ⟨[], 0, 0, none, 0, _, rfl, rfl, Nat.zero_le _, Nat.le_refl _, rfl, HT1.out, HD1.out, HL1.out, [], OwnR.nil _ _ _ _ _, Reps.nil _ _ _⟩
    case round =>
      obtain ⟨recs, used, len, A, cp, c', rfl, HRO⟩ := hrel
      obtain ⟨r1, hun, hlu, hch, ht, hd, hl, cells, hrow, hreps⟩ := HRO.out
      have g1 := blk_cell1 hl.2
      have g2 := blk_cell2 hl.2
      have hwf := ht.wf
      have hgqw := blk_lt hl.2
      have HLEN := Lib.hid r1
      have HCH := Lib.hid hch
      have HT := Lib.hid ht
      have HDR := Lib.hid hd
      have HL := Lib.hid hl
      have HROW := Lib.hid hrow
      have HREPS := Lib.hid hreps
      have HWF := Lib.hid hwf
      clear r1 hch ht hd hl hrow hreps hwf
      obtain ⟨f, hf⟩ : ∃ f, bytesF (isZ R) used 12 = f := ⟨_, rfl⟩
      have hRB := RBytes_any wr c' gx n R used 12 hun (by omega) HWF.out HDR.out
      rw [hf] at hRB
      have HRB := Lib.hid hRB
      have HF := Lib.hid hf
      clear hRB hf
      go_wp2_with fail
      refine (HRB.out).mono ?_
      rintro e w2 ⟨A6, k6, cp6, rfl, q_HR6, q_HB6⟩
      have HR6 := Lib.hid q_HR6
      have HB6 := Lib.hid q_HB6
      clear q_HR6 q_HB6
      by_cases hlt : used < n
      case neg =>
        obtain rfl : used = n := by omega
        have hno : recAt Z used len = none := recAt_zsec (.inr (List.getElem?_eq_none (by rw [HZL.out]; exact Nat.le_refl _)))
        have hk6 : 0 = k6 := by
          have h1 := HR6.out.len
          rw [← HF.out] at h1
          unfold bytesF at h1
          rw [isZ_len, HD.out.facts.1, if_neg (by omega)] at h1
          exact h1
        subst hk6
        have HNO := Lib.hid hno
        clear hno
        have HRO2 := Lib.hid (HRO.out.below HB6.out)
        go_wp2_with fail
        go_meet
        exact ⟨recs, used, len, A, cp, c', rfl, HRO2.out, HNO.out⟩
      obtain ⟨s, hs⟩ : ∃ s, Z[used]? = some s := ⟨_, List.getElem?_eq_getElem (by rw [HZL.out]; exact hlt)⟩
      have hs64 := HZ64.out s (List.mem_of_getElem? hs)
      have hfs : f = s.take 12 := by
        rw [← HF.out, HZ.out]
        unfold bytesF
        rw [if_pos (by rw [HZL.out]; omega), ← take_flN HZ64.out used 1 12 (by rw [HZL.out]; omega) (by omega), flN_one hs]
      have hk6 : 12 = k6 := by rw [← HR6.out.len, hfs, List.length_take, hs64]; rfl
      subst hk6
      obtain ⟨a0, a1, a2, a3, rest, hsr⟩ : ∃ a0 a1 a2 a3 rest, s = a0 :: a1 :: a2 :: a3 :: rest := by
        match s, hs64 with
        | a0 :: a1 :: a2 :: a3 :: rest, _ => exact ⟨a0, a1, a2, a3, rest, rfl⟩
      obtain ⟨b6, o6, rfl⟩ := HR6.out.addr (by omega)
      have q0 : w2.cell? ⟨b6, o6 + 0, none⟩ = some (.int .u8 (a0.toNat : Int)) := by
        have h1 := HR6.out.byte (k := 0) (by omega)
        rw [hfs, hsr] at h1
        exact h1
      have q1 : w2.cell? ⟨b6, o6 + 1, none⟩ = some (.int .u8 (a1.toNat : Int)) := by
        have h1 := HR6.out.byte (k := 1) (by omega)
        rw [hfs, hsr] at h1
        exact h1
      have q2 : w2.cell? ⟨b6, o6 + 2, none⟩ = some (.int .u8 (a2.toNat : Int)) := by
        have h1 := HR6.out.byte (k := 2) (by omega)
        rw [hfs, hsr] at h1
        exact h1
      have q3 : w2.cell? ⟨b6, o6 + 3, none⟩ = some (.int .u8 (a3.toNat : Int)) := by
        have h1 := HR6.out.byte (k := 3) (by omega)
        rw [hfs, hsr] at h1
        exact h1
      rw [Nat.add_zero] at q0
      have HFS := Lib.hid hfs
      have HS := Lib.hid hs
      have HS64 := Lib.hid hs64
      have HSR := Lib.hid hsr
      clear hfs hs hs64 hsr
      go_wp2_with fail
      go_quiet (fail)
      have hv4 := beI4 a0 a1 a2 a3
      have ht4 : s.take 4 = [a0, a1, a2, a3] := by rw [HSR.out]; rfl
      rw [← ht4] at hv4
      generalize wrap64 (wrap64 (a0.toNat : Int) * 16777216) = X1 at hv4 ⊢
      generalize wrap64 (wrap64 (a1.toNat : Int) * 65536) = X2 at hv4 ⊢
      generalize wrap64 (wrap64 (a2.toNat : Int) * 256) = X3 at hv4 ⊢
      generalize wrap64 (a3.toNat : Int) = X4 at hv4 ⊢
      generalize wrap64 (a0.toNat : Int) = y0
      generalize wrap64 (a1.toNat : Int) = y1
      generalize wrap64 (a2.toNat : Int) = y2
      generalize bits .or .i64 X1 X2 = O1 at hv4 ⊢
      generalize bits .or .i64 O1 X3 = O2 at hv4 ⊢
      generalize bits .or .i64 O2 X4 = O3 at hv4 ⊢
      obtain ⟨nn, hnn⟩ : ∃ nn, beNat (s.take 4) = nn := ⟨_, rfl⟩
      rw [hnn] at hv4
      subst hv4
      have hnb : nn < 4294967296 := by
        have h := beNat_lt (s.take 4)
        rw [List.length_take, HS64.out, hnn] at h
        simpa using h
      have HREC : Hid (recAt Z used len = if 1 ≤ nn ∧ nn ≤ 20000 ∧ secN nn ≤ n - used ∧ sumF (((Z.drop used).flatten.drop 12).take nn) len = (s.drop 4).take 8 then some (((Z.drop used).flatten.drop 12).take nn) else none) := by
        show _ = _
        unfold recAt
        rw [HS.out]
        simp only [hnn, HZL.out]
      have HRO2 := Lib.hid (HRO.out.below (Drew.below HB6.out nq))
      have HR6q := Lib.hid (HR6.out.below (Drew.below (Below.refl _ w2) nq))
      have HNN := Lib.hid hnn
      have HT4 := Lib.hid ht4
      clear hnn ht4
      clear q0 q1 q2 q3 g1 g2
      generalize w2.drewN nq = w3 at *
      by_cases b1 : 1 ≤ nn
      case neg =>
        have c1 : (nn : Int) < 1 := by omega
        have hno : recAt Z used len = none := by rw [HREC.out, if_neg (fun h => b1 h.1)]
        have HNO := Lib.hid hno
        clear hno
        go_wp2_with fail
        go_meet
        exact ⟨recs, used, len, A, cp, c', rfl, HRO2.out, HNO.out⟩
      have c1 : ¬ (nn : Int) < 1 := by omega
      by_cases b2 : nn ≤ 20000
      case neg =>
        have c2 : (20000 : Int) < (nn : Int) := by omega
        have hno : recAt Z used len = none := by rw [HREC.out, if_neg (fun h => b2 h.2.1)]
        have HNO := Lib.hid hno
        clear hno
        go_wp2_with fail
        go_meet
        exact ⟨recs, used, len, A, cp, c', rfl, HRO2.out, HNO.out⟩
      have c2 : ¬ (20000 : Int) < (nn : Int) := by omega
      obtain ⟨r1', hun', hlu', hch', ht', hd', hl', cells', hrow', hreps'⟩ := HRO2.out
      have g1 := blk_cell1 hl'.2
      have g2 := blk_cell2 hl'.2
      have hwf' := ht'.wf
      have hgqw' := blk_lt hl'.2
      obtain ⟨m12, hm12⟩ : ∃ m12 : Nat, m12 = nn + 12 := ⟨_, rfl⟩
      have hw12 : IntKind.i64.wrap ((nn : Int) + 12) = (m12 : Int) := by rw [hm12]; exact wrap_add nn 12 (by omega) (by omega)
      obtain ⟨bb, hbb⟩ : ∃ bb, bytesF (isZ R) used m12 = bb := ⟨_, rfl⟩
      have hRB2 := RBytes_any w3 c' gx n R used m12 hun' (by omega) hwf' hd'
      rw [hbb] at hRB2
      have HRB2 := Lib.hid hRB2
      have HBB := Lib.hid hbb
      have HM12 := Lib.hid hm12
      have HL' := Lib.hid hl'
      have HD' := Lib.hid hd'
      have HT' := Lib.hid ht'
      have HCH' := Lib.hid hch'
      have HROW' := Lib.hid hrow'
      have HREPS' := Lib.hid hreps'
      have HWF' := Lib.hid hwf'
      have HLEN' := Lib.hid r1'
      clear hRB2 hbb hm12 hl' hd' ht' hch' hrow' hreps' hwf' r1'
      go_wp2_with fail
      refine (HRB2.out).mono ?_
      rintro e w4 ⟨A8, k8, cp8, rfl, q_HR8, q_HB8⟩
      have HR8 := Lib.hid q_HR8
      have HB8 := Lib.hid q_HB8
      clear q_HR8 q_HB8
      have HRO4 := Lib.hid (HRO2.out.below HB8.out)
      by_cases b3 : secN nn ≤ n - used
      case neg =>
        have hno : recAt Z used len = none := by rw [HREC.out, if_neg (fun h => b3 h.2.2.1)]
        have hk8 : 0 = k8 := by
          have h1 := HR8.out.len
          rw [← HBB.out] at h1
          unfold bytesF at h1
          rw [isZ_len, HD.out.facts.1, if_neg (by have := HM12.out; unfold secN at b3; omega)] at h1
          exact h1
        subst hk8
        have hm0 : 0 < m12 := by have := HM12.out; omega
        have hm1 : (decide (0 < m12)) = true := by simp [hm0]
        have HNO := Lib.hid hno
        clear hno
        go_wp2_with fail
        refine wp_region_quiet_below (by kernel_rfl) (by kernel_rfl) ?_
        repeat ((with_reducible refine wpQuiet_step (fun K hK => ?_)); go_simp; first | (with_reducible refine hK _ ?_; clear hK K) | (rw [if_neg (by decide)]; with_reducible refine hK _ ?_; clear hK K))
        with_reducible refine wpQuiet_nil ?_
        intro _ hw'
        obtain ⟨⟨dq, osq⟩, hw''⟩ := hw'
        subst hw''
        have HRO5 := Lib.hid (HRO4.out.below (below_regrown w4 dq osq))
        go_wp2_with fail
        go_meet
        exact ⟨recs, used, len, A, cp, c', rfl, HRO5.out, HNO.out⟩
      have hbv : bb = ((Z.drop used).flatten).take m12 := by
        rw [← HBB.out, HZ.out]
        unfold bytesF
        rw [if_pos (by rw [HZL.out]; have := HM12.out; unfold secN at b3; omega)]
      have hbl : bb.length = m12 := by
        rw [hbv, ← take_flN HZ64.out used (secN nn) m12 (by rw [HZL.out]; omega) (by have := HM12.out; unfold secN; omega), List.length_take, flN_len HZ64.out used (secN nn) (by rw [HZL.out]; omega)]
        have := HM12.out
        unfold secN
        omega
      have hk8 : m12 = k8 := by rw [← HR8.out.len, hbl]
      subst hk8
      obtain ⟨x, hx⟩ : ∃ x, ((Z.drop used).flatten.drop 12).take nn = x := ⟨_, rfl⟩
      have hbx : bb.drop 12 = x := by
        rw [← hx, hbv, HM12.out, List.drop_take, Nat.add_sub_cancel]
      have hm12' := HM12.out
      obtain ⟨b8, o8, rfl⟩ := HR8.out.addr (by omega)
      have hc8 : m12 ≤ cp8 := HR8.out.2.1
      have hi1 : (12 : Int) ≤ (m12 : Int) := by omega
      have hi2 : (m12 : Int) ≤ (cp8 : Int) := by omega
      have hi3 : ¬ cp8 = 12 := by omega
      have hi4 : m12 - 12 = nn := by omega
      have hrx : Rd kU8 w4 c' (some ⟨b8, o8 + 12, none⟩) nn (cp8 - 12) x := by
        have h1 := HR8.out.drop (m := 12) (by omega)
        rw [if_neg hi3, hbx, hi4] at h1
        simpa [addr_add, kU8] using h1
      have hxl := hrx.len
      obtain ⟨q, hq⟩ : ∃ q, (frontB x len == s.take 12) = q := ⟨_, rfl⟩
      have hfq : (sumF x len = (s.drop 4).take 8) ↔ q = true := by
        have h12 : s.take 12 = s.take 4 ++ (s.drop 4).take 8 := by rw [← List.take_add]
        have hn4 : numB nn 4 = s.take 4 := by rw [← HNN.out]; exact numB4_inj (by rw [List.length_take, HS64.out]; rfl)
        rw [← hq, beq_iff_eq, h12]
        unfold frontB
        rw [hxl, hn4]
        exact ⟨fun h => by rw [h], fun h => List.append_cancel_left h⟩
      have td := (Tr.refl (fun _ => False) HRO4.out.2.2.2.2.1.wf).drew
      have hfr := RFront_any w4.drew c' (some ⟨b8, o8 + 12, none⟩) nn (cp8 - 12) x len (by omega) (by omega) td.wf (hrx.tr td)
      have hsame := fun (W : World) (A9 : Option Addr) (n9 cp9 : Nat) (h1 : Rd kU8 W c' A9 n9 cp9 (frontB x len)) (h2 : Rd kU8 W c' (some ⟨b6, o6, none⟩) 12 cp6 (s.take 12)) => Same_any W c' A9 (some ⟨b6, o6, none⟩) n9 cp9 12 cp6 _ _ h1 h2
      rw [hq] at hsame
      have h6 : Rd kU8 w4.drew c' (some ⟨b6, o6, none⟩) 12 cp6 (s.take 12) := by
        have h := (HR6q.out.below HB8.out).tr td
        rw [HFS.out] at h
        exact h
      have hg4 : w4.drew.cell? ⟨gq, 1, none⟩ = some (.int .i64 (len : Int)) := blk_cell1 (HRO4.out.2.2.2.2.2.2.1).2
      have hgl4 : gq < w4.drew.heap.size := blk_lt (HRO4.out.2.2.2.2.2.2.1).2
      have HREC2 := HREC.out
      rw [hx] at HREC2
      have HRX := Lib.hid hrx
      have HFR := Lib.hid hfr
      have HSAME := Lib.hid hsame
      have H6 := Lib.hid h6
      have TD := Lib.hid td
      have HFQ := Lib.hid hfq
      have HRC2 := Lib.hid HREC2
      have HQ := Lib.hid hq
      have HX := Lib.hid hx
      have HBX := Lib.hid hbx
      have HBV := Lib.hid hbv
      have HBL := Lib.hid hbl
      have HXL := Lib.hid hxl
      clear hrx hfr hsame h6 td hfq HREC2 hq hx hbx hbv hbl hxl
      clear g1 g2 hm12'
      go_wp2_with fail
      go_region_held3 (fun w' => w'.cell? ⟨gq, 1, none⟩ = some (.int .i64 (len : Int)))
        (first | exact hg4 | exact (HB9.out.cell (p := ⟨gq, 1, none⟩) hgl4).trans hg4)
        (first
        | (go_at_call 44; refine (HFR.out).mono ?_; rintro e w9 ⟨A9, n9, cp9, rfl, q_ho, q_hb⟩; have HO9 := Lib.hid q_ho; have HB9 := Lib.hid q_hb; clear q_ho q_hb)
        | (go_at_call 14; refine (HSAME.out _ _ _ _ (own_rd HO9.out TD.out.wf) (H6.out.below HB9.out)).mono ?_; rintro e w10 ⟨rfl, rfl⟩))
      have HRO9 := Lib.hid (HRO4.out.below (below_then (Drew.below (Below.refl _ w4) 1) HB9.out))
      have HRX9 := Lib.hid ((HRX.out.tr TD.out).below HB9.out)
      clear hg4 hgl4 HFR HSAME
      cases q with
      | false =>
        have hno : recAt Z used len = none := by rw [HRC2.out, if_neg (fun h => by have := HFQ.out.1 h.2.2.2; cases this)]
        have HNO := Lib.hid hno
        clear hno
        go_wp2_with fail
        go_meet
        exact ⟨recs, used, len, A, cp, c', rfl, HRO9.out, HNO.out⟩
      | true =>
        have hyes : recAt Z used len = some x := by rw [HRC2.out, if_pos ⟨b1, b2, b3, HFQ.out.2 rfl⟩]
        obtain ⟨z1, z2, z3, z4, z5, z6, z7, cells9, z8, z9⟩ := HRO9.out
        have hbytes : (Try.prog.info? 23).map (fun i => (i.zero, i.size, i.bytes)) = some (some (.slice none 0 0), 1, 24) := by kernel_rfl
        have hlo : w.heap.size ≤ gq := hgq0
        have hlo2 : gq ≤ w9.heap.size := Nat.le_of_lt (blk_lt z7.2)
        have hl4 : len ≤ 4096 := by omega
        obtain ⟨sn, hsn⟩ : ∃ sn, secN nn = sn := ⟨_, rfl⟩
        have hsb : sn ≤ 4096 := by omega
        obtain ⟨n1, hn1⟩ : ∃ n1 : Nat, n1 = len + 1 := ⟨_, rfl⟩
        obtain ⟨u1, hu1⟩ : ∃ u1 : Nat, u1 = used + sn := ⟨_, rfl⟩
        have e1 : IntKind.i64.wrap ((len : Int) + 1) = (n1 : Int) := by rw [hn1]; exact wrap_succ len (by omega)
        have e2 : IntKind.i64.wrap ((used : Int) + (sn : Int)) = (u1 : Int) := by rw [hu1]; exact wrap_add used sn (by omega) (by omega)
        have SC := fun W => R16Sectors_any W nn (by omega)
        rw [hsn] at SC
        have hfit : used + sn ≤ n := by omega
        have HN1 := Lib.hid hn1
        have HU1 := Lib.hid hu1
        have HSC := Lib.hid SC
        have HSN := Lib.hid hsn
        clear hn1 hu1 SC hsn
        have HYES := Lib.hid hyes
        have Z1 := Lib.hid z1
        have Z4 := Lib.hid z4
        have Z5 := Lib.hid z5
        have Z6 := Lib.hid z6
        have Z7 := Lib.hid z7
        have Z8 := Lib.hid z8
        have Z9 := Lib.hid z9
        clear hyes z1 z4 z5 z6 z7 z8 z9
        clear HRO2 HRO4 HR6q HR8 HB8 HRX H6 TD HO9 HB9 HBB HBL HBV HRB2 HRB HF HL' HD' HT' HCH' HROW' HREPS' HWF' HLEN' HLEN HCH HT HDR HL HROW HREPS HWF HFS
        go_wp2_with (at_builtin; go_must (refine app_one_self (M := fun _ => False) (w := w) (c := c) (.tmp 75) (.tmp 78) 50 23 (.slice none 0 0) 1 24 rfl rfl Try.underlying50 hbytes rfl (by decide) (by decide) cells9 _ rfl rfl rfl (one_cell rfl) Z5.out Z8.out hlo hlo2 (by omega) ?_); intro A1 cp1 w10 c10 q_ht q_own q_keep q_kp q_col; have HT10 := Lib.hid q_ht; have HOWN := Lib.hid q_own; have HKP := Lib.hid q_kp; have HL10 := Lib.hid (show Lr w10 c10 gq gx len used from ⟨(q_col gq (blk_lt Z7.out.2)).trans Z7.out.1, q_keep _ _ _ _ (by decide) Z7.out.2⟩); have HD10 := Lib.hid (Z6.out.keepT q_keep q_col); have g1 := blk_cell1 HL10.out.2; have f1 := blk_free HL10.out.2 1; clear q_ht q_own q_keep q_kp q_col)
        have hcg : c10 gq = some gq := HL10.out.1
        have hb11 := blk_set HL10.out.2 1 (.int .i64 (n1 : Int))
        have ht11 := HT10.out.setCell (p := ⟨gq, 1, none⟩) hcg (.inr hlo) (.int .i64 (n1 : Int))
        have tq := (Tr.refl (· = gq) HT10.out.wf).setCell (p := ⟨gq, 1, none⟩) hcg (.inl rfl) (.int .i64 (n1 : Int))
        generalize w10.setCell ⟨gq, 1, none⟩ (.int .i64 (n1 : Int)) = w11 at *
        have k2 := blk_cell2 hb11
        have f2 := blk_free hb11 2
        refine wp_region_L (S := SL (fun _ => True) (fun w' => w'.cell? ⟨gq, 2, none⟩ = some (.int .i64 (used : Int))) (fun _ => True) 10 10) (by kernel_rfl) ⟨trivial, fun _ => k2, fun _ => trivial⟩ (fun hHeld => ?_)
        refine wpAnyL_take (i := 0) (v := ?_) false false rfl (by kernel_rfl) (by kernel_rfl) (by kernel_rfl) (by kernel_rfl) (fun _ _ _ h => h) (Or.inl ⟨by rfl, ?_⟩) hHeld ?_
        rotate_left 1
        focus (intro w hSw; have hq1 := hSw.1; (first | have hq2 := hSw.2.1 rfl | skip); (first | have hq3 := hSw.2.2 rfl | skip); clear hSw; (try dsimp only at hq1); (try dsimp only at hq2); (try dsimp only at hq3); go_simp; try with_reducible rfl)
        replace hHeld := SL.mono 0 hHeld
        try simp only [Act.put, List.setIfInBounds_toArray, List.set_cons_zero, List.set_cons_succ]
        refine wpAnyL_take (i := 1) (v := ?_) false false rfl (by kernel_rfl) (by kernel_rfl) (by kernel_rfl) (by kernel_rfl) (fun _ _ _ h => h) (Or.inl ⟨by rfl, ?_⟩) hHeld ?_
        rotate_left 1
        focus (intro w hSw; have hq1 := hSw.1; (first | have hq2 := hSw.2.1 rfl | skip); (first | have hq3 := hSw.2.2 rfl | skip); clear hSw; (try dsimp only at hq1); (try dsimp only at hq2); (try dsimp only at hq3); go_simp; try with_reducible rfl)
        replace hHeld := SL.mono 1 hHeld
        try simp only [Act.put, List.setIfInBounds_toArray, List.set_cons_zero, List.set_cons_succ]
        refine wpAnyL_take (i := 2) (v := ?_) false false rfl (by kernel_rfl) (by kernel_rfl) (by kernel_rfl) (by kernel_rfl) (fun _ _ _ h => h) (Or.inl ⟨by rfl, ?_⟩) hHeld ?_
        rotate_left 1
        focus (intro w hSw; have hq1 := hSw.1; (first | have hq2 := hSw.2.1 rfl | skip); (first | have hq3 := hSw.2.2 rfl | skip); clear hSw; (try dsimp only at hq1); (try dsimp only at hq2); (try dsimp only at hq3); go_simp; try with_reducible rfl)
        replace hHeld := SL.mono 2 hHeld
        try simp only [Act.put, List.setIfInBounds_toArray, List.set_cons_zero, List.set_cons_succ]
        refine wpAnyL_take (i := 3) (v := ?_) false false rfl (by kernel_rfl) (by kernel_rfl) (by kernel_rfl) (by kernel_rfl) (fun _ _ _ h => h) (Or.inl ⟨by rfl, ?_⟩) hHeld ?_
        rotate_left 1
        focus (intro w hSw; have hq1 := hSw.1; (first | have hq2 := hSw.2.1 rfl | skip); (first | have hq3 := hSw.2.2 rfl | skip); clear hSw; (try dsimp only at hq1); (try dsimp only at hq2); (try dsimp only at hq3); go_simp; try with_reducible rfl)
        replace hHeld := SL.mono 3 hHeld
        try simp only [Act.put, List.setIfInBounds_toArray, List.set_cons_zero, List.set_cons_succ]
        refine wpAnyL_take (i := 4) (v := ?_) true false rfl (by kernel_rfl) (by kernel_rfl) (by kernel_rfl) (by kernel_rfl) (fun _ _ _ h => h) (Or.inl ⟨by rfl, ?_⟩) hHeld ?_
        rotate_left 1
        focus (intro w hSw; have hq1 := hSw.1; (first | have hq2 := hSw.2.1 rfl | skip); (first | have hq3 := hSw.2.2 rfl | skip); clear hSw; (try dsimp only at hq1); (try dsimp only at hq2); (try dsimp only at hq3); go_simp; try with_reducible rfl)
        replace hHeld := SL.mono 4 hHeld
        try simp only [Act.put, List.setIfInBounds_toArray, List.set_cons_zero, List.set_cons_succ]
        refine wpAnyL_take (i := 5) (v := ?_) false false rfl (by kernel_rfl) (by kernel_rfl) (by kernel_rfl) (by kernel_rfl) (fun _ _ _ h => h) (Or.inl ⟨by rfl, ?_⟩) hHeld ?_
        rotate_left 1
        focus (intro w hSw; have hq1 := hSw.1; (first | have hq2 := hSw.2.1 rfl | skip); (first | have hq3 := hSw.2.2 rfl | skip); clear hSw; (try dsimp only at hq1); (try dsimp only at hq2); (try dsimp only at hq3); go_simp; try with_reducible rfl)
        replace hHeld := SL.mono 5 hHeld
        try simp only [Act.put, List.setIfInBounds_toArray, List.set_cons_zero, List.set_cons_succ]
        refine wpAnyL_one (i := 6) (by kernel_rfl) rfl (fun K hK => ?_)
        go_simp
        refine (HSC.out _).mono ?_
        rintro e w12 ⟨rfl, rfl⟩
        dsimp only
        refine hK.out _ _ (SL.mono 6 hHeld) (fun hH2 => ?_)
        clear hHeld hK K
        have hHeld := hH2
        clear hH2
        refine wpAnyL_take (i := 7) (v := ?_) false false rfl (by kernel_rfl) (by kernel_rfl) (by kernel_rfl) (by kernel_rfl) (fun _ _ _ h => h) (Or.inl ⟨by rfl, ?_⟩) hHeld ?_
        rotate_left 1
        focus (intro w hSw; have hq1 := hSw.1; (first | have hq2 := hSw.2.1 rfl | skip); (first | have hq3 := hSw.2.2 rfl | skip); clear hSw; (try dsimp only at hq1); (try dsimp only at hq2); (try dsimp only at hq3); go_simp; try with_reducible rfl)
        replace hHeld := SL.mono 7 hHeld
        try simp only [Act.put, List.setIfInBounds_toArray, List.set_cons_zero, List.set_cons_succ]
        refine wpAnyL_take (i := 8) (v := ?_) false false rfl (by kernel_rfl) (by kernel_rfl) (by kernel_rfl) (by kernel_rfl) (fun _ _ _ h => h) (Or.inl ⟨by rfl, ?_⟩) hHeld ?_
        rotate_left 1
        focus (intro w hSw; have hq1 := hSw.1; (first | have hq2 := hSw.2.1 rfl | skip); (first | have hq3 := hSw.2.2 rfl | skip); clear hSw; (try dsimp only at hq1); (try dsimp only at hq2); (try dsimp only at hq3); go_simp; try with_reducible rfl)
        replace hHeld := SL.mono 8 hHeld
        try simp only [Act.put, List.setIfInBounds_toArray, List.set_cons_zero, List.set_cons_succ]
        refine wpAnyL_take (i := 9) (v := ?_) false false rfl (by kernel_rfl) (by kernel_rfl) (by kernel_rfl) (by kernel_rfl) (fun _ _ _ h => h) (Or.inl ⟨by rfl, ?_⟩) hHeld ?_
        rotate_left 1
        focus (intro w hSw; have hq1 := hSw.1; (first | have hq2 := hSw.2.1 rfl | skip); (first | have hq3 := hSw.2.2 rfl | skip); clear hSw; (try dsimp only at hq1); (try dsimp only at hq2); (try dsimp only at hq3); go_simp; try with_reducible rfl)
        replace hHeld := SL.mono 9 hHeld
        try simp only [Act.put, List.setIfInBounds_toArray, List.set_cons_zero, List.set_cons_succ]
        refine wpAnyL_one (i := 10) (by kernel_rfl) rfl (fun K hK => ?_)
        go_simp
        refine hK.out _ _ ⟨trivial, fun h => absurd h (by decide), fun _ => trivial⟩ (fun hH2 => ?_)
        clear hHeld hH2 hK K
        refine wpAnyL_done (by kernel_rfl) ?_
        go_wp2_with fail
        have tqE := (tq.setCell (p := ⟨gq, 2, none⟩) hcg (.inl rfl) (.int .i64 (u1 : Int))).drew
        have htE := (ht11.setCell (p := ⟨gq, 2, none⟩) hcg (.inr hlo) (.int .i64 (u1 : Int))).drew
        have hbE := blk_set hb11 2 (.int .i64 (u1 : Int))
        have hme := cellN_of (blk_cell2 (HRO.out.2.2.2.2.2.2.1).2)
        have hmE : cellN (w11.setCell ⟨gq, 2, none⟩ (.int .i64 (u1 : Int))).drew ⟨gq, 2, none⟩ = u1 := cellN_of (blk_cell2 hbE)
        have hxn := HXL.out
        have hch := Chain.snoc (x := x) Z4.out (by rw [Nat.zero_add, Z1.out]; exact HYES.out)
        rw [hxn, HSN.out, ← HU1.out] at hch
        have hsp := secN_pos nn
        rw [HSN.out] at hsp
        have hu1' := HU1.out
        have hn1' := HN1.out
        refine ⟨⟨recs ++ [x], u1, len + 1, A1, cp1, c10, rfl, ?_, by omega, by omega, hch, htE, HD10.out.tr tqE hne, ⟨hcg, ?_⟩, _, HOWN.out.tr tqE HL10.out.2 (by decide), ?_⟩, by rw [hme, hmE]; omega⟩
        · rw [List.length_append, Z1.out]
          rfl
        · rw [← hn1']
          exact hbE
        · exact ((Z9.out.append (Reps.one ⟨_, _, _, rfl, HRX9.out⟩)).keep HKP.out).keep tqE.kp
  case rest =>
    obtain ⟨recs, used, len, A, cp, c', rfl, HRO, HNO⟩ := hcut
    obtain ⟨z1, z2, z3, z4, z5, z6, z7, cells, z8, z9⟩ := HRO.out
    have g2 := blk_cell2 z7.2
    have hgx1 := z5.at_ (i := gx) (by obtain ⟨h1, _⟩ := HD.out; exact h1) (fun h => h)
    obtain ⟨V, hV⟩ : ∃ V, bcells zsec = V := ⟨_, rfl⟩
    have hVl : V.length = 64 := by rw [← hV]; rfl
    have hV1 : ∀ v ∈ V, v.oneCell' = true := fun v hv => bcells_one (hV ▸ hv)
    have hd0 : ∃ A cp, wc.heap[gx]? = some (.cells #[.slice A n cp] 79 (0, 0)) := by
      obtain ⟨_, A, cp, h1, _⟩ := z6
      exact ⟨A, cp, h1⟩
    obtain ⟨Ax, cpx, hgxb⟩ := hd0
    have d0 := blk_cell0 hgxb
    have HGXB := Lib.hid hgxb
    clear hgxb
    have hgxl := z6.lt
    have hRok := z6.facts.2.1
    have HV1 : Hid (V.toArray.all (·.oneCell') = true) := all_oneCell_toArray hV1
    have HVL : Hid ((#[.int .u8 0, .int .u8 0, .int .u8 0, .int .u8 0, .int .u8 0, .int .u8 0, .int .u8 0, .int .u8 0, .int .u8 0, .int .u8 0, .int .u8 0, .int .u8 0, .int .u8 0, .int .u8 0, .int .u8 0, .int .u8 0, .int .u8 0, .int .u8 0, .int .u8 0, .int .u8 0, .int .u8 0, .int .u8 0, .int .u8 0, .int .u8 0, .int .u8 0, .int .u8 0, .int .u8 0, .int .u8 0, .int .u8 0, .int .u8 0, .int .u8 0, .int .u8 0, .int .u8 0, .int .u8 0, .int .u8 0, .int .u8 0, .int .u8 0, .int .u8 0, .int .u8 0, .int .u8 0, .int .u8 0, .int .u8 0, .int .u8 0, .int .u8 0, .int .u8 0, .int .u8 0, .int .u8 0, .int .u8 0, .int .u8 0, .int .u8 0, .int .u8 0, .int .u8 0, .int .u8 0, .int .u8 0, .int .u8 0, .int .u8 0, .int .u8 0, .int .u8 0, .int .u8 0, .int .u8 0, .int .u8 0, .int .u8 0, .int .u8 0, .int .u8 0] : Array Value) = V.toArray) := by
      show _ = _
      rw [← hV]
      rfl
    have HV := Lib.hid hV
    have Z1 := Lib.hid z1
    have Z4 := Lib.hid z4
    have Z5 := Lib.hid z5
    have Z6 := Lib.hid z6
    have Z7 := Lib.hid z7
    have Z8 := Lib.hid z8
    have Z9 := Lib.hid z9
    have HROK := Lib.hid hRok
    clear hV z1 z4 z5 z6 z7 z8 z9 hRok
    clear HRO hV1 hgx1
    go_wp2_with fail
    go_loopw [9] (fun i wr => ∃ j, i = .int .i64 ((j : Nat) : Int) ∧ used ≤ j ∧ j ≤ n ∧ Hid (Tr (· = gx) c' c' wc wr) ∧ Hid (RDk wr c' gx n (wipeR R used j))) (fun i _ => n - (intOf i).toNat)
    case atStart => exact ⟨used, rfl, Nat.le_refl _, z2, Tr.refl _ Z5.out.wf, by show RDk _ _ _ _ _; rw [wipeR_start]; exact Z6.out⟩
    case round =>
      obtain ⟨j, rfl, huj, hjn, HTJ, HDJ⟩ := hrel
      have hj0 : (0 : Int) ≤ (j : Int) := by omega
      by_cases hlt : j < n
      · have hlt1 : (j : Int) < (n : Int) := by omega
        obtain ⟨bl, cpl, x, hb1, hxk, hx64, _, _, _, hbl, hbc, hgbl⟩ := HDJ.out.cells hlt
        have hc0 := blk_cell0 hb1
        have hdj := HDJ.out
        obtain ⟨hg9, A9, cp9, h1, h4, h5, h6, h8⟩ := hdj
        rw [h1] at hb1
        obtain ⟨rfl, rfl⟩ : A9 = some ⟨bl, 0, none⟩ ∧ cp9 = cpl := by
          have e0 := Option.some.inj hb1
          injection e0 with e0
          injection e0 with e0
          injection e0 with e0
          injection e0 with e1 e2 e3
          exact ⟨e1, e3⟩
        have hth : wr.there bl (j * 129) V.toArray.size := by
          have h := rsec_there (o := 0) (m := 64) h4.1 hlt (by omega)
          rw [Nat.add_zero] at h
          rw [List.size_toArray, hVl]
          exact h
        have HSZ : Hid ((Try.prog.info? 69).map (·.size) = some V.toArray.size) := by
          show _ = _
          rw [List.size_toArray, hVl]
          kernel_rfl
        have HTH := Lib.hid hth
        have H1 := Lib.hid h1
        have H4 := Lib.hid h4
        have H5 := Lib.hid h5
        have H6 := Lib.hid h6
        have HXK := Lib.hid hxk
        clear hth h1 h4 h5 h6 hxk
        clear hb1
        go_wp2_with (refine wpList_store_mid rfl 69 (.tmp 117) (.tmp 115) rfl bl (j * 129) _ rfl rfl (by rw [HVL.out]; exact HTH.out) (by rw [HVL.out]; exact HSZ.out) (by rw [HVL.out]; exact HV1.out) ?_; rw [HVL.out])
        refine ⟨⟨j + 1, by go_num, by omega, by omega, Tr.setCells (g := gx) hbc V (j * 129) HTJ.out (.inl rfl), ?_⟩, by simp [intOf]; omega⟩
        have hset := wipeR_succ huj HXK.out
        have hrow := own_setCells V (j * 129) H4.out.1
        have hfl := flat129_set (o := 0) (x' := { x with is := zsec }) H6.out HXK.out ⟨zsec_len, hx64.2⟩ (by rw [bcells_length, zsec_len]; omega) (set_is hx64.1 zsec_len)
        rw [Nat.add_zero, HV.out, hset] at hfl
        rw [hfl] at hrow
        exact ⟨hg9, _, _, (heap_of_setCells hgbl V (j * 129) wr).trans H1.out, ⟨hrow, H4.out.2⟩, by rw [wipeR_len, f1], wipeR_ok HROK.out used (j + 1), h8⟩
      · obtain rfl : j = n := by omega
        have hd9 : ∃ A cp, wr.cell? ⟨gx, 0, none⟩ = some (.slice A j cp) := by
          obtain ⟨_, A, cp, h1, _⟩ := HDJ.out
          exact ⟨A, cp, blk_cell0 h1⟩
        obtain ⟨A9, cp9, d9⟩ := hd9
        clear d0
        go_wp2_with fail
        refine (RSync_any wr c' gx j _ HTJ.out.wf HDJ.out).mono ?_
        rintro e w5 ⟨rfl, q_HT5, q_HD5⟩
        have HT5 := Lib.hid q_HT5
        have HD5 := Lib.hid q_HD5
        clear q_HT5 q_HD5
        go_wp2_with fail
        refine bodyPost_ret (results_tmp2 rfl _ _ _) rfl ?_
        have htt := HTJ.out.then HT5.out
        have hl5 := Z7.out.tr htt (fun e => hne e.symm)
        have hw5 := Z8.out.tr htt HGXB.out (by decide)
        have hr5 := Z9.out.keep htt.kp
        have htot := (Z5.out.mono (M' := (· = gx)) (fun r _ h => h.elim)).then htt
        have hcgq : c' gq = some gq := Z7.out.1
        have hfin := open_end Z5.out htot hcgq hgq0 HD5.out hgl hl5 hw5 hr5 Z1.out
        exact ⟨gq, A, len, cp, rfl, recs, used, c.set gq gq, ⟨Z4.out, by rw [Z1.out]; exact HNO.out⟩, z2, hgq0, hfin.1, hfin.2.1, by rw [Z1.out]; exact hfin.2.2.1, hfin.2.2.2⟩
end Go.Proofs.Ytalihocoekplgaa
