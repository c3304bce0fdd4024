/- wal: slices.Equal, a sector read whole, append to what is full. -/
import Derived.Test.YtalihocoekplgaaWalA
import Derived.ArgAppend
set_option linter.unusedVariables false
set_option linter.unusedSimpArgs false
namespace Go.Proofs.Ytalihocoekplgaa
open Go.RowKit

set_option maxHeartbeats 2000000 in
theorem EqualB_any (w : World) (c : Col) (A B : Option Addr) (n cp m cq : Nat) (p t : List UInt8) (hx : Rd kU8 w c A n cp p) (hy : Rd kU8 w c B m cq t) :
    Calls Try.prog 58 #[.slice A n cp, .slice B m cq] w (BoolPost w (p == t)) := by
  have hln := hx.1
  have hmx := hx.max
  have hln2 := hy.1
  have hmx2 := hy.max
  have HX := Lib.hid hx
  have HL := Lib.hid hln
  have HY := Lib.hid hy
  have HL2 := Lib.hid hln2
  clear hx hln hy hln2
  generalize hr : (p == t) = r
  by_cases hnm : n = m
  case neg =>
    have HP : Hid (r = false) := by
      show _ = _
      rw [← hr, beq_eq_false_iff_ne]
      intro e
      have := congrArg List.length e
      rw [HL.out, HL2.out] at this
      exact hnm this
    have hne : ((n : Int) == (m : Int)) = false := by simp; omega
    have hne2 : ((n : Int) != (m : Int)) = true := by simp; omega
    clear hr
    go_enter Try.func58, Try.ntmps58
    go_wp2_with fail
    refine bodyPost_ret (results_tmp rfl _ _ _) rfl ?_
    rw [HP.out]
    exact ⟨rfl, Below.refl _ _⟩
  subst hnm
  have HR := Lib.hid hr
  clear hr
  go_enter Try.func58, Try.ntmps58
  go_wp2_with fail
  go_loopw [13] (fun i wr => ∃ k : Nat, i = .int .i64 (k : Int) ∧ k ≤ n ∧ Hid (∀ j, j < k → p[j]? = t[j]?) ∧ Hid (Below w.heap.size w wr)) (fun i _ => n - (intOf i).toNat)
  case atStart => exact ⟨0, rfl, by omega, fun j h => absurd h (by omega), Below.refl _ _⟩
  case round =>
    obtain ⟨k, rfl, hk, hall, hbl⟩ := hrel
    by_cases hlt : k < n
    · obtain ⟨bb, off, rfl⟩ := HX.out.addr (by omega)
      obtain ⟨b2, off2, rfl⟩ := HY.out.addr (by omega)
      have h0 := (HX.out.below hbl.out).byte hlt
      have g0 := (HY.out.below hbl.out).byte hlt
      have hel := getD_at' p 0 (k := k) (by have := HL.out; omega)
      have hel2 := getD_at' t 0 (k := k) (by have := HL2.out; omega)
      generalize p[k]?.getD 0 = x at hel h0
      generalize t[k]?.getD 0 = y at hel2 g0
      have HEL := Lib.hid hel
      have HEL2 := Lib.hid hel2
      clear hel hel2
      have hk0 : (0 : Int) ≤ (k : Int) := Int.natCast_nonneg _
      have hk1 : (k : Int) < (n : Int) := by omega
      by_cases hp : x = y
      · have hb : ((x.toNat : Int) == (y.toNat : Int)) = true := by simp [hp]
        have hb2 : ((x.toNat : Int) != (y.toNat : Int)) = false := by simp [hp]
        have HPE := Lib.hid hp
        clear hp
        go_wp2_with fail
        go_quiet (fail)
        have HB := Lib.hid (Drew.below hbl.out nq)
        go_wp2_with fail
        refine ⟨⟨k + 1, by go_num, by omega, fun j hj => ?_, HB.out⟩, by simp [intOf]; omega⟩
        rcases Nat.lt_or_ge j k with h | h
        · exact hall.out j h
        · obtain rfl : j = k := by omega
          rw [HEL.out, HEL2.out, HPE.out]
      · have hne : x.toNat ≠ y.toNat := fun e => hp (UInt8.toNat_inj.1 e)
        have hb : ((x.toNat : Int) == (y.toNat : Int)) = false := by simp; omega
        have hb2 : ((x.toNat : Int) != (y.toNat : Int)) = true := by simp; omega
        have HP : Hid (r = false) := by
          show _ = _
          rw [← HR.out, beq_eq_false_iff_ne]
          intro e
          have := HEL.out
          rw [e, HEL2.out] at this
          exact hp (Option.some.inj this).symm
        clear hp hne
        go_wp2_with fail
        go_quiet (fail)
        have HB := Lib.hid (Drew.below hbl.out nq)
        go_wp2_with fail
        refine bodyPost_ret (results_tmp rfl _ _ _) rfl ?_
        rw [HP.out]
        exact ⟨rfl, HB.out⟩
    · obtain rfl : k = n := by omega
      have HP : Hid (r = true) := by
        show _ = _
        rw [← HR.out, beq_iff_eq]
        apply List.ext_getElem?
        intro j
        rcases Nat.lt_or_ge j k with h | h
        · exact hall.out j h
        · rw [List.getElem?_eq_none (by rw [HL.out]; exact h), List.getElem?_eq_none (by rw [HL2.out]; exact h)]
      go_wp2_with fail
      go_ret
      rw [HP.out]
      exact ⟨rfl, hbl.out⟩
set_option maxHeartbeats 2000000 in
theorem KRead_full (w : World) (c : Col) (g n : Nat) (Y : List (List UInt8)) (D : Dt) (N k : Nat) (hk : k < n) (hw : Wf c w) (h : Dk w c g n Y D N) (y : List UInt8) (hy : Y[k]? = some y) :
    Calls Try.prog 13 #[.pointer (some ⟨g, 0, none⟩), .int .i64 (k : Int)] w fun e w' => ∃ A, e = .returned (.tuple #[.slice A 64 64, .int .i64 0]) ∧ Rd kU8 w' c A 64 64 ((D (k : Int)).getD y) ∧ Below w.heap.size w w' := by
  have HI := Lib.hid (KIs_any w c g n Y D N k h)
  have hb : isB n (k : Int) = true := by unfold isB; simp; omega
  rw [hb] at HI
  obtain ⟨hg, A, cp, m, h1, h2, h3, h4, h5, h6, h7, h8⟩ := h
  have d0 := blk_cell0 h1
  have d1 := blk_cell1 h1
  have hlk := h3.look_ok (k := (k : Int)) (by omega) (by omega)
  have HW := Lib.hid hw
  have hk0 : (0 : Int) ≤ (k : Int) := by omega
  have hk1 : (k : Int) < (n : Int) := by omega
  have H1 := Lib.hid h1
  have H3 := Lib.hid h3
  have H4 := Lib.hid h4
  have H7 := Lib.hid h7
  have H6 := Lib.hid h6
  clear h1 h3 h4 h7 h6
  clear hw hb
  obtain ⟨s0, hs0⟩ : ∃ s0, (D (k : Int)).getD zsec = s0 := ⟨_, rfl⟩
  have hs64 : s0.length = 64 := by
    rw [← hs0]
    cases hD : D (k : Int) with
    | none => rfl
    | some s => exact (H3.out.ok _ _ hD).1
  rw [hs0] at hlk
  obtain ⟨C, hC⟩ : ∃ C, (bcells s0).toArray = C := ⟨_, rfl⟩
  have hCs : C.size = 64 := by rw [← hC]; simp [bcells, hs64]
  have hC1 : C.all (·.oneCell') = true := by rw [← hC]; exact all_oneCell_toArray (fun v hv => bcells_one hv)
  have hlk2 : (Instr.lookup 65 (.map (some m)) (.int .i64 (k : Int)) true).run Try.prog w = .ok (.tuple #[.agg C, .bool (D (k : Int)).isSome]) w := by rw [hlk, ← hC]; rfl
  have hst := run_storeCells_new (P := Try.prog) w 70 #[.int .u8 0, .int .u8 0, .int .u8 0, .int .u8 0, .int .u8 0, .int .u8 0, .int .u8 0, .int .u8 0, .int .u8 0, .int .u8 0, .int .u8 0, .int .u8 0, .int .u8 0, .int .u8 0, .int .u8 0, .int .u8 0, .int .u8 0, .int .u8 0, .int .u8 0, .int .u8 0, .int .u8 0, .int .u8 0, .int .u8 0, .int .u8 0, .int .u8 0, .int .u8 0, .int .u8 0, .int .u8 0, .int .u8 0, .int .u8 0, .int .u8 0, .int .u8 0, .int .u8 0, .int .u8 0, .int .u8 0, .int .u8 0, .int .u8 0, .int .u8 0, .int .u8 0, .int .u8 0, .int .u8 0, .int .u8 0, .int .u8 0, .int .u8 0, .int .u8 0, .int .u8 0, .int .u8 0, .int .u8 0, .int .u8 0, .int .u8 0, .int .u8 0, .int .u8 0, .int .u8 0, .int .u8 0, .int .u8 0, .int .u8 0, .int .u8 0, .int .u8 0, .int .u8 0, .int .u8 0, .int .u8 0, .int .u8 0, .int .u8 0, .int .u8 0] C (by rw [hCs]; exact sec_size) (by rw [hCs]; rfl) hC1
  have HC := Lib.hid hC
  have HS0 := Lib.hid hs0
  clear hlk hC hs0
  cases hD : D (k : Int) with
  | none =>
    rw [hD] at hlk2
    have hlk3 : (Instr.lookup 65 (.map (some m)) (.int .i64 (k : Int)) true).run Try.prog w = .ok (.tuple #[.agg C, .bool false]) w := hlk2
    clear hlk2 hD
    obtain ⟨bl, capl, he, _, _⟩ := H4.out.1.form (by omega)
    cases he
    have hyl := H6.out y (List.mem_of_getElem? hy)
    obtain ⟨C2, hC2⟩ : ∃ C2, (bcells y).toArray = C2 := ⟨_, rfl⟩
    have hC2s : C2.size = 64 := by rw [← hC2]; simp [bcells, hyl]
    have hC21 : C2.all (·.oneCell') = true := by rw [← hC2]; exact all_oneCell_toArray (fun v hv => bcells_one hv)
    have hba := below_alloc w (.cells C 70)
    have e0 := (hba.cell (p := ⟨g, 0, none⟩) (blk_lt H1.out)).trans d0
    have hra : (w.alloc (.cells C 70)).rangeAt bl (k * 64) (bcells y) := World.rangeAt_alloc (Dk.at_ H4.out.1 H6.out hy) _
    have HSZ : Hid ((Try.prog.info? 70).map (·.size) = some (bcells y).length) := by
      show _ = _
      rw [bcells_length, hyl]
      exact sec_size
    have HRA := Lib.hid hra
    have hst2 := run_storeCells_new (P := Try.prog) w 70 C C2 (by rw [hC2s]; exact sec_size) (by rw [hCs, hC2s]) hC21
    have HC2 := Lib.hid hC2
    clear hC2 hra hba
    go_enter Try.func13, Try.ntmps13
    go_wp2_with fail
    refine (HI.out).mono ?_
    rintro e w1 ⟨rfl, rfl⟩
    go_wp2_with (first | (refine wpList_load_mid rfl 70 (.tmp 28) rfl bl (k * 64) rfl (bcells y) _ HRA.out Try.underlying70 rfl HSZ.out ?_; rw [HC2.out]))
    refine bodyPost_ret (results_tmp2 rfl _ _ _) rfl ?_
    have hR := Rd.lit w c HW.out 70 y (0, 0) (by omega)
    rw [HC2.out, hyl] at hR
    exact ⟨_, rfl, hR, below_alloc _ _⟩
  | some s =>
    have hss : s = s0 := by
      have h := HS0.out
      rw [hD] at h
      exact h
    subst hss
    rw [hD] at hlk2
    have hlk3 : (Instr.lookup 65 (.map (some m)) (.int .i64 (k : Int)) true).run Try.prog w = .ok (.tuple #[.agg C, .bool true]) w := hlk2
    clear hlk2 hD
    go_enter Try.func13, Try.ntmps13
    go_wp2_with fail
    refine (HI.out).mono ?_
    rintro e w1 ⟨rfl, rfl⟩
    go_wp2_with fail
    refine bodyPost_ret (results_tmp2 rfl _ _ _) rfl ?_
    have hR := Rd.lit w c HW.out 70 s (0, 0) (by omega)
    rw [HC.out, hs64] at hR
    exact ⟨_, rfl, hR, below_alloc _ _⟩

/-- What append may write behind: a row that is full, or one of the call's own. -/
def FullOr (W : World) (c : Col) (base : Nat) (A : Option Addr) (n cp : Nat) (xs : List UInt8) : Prop :=
  (cp = n ∧ Rd kU8 W c A n cp xs) ∨ W.ownsRow base 5 1 (.slice A n cp) n (bcells xs)
theorem app_fo {P : Program} {ops : Array Oper} {rest : List Oper} {o : Oper} {a : Act} {Q : Exit → Act → World → Prop} {w W : World} {c : Col} {base : Nat} (s x : Operand) (t e : TypeId) (he : e = 5) (hgd : o.guard = none)
    (ho : o.op = .call { callee := .builtin .append, args := #[s, x], argTypes := #[t, t] })
    (ht : P.underlying t = some (.slice e)) (hinfo : (P.info? e).map (fun i => (i.zero, i.size, i.bytes)) = some (some (.int .u8 0), 1, 1))
    {A B : Option Addr} {n cp m cq : Nat} (xs ys : List UInt8) (hs : a.eval s = .slice A n cp) (hx : a.eval x = .slice B m cq)
    (hbase : base ≤ W.heap.size) (HB : Below base w W) (HF : FullOr W c base A n cp xs) (HR : Rd kU8 W c B m cq ys) (hm : 0 < m) (hn : 0 < n) (hl : n + m ≤ 140737488355328)
    (h : ∀ A1 cp1 w1, Below base w w1 → w1.ownsRow base e 1 (.slice A1 (n + m) cp1) (n + m) (bcells (xs ++ ys)) → wpList P ops Q rest (a.put o.dst (.slice A1 (n + m) cp1)) w1) :
    wpList P ops Q (o :: rest) a W := by
  subst he
  rcases HF with ⟨rfl, hrd⟩ | hown
  · obtain ⟨i0, hi, hzz⟩ := Option.map_eq_some_iff.1 hinfo
    simp only [Prod.mk.injEq] at hzz
    obtain ⟨hz0, hz1, hz2⟩ := hzz
    obtain ⟨b, off, rfl⟩ := hrd.addr hn
    obtain ⟨b2, off2, rfl⟩ := HR.addr hm
    refine wpList_append_grows W hgd s x t ho 5 i0 (.int .u8 0) 1 1 ht hi hz0 hz1 hz2 rfl (by omega) (some ⟨b, off, none⟩) cp cp (bcells xs) hs (fun h => by cases h) (by rw [bcells_length, hrd.1]; omega) (fun b' e => by cases e; exact hrd.news) ⟨b2, off2, none⟩ m cq (bcells ys) hx (by rw [bcells_length, HR.1]; omega) HR.news (fun v hv => bcells_one hv) (by omega) (by simp only [maxLen]; omega) (by omega) ?_
    intro v' w' hown hg
    obtain ⟨A1, cp1, rfl⟩ := own_form hown
    exact h A1 cp1 w' (HB.grown hg hbase (fun k hk => by cases hk)) (by rw [bcells_append]; exact own_weak hown hbase)
  · refine app_bytes (c := c) s x t 5 hgd ho ht hinfo xs ys hs hx hbase hown HR hl fun A1 cp1 w1 hown1 hg hat => ?_
    exact h A1 cp1 w1 (HB.grown hg hbase (fun k hk => (hown.lt k hk).1)) hown1
end Go.Proofs.Ytalihocoekplgaa
