/- wal: the document's side: Cat, a record's first twelve bytes, so many bytes from a sector on. -/
import Derived.Test.YtalihocoekplgaaWalJ
import Derived.Test.YtalihocoekplgaaOpen
import Derived.Deep.RegionLaw
set_option linter.unusedVariables false
set_option linter.unusedSimpArgs false
namespace Go.Proofs.Ytalihocoekplgaa
open Go.RowKit

theorem flat_take {α : Type} {ls : List (List α)} {k : Nat} {x : List α} (h : ls[k]? = some x) : (ls.take (k + 1)).flatten = (ls.take k).flatten ++ x := by
  rw [take_snoc' h, List.flatten_append]
  simp
theorem flat_take_le {α : Type} (ls : List (List α)) (k : Nat) : ((ls.take k).flatten).length ≤ ls.flatten.length := by
  conv => rhs; rw [← List.take_append_drop k ls, List.flatten_append, List.length_append]
  omega
set_option maxHeartbeats 2000000 in
theorem Cat_any (w : World) (c : Col) (A : Option Addr) (n cp : Nat) (ls : List (List UInt8)) (hl : ls.flatten.length ≤ 1000000000000) (hx : Rd (kSl kU8) w c A n cp ls) :
    Calls Try.prog 61 #[.slice A n cp] w (OwnPost w ls.flatten) := by
  have hln := hx.1
  have hmx := hx.max
  have HX := Lib.hid hx
  have HL := Lib.hid hln
  have HLL := Lib.hid hl
  clear hx hln hl
  go_enter Try.func61, Try.ntmps61
  go_wp2_with fail
  go_loopw [3, 4] (fun o i wr => ∃ (k m : Nat) (A1 : Option Addr) (cp1 : Nat), i = .int .i64 (k : Int) ∧ o = .slice A1 m cp1 ∧ k ≤ n ∧ Hid (((ls.take k).flatten).length = m) ∧ Hid (wr.ownsRow w.heap.size 5 1 (.slice A1 m cp1) m (bcells (ls.take k).flatten)) ∧ Hid (Below w.heap.size w wr)) (fun _ i _ => n - (intOf i).toNat)
  case atStart => exact ⟨0, 0, none, 0, rfl, rfl, by omega, by show _ = _; simp, by show World.ownsRow _ _ _ _ _ _ _; simp; exact own_none w w _, Below.refl _ _⟩
  case round =>
    obtain ⟨k, m, A1, cp1, rfl, rfl, hk, HM, ho, hbl⟩ := hrel
    by_cases hlt : k < n
    · obtain ⟨bb, off, rfl⟩ := HX.out.addr (by omega)
      have hel := getD_at' ls [] (k := k) (by have := HL.out; omega)
      generalize ls[k]?.getD [] = x at hel
      obtain ⟨A2, m2, cq2, h0, HR⟩ := (HX.out.below hbl.out).row hel
      have HFT := Lib.hid (flat_take hel)
      have HTL : Hid (m + m2 ≤ 1000000000000) := by
        show _ ≤ _
        have h1 := flat_take_le ls (k + 1)
        rw [HFT.out, List.length_append, HM.out, HR.1] at h1
        have := HLL.out
        omega
      have hbs := hbl.out.size
      have HRR := Lib.hid HR
      have HEL := Lib.hid hel
      clear HR hel
      go_wp2_with (at_builtin; go_must (refine app_bytes (c := c) (.tmp 11) (.tmp 15) 23 5 rfl rfl Try.underlying23 u8_info (ls.take k).flatten x rfl rfl hbs ho.out HRR.out (by have := HTL.out; omega) ?_; intro A3 cp3 w3 q_ho3 q_hg3 _; have HO3 := Lib.hid q_ho3; have HB3 := Lib.hid (hbl.out.grown q_hg3 hbs (fun j hj => (ho.out.lt j hj).1)); clear q_ho3 q_hg3))
      exact ⟨⟨k + 1, m + m2, A3, cp3, by go_num, rfl, by omega, by show _ = _; rw [HFT.out, List.length_append, HM.out, HRR.out.1], by show World.ownsRow _ _ _ _ _ _ _; rw [HFT.out]; exact HO3.out, HB3.out⟩, by simp [intOf]; omega⟩
    · obtain rfl : k = n := by omega
      have HE : Hid ((ls.take k).flatten = ls.flatten) := by show _ = _; rw [List.take_of_length_le (by have := HL.out; omega)]
      go_wp2_with fail
      go_ret
      exact ⟨A1, m, cp1, rfl, by rw [← HE.out]; exact ho.out, hbl.out⟩
/-- A literal of slices reads. -/
theorem Rd.lits {α : Type} {K : Kd α} {w : World} {c : Col} (hc : Wf c w) (t : TypeId) (cells : Array Value) (xs : List (List α)) (hm : xs.length ≤ 1000000)
    (h : ∀ (j : Nat) (x : List α), xs[j]? = some x → ∃ (A : Option Addr) (n cp : Nat), cells[j]? = some (Value.slice A n cp) ∧ Rd K w c A n cp x) : Rd (kSl K) (w.alloc (.cells cells t)) c (some ⟨w.heap.size, 0, none⟩) xs.length xs.length xs := by
  refine ⟨rfl, Nat.le_refl _, by simp only [maxLen]; omega, fun hp => ⟨_, 0, rfl, by simp, hc.fresh (Nat.le_refl _), fun j x hj => ?_⟩⟩
  obtain ⟨A, n, cp, hcell, hr⟩ := h j x hj
  refine ⟨_, ⟨A, n, cp, rfl, hr.below (below_alloc _ _)⟩, fun i u hi => ?_⟩
  have hi0 : i = 0 := by
    have := (List.getElem?_eq_some_iff.1 hi).1
    simp at this
    exact this
  subst hi0
  have : 0 + (j * (kSl K).sz + 0) = j := by simp [kSl]
  rw [this, cell_of_row _ _ _ cells t (0, 0) (heap_alloc_new w _), hcell]
  exact hi
theorem run_bytes {P : Program} {W : World} {c : Col} (t ty e : TypeId) (ht : P.underlying t = some (.slice e)) (hinfo : (P.info? e).map (fun i => (i.zero, i.size, i.bytes)) = some (some (.int .u8 0), 1, 1))
    {A B : Option Addr} {n cp m cq : Nat} (xs ys : List UInt8) {b0 : Nat} (hb0 : b0 ≤ W.heap.size) (HO : W.ownsRow b0 e 1 (.slice A n cp) n (bcells xs)) (HR : Rd kU8 W c B m cq ys) (hl : n + m ≤ 140737488355328) :
    ∃ A1 cp1 w1, (Builtin.append_ #[t, t] ty #[.slice A n cp, .slice B m cq]).run P W = .ok (.slice A1 (n + m) cp1) w1 ∧ w1.ownsRow b0 e 1 (.slice A1 (n + m) cp1) (n + m) (bcells (xs ++ ys)) ∧ W.grownBy w1 (Value.slice A n cp).ownBlock := by
  obtain ⟨i0, hi, hzz⟩ := Option.map_eq_some_iff.1 hinfo
  simp only [Prod.mk.injEq] at hzz
  obtain ⟨hz0, hz1, hz2⟩ := hzz
  rcases B with _ | ad
  · have h0 : m = 0 := by
      rcases Nat.eq_zero_or_pos m with h0 | h0
      · exact h0
      · obtain ⟨b, off, e⟩ := HR.addr h0; cases e
    subst h0
    obtain rfl : ys = [] := List.eq_nil_of_length_eq_zero HR.1
    have hr : (Builtin.append_ #[t, t] ty #[.slice A n cp, .slice none 0 cq]).run P W = .ok (.slice A n cp) W := by
      rcases HO.2 with ⟨hv, hn⟩ | ⟨g, cap, cur, hv, _, _, hnc, _⟩
      · cases hv; simp [Builtin.append_, run_underlying ht, sizeOf, typeInfo, hi, Builtin.lenOf, Builtin.firstCells]
      · cases hv; simp [Builtin.append_, run_underlying ht, sizeOf, typeInfo, hi, Builtin.lenOf, Builtin.firstCells, hnc, storeCells]
    exact ⟨A, cp, W, hr, by simpa using HO, World.grownBy.refl W _⟩
  · have hnews : ∀ j u, (bcells ys)[j]? = some u → W.cell? (ad.add j) = some u := by
      intro j u hu
      have hj : j < m := by
        have := (List.getElem?_eq_some_iff.1 hu).1
        rw [bcells_length, HR.1] at this
        exact this
      obtain ⟨b, off, e⟩ := HR.addr (by omega)
      cases e
      exact HR.news j u hu
    obtain ⟨v1, w1, hr, hown, hgr, _, hat⟩ := run_append_own_at (P := P) W b0 t ty e i0 (.int .u8 0) 1 1 ht hi hz0 hz1 hz2 rfl (by omega) (.slice A n cp) n (bcells xs) HO ad m cq (bcells ys)
      (by rw [bcells_length, HR.1]; omega) hnews (by intro u hu; simp only [bcells, List.mem_map] at hu; obtain ⟨q, _, rfl⟩ := hu; rfl) (by simp only [maxLen]; omega) (by omega) hb0
    obtain ⟨A1, cp1, rfl⟩ := own_form hown
    exact ⟨A1, cp1, w1, hr, by rw [bcells_append]; exact hown, hgr⟩
section
variable {P : Program} {ops : Array Oper} {o : Oper} {a : Act} {Q : Exit → Act → World → Prop}
theorem step_bytes {W : World} {c : Col} {K : Act → World → Prop} {E : Prop} (s x : Operand) (t e : TypeId) (hgd : o.guard = none)
    (ho : o.op = .call { callee := .builtin .append, args := #[s, x], argTypes := #[t, t] })
    (ht : P.underlying t = some (.slice e)) (hinfo : (P.info? e).map (fun i => (i.zero, i.size, i.bytes)) = some (some (.int .u8 0), 1, 1))
    {A B : Option Addr} {n cp m cq : Nat} (xs ys : List UInt8) (hs : a.eval s = .slice A n cp) (hx : a.eval x = .slice B m cq)
    {b0 : Nat} (hb0 : b0 ≤ W.heap.size) (HO : W.ownsRow b0 e 1 (.slice A n cp) n (bcells xs)) (HR : Rd kU8 W c B m cq ys) (hl : n + m ≤ 140737488355328)
    (h : ∀ A1 cp1 w1, w1.ownsRow b0 e 1 (.slice A1 (n + m) cp1) (n + m) (bcells (xs ++ ys)) → W.grownBy w1 (Value.slice A n cp).ownBlock → K (a.put o.dst (.slice A1 (n + m) cp1)) w1) :
    if Region.wanted o (yielded ops a.tmps) = true then Oper.wp P o a W K Q else E := by
  have hwt : Region.wanted o (yielded ops a.tmps) = true := by simp [Region.wanted, hgd]
  rw [if_pos hwt]
  obtain ⟨A1, cp1, w1, hr, hown, hgr⟩ := run_bytes (c := c) t o.type e ht hinfo xs ys hb0 HO HR hl
  unfold Oper.wp execOp
  simp only [ho, resolve, invoke, builtin, Sem.run_bind, Sem.run_pure, Result.andThen_ok, List.map_toArray, List.map_cons, List.map_nil, hs, hx, hr]
  exact h A1 cp1 w1 hown hgr
end
theorem Rd.three {α : Type} {K : Kd α} {w : World} {c : Col} (hc : Wf c w) (t : TypeId) {A1 A2 A3 : Option Addr} {n1 n2 n3 p1 p2 p3 : Nat} {x1 x2 x3 : List α} (h1 : Rd K w c A1 n1 p1 x1) (h2 : Rd K w c A2 n2 p2 x2) (h3 : Rd K w c A3 n3 p3 x3) :
    Rd (kSl K) (w.alloc (.cells #[.slice A1 n1 p1, .slice A2 n2 p2, .slice A3 n3 p3] t)) c (some ⟨w.heap.size, 0, none⟩) 3 3 [x1, x2, x3] := by
  refine Rd.lits hc t _ [x1, x2, x3] (by simp) fun j x hj => ?_
  match j, hj with
  | 0, hj => simp at hj; subst hj; exact ⟨_, _, _, rfl, h1⟩
  | 1, hj => simp at hj; subst hj; exact ⟨_, _, _, rfl, h2⟩
  | 2, hj => simp at hj; subst hj; exact ⟨_, _, _, rfl, h3⟩
  | j + 3, hj => simp at hj
/-- A record's front. -/
def frontB (b : List UInt8) (num : Nat) : List UInt8 := numB b.length 4 ++ sumF b num
theorem frontB_len (b : List UInt8) (num : Nat) : (frontB b num).length = 12 := by
  unfold frontB
  rw [List.length_append, numB_length, sumF_len]
theorem recB_front (b : List UInt8) (num : Nat) : recB b num = frontB b num ++ b := rfl
set_option maxRecDepth 100000 in
set_option maxHeartbeats 4000000 in
theorem RFront_any (w : World) (c : Col) (A : Option Addr) (n cp : Nat) (b : List UInt8) (num : Nat) (hn : n ≤ 900000) (hnum : num ≤ 1000000) (hw : Wf c w) (hx : Rd kU8 w c A n cp b) :
    Calls Try.prog 44 #[.slice A n cp, .int .i64 (num : Int)] w (OwnPost w (frontB b num)) := by
  have hbl := hx.1
  have hnu : (num : Int) % 18446744073709551616 = (num : Int) := by omega
  have hnn : (n : Int) % 18446744073709551616 = (n : Int) := by omega
  have hlit := Rd.lit w c hw 5 recoB (4, 5) (by decide)
  have hconv := Lib.run_convert_bytes_const (P := Try.prog) w 23 5 #[.int .u8 82, .int .u8 69, .int .u8 67, .int .u8 79] 4 4 Try.underlying23 Try.underlying5
  have hb1 := below_alloc w (.cells (bcells recoB).toArray 5 (4, 5))
  have HT1 := Lib.hid (Tr.of_below (M := fun _ => False) hw hb1)
  have HB1 := Lib.hid hb1
  have HX := Lib.hid hx
  have HW := Lib.hid hw
  have HBL := Lib.hid hbl
  have HLIT := Lib.hid hlit
  clear hx hw hbl hlit
  clear hb1
  go_enter Try.func44, Try.ntmps44
  go_wp2_with fail
  refine (R1Num_good _ (num : Int) 4 (by omega) (by omega) (by omega)).mono ?_
  rintro e w2 ⟨A2, n2, cp2, rfl, q_HO2, q_HB2⟩
  have HO2 := Lib.hid q_HO2
  have HB2 := Lib.hid q_HB2
  clear q_HO2 q_HB2
  have HR2 := Lib.hid (own_rd HO2.out HT1.out.wf)
  have HT2 := Lib.hid (HT1.out.then (Tr.of_below HT1.out.wf HB2.out))
  have HX2 := Lib.hid (HX.out.tr HT2.out)
  have HL2 := Lib.hid (HLIT.out.below HB2.out)
  have h3 := Rd.three HT2.out.wf 23 HL2.out HR2.out HX2.out
  have hb3 := below_alloc w2 (.cells #[.slice (some ⟨w.heap.size, 0, none⟩) 4 4, .slice A2 n2 cp2, .slice A n cp] 23)
  have HT3 := Lib.hid (HT2.out.then (Tr.of_below (M := fun _ => False) HT2.out.wf hb3))
  have HMS : Hid (([recoB, numB (num : Int).toNat (4 : Int).toNat, b] : List (List UInt8)).flatten = recoB ++ numB num 4 ++ b) := by
    show _ = _
    simp
  have hml : (recoB ++ numB num 4 ++ b : List UInt8).length = n + 8 := by
    rw [List.length_append, List.length_append, numB_length, HBL.out]
    show 4 + 4 + n = n + 8
    omega
  have H3 := Lib.hid h3
  clear h3
  clear hb3
  go_wp2_with fail
  refine (Cat_any _ c _ 3 3 _ (by rw [HMS.out, hml]; omega) H3.out).mono ?_
  rintro e w4 ⟨A4, n4, cp4, rfl, q_HO4, q_HB4⟩
  have HO4 := Lib.hid q_HO4
  have HB4 := Lib.hid q_HB4
  clear q_HO4 q_HB4
  have hn4 : n4 = n + 8 := by
    rw [← own_len HO4.out, HMS.out]
    exact hml
  subst hn4
  have hr4 := own_rd HO4.out HT3.out.wf
  rw [HMS.out] at hr4
  have HT4 := Lib.hid (HT3.out.then (Tr.of_below HT3.out.wf HB4.out))
  have HR4 := Lib.hid hr4
  clear hr4
  obtain ⟨OO, hOO⟩ : ∃ OO, bcells (shaF (recoB ++ numB num 4 ++ b)) = OO := ⟨_, rfl⟩
  have hOl : OO.length = 32 := by rw [← hOO, bcells_length, shaF_len]
  have hO1 : ∀ v ∈ OO, v.oneCell' = true := fun v hv => bcells_one (hOO ▸ hv)
  have hS := RSum_any w4 c A4 (n + 8) cp4 _ (by omega) HT4.out.wf HR4.out
  rw [hOO] at hS
  have HS := Lib.hid hS
  have HOO := Lib.hid hOO
  clear hS hOO hml
  go_wp2_with fail
  refine (HS.out).mono ?_
  rintro e w7 ⟨rfl, q_HB7⟩
  have HB7 := Lib.hid q_HB7
  clear q_HB7
  have HT7 := Lib.hid (HT4.out.then (Tr.of_below HT4.out.wf HB7.out))
  have hst := run_storeCells_new (P := Try.prog) w7 108 #[.int .u8 0, .int .u8 0, .int .u8 0, .int .u8 0, .int .u8 0, .int .u8 0, .int .u8 0, .int .u8 0, .int .u8 0, .int .u8 0, .int .u8 0, .int .u8 0, .int .u8 0, .int .u8 0, .int .u8 0, .int .u8 0, .int .u8 0, .int .u8 0, .int .u8 0, .int .u8 0, .int .u8 0, .int .u8 0, .int .u8 0, .int .u8 0, .int .u8 0, .int .u8 0, .int .u8 0, .int .u8 0, .int .u8 0, .int .u8 0, .int .u8 0, .int .u8 0] OO.toArray (by simp only [List.size_toArray, hOl]; kernel_rfl) (by simp only [List.size_toArray, hOl]; rfl) (all_oneCell_toArray hO1)
  go_wp2_with fail
  have hb8 := below_alloc w7 (.cells OO.toArray 108)
  have hR := Rd.lit w7 c HT7.out.wf 108 (shaF (recoB ++ numB num 4 ++ b)) (0, 0) (by rw [shaF_len]; omega)
  rw [HOO.out, shaF_len] at hR
  have HT8 := Lib.hid (HT7.out.then (Tr.of_below (M := fun _ => False) HT7.out.wf hb8))
  have HR8 : Hid (Rd kU8 (w7.alloc (.cells OO.toArray 108)) c (some ⟨w7.heap.size, 0, none⟩) 8 32 (sumF b num)) := hR.take (m := 8) (by omega)
  have hh8 := blk_lt (heap_alloc_new w7 (.cells OO.toArray 108))
  clear hR hb8 hst
  generalize w7.alloc (.cells OO.toArray 108) = W8 at *
  generalize w7.heap.size = hb at *
  have huw : IntKind.u64.wrap (n : Int) = (n : Int) := hnn
  have tok1 : True := trivial
  have hT9 := (Tr.refl (fun _ => False) HT8.out.wf).drew
  go_region_held3 (fun _ => True) (trivial)
    (first
    | (go_at_call 62; have _t := tok1; refine (R1Num_good W8.drew (n : Int) 4 (by omega) (by omega) (by omega)).mono ?_; rintro e w9 ⟨A9, n9, cp9, rfl, q_ho, q_hb⟩; have HO9 := Lib.hid q_ho; have HB9 := Lib.hid q_hb; clear q_ho q_hb tok1)
    | (refine step_bytes (c := c) (.tmp 18) (.tmp 19) 23 5 rfl rfl Try.underlying23 u8_info _ (sumF b num) (by simp [Act.eval, Act.put]) (by simp [Act.eval, Act.put]) (b0 := W8.drew.heap.size) HB9.out.size HO9.out ((HR8.out.tr hT9).below HB9.out) (by have := own_len HO9.out; rw [numB_length] at this; omega) ?_; intro A1 cp1 w1 q_own q_gr; have HO1 := Lib.hid q_own; have HG1 := Lib.hid q_gr; clear q_own q_gr))
  go_wp2_with fail
  refine bodyPost_ret (results_tmp rfl _ _ _) rfl ?_
  have hbt := (HT8.out.drew.then (Tr.of_below (hT9.wf) HB9.out)).below (fun _ _ h => h)
  have hs8 : w.heap.size ≤ W8.drew.heap.size := HT8.out.size
  refine ⟨A1, _, cp1, rfl, ?_, hbt.grown HG1.out hbt.size (fun k hk => by have := (HO9.out.lt k hk).1; omega)⟩
  have ho := own_weak HO1.out hs8
  unfold frontB
  rw [HBL.out]
  exact ho

def bytesF (Z : List (List UInt8)) (at_ m : Nat) : List UInt8 := if m ≤ (Z.length - at_) * 64 then ((Z.drop at_).flatten).take m else []
theorem take_flN {Z : List (List UInt8)} (hz : ∀ s ∈ Z, s.length = 64) (at_ j m : Nat) (hj : at_ + j ≤ Z.length) (hm : m ≤ 64 * j) : (flN Z at_ j).take m = ((Z.drop at_).flatten).take m := by
  have hl := flN_len hz at_ j hj
  have e : (Z.drop at_).flatten = flN Z at_ j ++ ((Z.drop at_).drop j).flatten := by
    unfold flN
    rw [← List.flatten_append, List.take_append_drop]
  rw [e, List.take_append_of_le_length (by omega)]
theorem flN_zero (Z : List (List UInt8)) (at_ : Nat) : flN Z at_ 0 = [] := by simp [flN]
def isZ (R : List RSec) : List (List UInt8) := R.map (fun x => x.is)
theorem isZ_len (R : List RSec) : (isZ R).length = R.length := by simp [isZ]
theorem isZ_get {R : List RSec} {k : Nat} {x : RSec} (h : R[k]? = some x) : (isZ R)[k]? = some x.is := by
  unfold isZ
  rw [List.getElem?_map, h]
  rfl
theorem isZ_rel (Y : List (List UInt8)) (D : Dt) : isZ (relR Y D) = syncY Y D := by
  apply List.ext_getElem?
  intro i
  unfold isZ
  rw [List.getElem?_map, relR_get, syncY_get, Option.map_map]
  rfl
theorem RDk.facts {w : World} {c : Col} {g n : Nat} {R : List RSec} (h : RDk w c g n R) : R.length = n ∧ ROk R ∧ n ≤ 4096 := by
  obtain ⟨_, _, _, _, _, h1, h2, h3⟩ := h
  exact ⟨h1, h2, h3⟩
set_option maxRecDepth 100000 in
set_option maxHeartbeats 4000000 in
theorem RBytes_any (w : World) (c : Col) (g n : Nat) (R : List RSec) (at_ m : Nat) (hat : at_ ≤ n) (hm : m ≤ 100000) (hw : Wf c w) (h : RDk w c g n R) :
    Calls Try.prog 43 #[.pointer (some ⟨g, 0, none⟩), .int .i64 (at_ : Int), .int .i64 (m : Int)] w (BytesPost w c (bytesF (isZ R) at_ m)) := by
  obtain ⟨f1, f2, f3⟩ := h.facts
  obtain ⟨Z, hZ⟩ : ∃ Z, isZ R = Z := ⟨_, rfl⟩
  have hZl : Z.length = n := by rw [← hZ, isZ_len, f1]
  have hZ64 : ∀ s ∈ Z, s.length = 64 := by
    intro s hs
    rw [← hZ] at hs
    unfold isZ at hs
    obtain ⟨x, hx, rfl⟩ := List.mem_map.1 hs
    exact (f2 x hx).1
  have hgl := h.lt
  have hcell0 : ∃ A cp, w.cell? ⟨g, 0, none⟩ = some (.slice A n cp) := by
    obtain ⟨_, A, cp, h1, _⟩ := h
    exact ⟨A, cp, blk_cell0 h1⟩
  obtain ⟨A, cp, d0⟩ := hcell0
  obtain ⟨room, hroom⟩ : ∃ room : Nat, room = n - at_ := ⟨_, rfl⟩
  obtain ⟨room64, hr64⟩ : ∃ r : Nat, r = room * 64 := ⟨_, rfl⟩
  have hw1 : IntKind.i64.wrap ((n : Int) - (at_ : Int)) = (room : Int) := i64_id (by omega) (by omega)
  have hw2 : IntKind.i64.wrap ((room : Int) * 64) = (room64 : Int) := i64_id (by omega) (by omega)
  obtain ⟨out, hout⟩ : ∃ out, bytesF Z at_ m = out := ⟨_, rfl⟩
  rw [hZ, hout]
  by_cases hb : m ≤ room64
  case neg =>
    have hb1 : (room64 : Int) < (m : Int) := by omega
    have ho : out = [] := by
      rw [← hout]
      unfold bytesF
      rw [if_neg (by rw [hZl]; omega)]
    subst ho
    clear hZ64 hZ hout f2 hroom hr64
    go_enter Try.func43, Try.ntmps43
    go_wp2_with fail
    refine bodyPost_ret (results_tmp rfl _ _ _) rfl ?_
    exact ⟨none, 0, 0, rfl, Rd.nil _ _ _, Below.refl _ _⟩
  have hb1 : ¬ (room64 : Int) < (m : Int) := by omega
  have ho : ∀ j, at_ + j ≤ n → m ≤ 64 * j → (flN Z at_ j).take m = out := by
    intro j hj hmj
    rw [← hout]
    unfold bytesF
    rw [if_pos (by rw [hZl]; omega), take_flN hZ64 at_ j m (by omega) hmj]
  have HZ := Lib.hid hZ
  have HZL := Lib.hid hZl
  have HZ64 := Lib.hid hZ64
  have HO1 := Lib.hid ho
  have HOUT := Lib.hid hout
  have HROOM := Lib.hid hroom
  have HR64 := Lib.hid hr64
  have HW := Lib.hid hw
  have HD := Lib.hid h
  clear hZ hZl hZ64 ho hout hroom hr64 hw h
  clear f2
  go_enter Try.func43, Try.ntmps43
  go_wp2_with fail
  go_loopw [1, 7] (fun i o wr => ∃ (j k2 len cp2 : Nat) (A2 : Option Addr), i = .int .i64 (k2 : Int) ∧ o = .slice A2 len cp2 ∧ Hid (k2 = at_ + j) ∧ Hid (len = 64 * j) ∧ at_ + j ≤ n ∧ Hid (wr.ownsRow w.heap.size 5 1 (.slice A2 len cp2) len (bcells (flN Z at_ j))) ∧ Hid (Below w.heap.size w wr)) (fun i _ _ => n - (intOf i).toNat)
  case atStart => exact ⟨0, at_, 0, 0, none, rfl, rfl, rfl, rfl, hat, by show World.ownsRow _ _ _ _ _ _ _; rw [flN_zero]; exact own_none w w _, Below.refl _ _⟩
  case round =>
    obtain ⟨j, k2, len, cp2, A2, rfl, rfl, HK, HL, hjn, HO, HB⟩ := hrel
    by_cases hlt : len < m
    · have hlt1 : (len : Int) < (m : Int) := by omega
      have hk2n : k2 < n := by
        have a1 := HK.out
        have a2 := HL.out
        have a3 := HROOM.out
        have a4 := HR64.out
        omega
      have hdr := HD.out.tr (Tr.of_below (M := fun _ => False) HW.out HB.out) (fun h => h)
      obtain ⟨bl, cpl, x, hb1, hx, hx64, hris, _, _, hbl, _, hgbl⟩ := hdr.cells hk2n
      have hc0 := blk_cell0 hb1
      have hRs : Rd kU8 wr (fun _ => none) (some ⟨bl, k2 * 129, none⟩) 64 64 x.is := Rd.ofRange hris hbl hx64.1 (Nat.le_refl _) (by simp [maxLen])
      have HRS := Lib.hid hRs
      have hzx : Z[at_ + j]? = some x.is := by
        rw [← HZ.out, ← HK.out]
        exact isZ_get hx
      have HFS := Lib.hid (flN_succ hzx)
      have hk0 : (0 : Int) ≤ (k2 : Int) := by omega
      have hk1 : (k2 : Int) < (n : Int) := by omega
      obtain ⟨k3, hk3⟩ : ∃ k3 : Nat, k3 = k2 + 1 := ⟨_, rfl⟩
      have hw3 : IntKind.i64.wrap ((k2 : Int) + 1) = (k3 : Int) := by rw [hk3]; exact wrap_succ k2 (by omega)
      have hbs := HB.out.size
      have hlb : len ≤ 300000 := by omega
      have HK3 := Lib.hid hk3
      clear hk3
      clear hdr hb1 hris hRs hzx hx
      go_wp2_with (at_builtin; go_must (refine app_bytes (c := fun _ => none) (.tmp 24) (.tmp 32) 23 5 rfl rfl Try.underlying23 u8_info (flN Z at_ j) x.is rfl rfl hbs HO.out HRS.out (by omega) ?_; intro A3 cp3 w3 q_ho3 q_hg3 _; have HO3 := Lib.hid q_ho3; have HB3 := Lib.hid (HB.out.grown q_hg3 hbs (fun j hj => (HO.out.lt j hj).1)); clear q_ho3 q_hg3))
      have e1 := HK.out
      have e2 := HK3.out
      have e3 := HL.out
      exact ⟨⟨j + 1, k3, len + 64, cp3, A3, rfl, rfl, by show _ = _; omega, by show _ = _; omega, by omega, by show World.ownsRow _ _ _ _ _ _ _; rw [HFS.out]; exact HO3.out, HB3.out⟩, by simp [intOf]; omega⟩
    · have hlt1 : ¬ (len : Int) < (m : Int) := by omega
      have hr := own_rd HO.out HW.out
      have hlc : len ≤ cp2 := hr.2.1
      have hr2 := hr.take (m := m) (by omega)
      rw [HO1.out j hjn (by have := HL.out; omega)] at hr2
      have h0 : (0 : Int) ≤ (m : Int) := by omega
      have h1 : (m : Int) ≤ (cp2 : Int) := by omega
      have HR1 := Lib.hid hr
      have HR2 := Lib.hid hr2
      clear hr hr2
      go_wp2_with fail
      refine bodyPost_ret (results_tmp rfl _ _ _) rfl ?_
      exact ⟨_, _, _, rfl, HR2.out, HB.out⟩
end Go.Proofs.Ytalihocoekplgaa
