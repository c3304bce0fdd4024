/- sha: the document's Sum. -/
import Derived.Test.YtalihocoekplgaaShaI
import Derived.Test.YtalihocoekplgaaShaE
set_option linter.unusedVariables false
set_option linter.unusedSimpArgs false
namespace Go.Proofs.Ytalihocoekplgaa
open Go.RowKit

theorem src_top {w : World} {c : Col} {A : Option Addr} {n cp : Nat} {xs : List UInt8} (h : Rd kU8 w c A n cp xs) : Src w w.heap.size w.heap.size A n cp xs := by
  refine ⟨h.1, h.2.1, h.2.2.1, fun hn => ?_⟩
  obtain ⟨b, off, e, hb, hcb, _⟩ := h.2.2.2 hn
  subst e
  refine ⟨b, off, rfl, hb, fun e => by omega, fun j v hv => ?_⟩
  have := h.news j v hv
  rwa [addr_add] at this
theorem Src.up {w : World} {S S' : Nat} {A : Option Addr} {n cp : Nat} {xs : List UInt8} (h : Src w S S A n cp xs) (hS : S ≤ S') : Src w S' S' A n cp xs := by
  obtain ⟨h1, h2, h3, h4⟩ := h
  refine ⟨h1, h2, h3, fun hn => ?_⟩
  obtain ⟨bb, off, e, hb, ho, hr⟩ := h4 hn
  exact ⟨bb, off, e, by omega, fun e => by omega, hr⟩
theorem outB_get : ∀ (F : List Int) (q : Nat) (x : Int), F[q]? = some x → ∀ r, r < 4 → (outB F)[4 * q + r]? = (out4 x)[r]?
  | [], q, x, h, _, _ => by simp at h
  | z :: F, 0, x, h, r, hr => by
    simp at h
    subst h
    unfold outB
    rw [List.flatMap_cons, Nat.mul_zero, Nat.zero_add, List.getElem?_append_left (by show r < 4; exact hr)]
  | z :: F, q + 1, x, h, r, hr => by
    have ih := outB_get F q x (by simpa using h) r hr
    have hl : (out4 z).length = 4 := rfl
    unfold outB at ih ⊢
    rw [List.flatMap_cons, List.getElem?_append_right (by rw [hl]; omega), hl, ← ih]
    congr 1
    omega
theorem fillB {O : List UInt8} {t : Nat} {b : UInt8} (hl : O.length = 32) (h : O[t]? = some b) : (bcells (O.take t ++ List.replicate (32 - t) 0)).set t (.int .u8 (b.toNat : Int)) = bcells (O.take (t + 1) ++ List.replicate (32 - (t + 1)) 0) := by
  have ht := (List.getElem?_eq_some_iff.1 h).1
  have htl : (O.take t).length = t := by rw [List.length_take]; omega
  have e : List.replicate (32 - t) (0 : UInt8) = 0 :: List.replicate (32 - (t + 1)) 0 := by
    rw [show 32 - t = (32 - (t + 1)) + 1 by omega, List.replicate_succ]
  rw [e, take_snoc' h, bcells_append, List.set_append_right _ _ (by rw [bcells_length, htl]; exact Nat.le_refl _), bcells_length, htl, Nat.sub_self, List.append_assoc, bcells_append]
  rfl
theorem out_step {wr : World} {ob t q : Nat} {F : List Int} {x : Int} {T : TypeId} (hc : wr.heap[ob]? = some (.cells (bcells ((outB F).take t ++ List.replicate (32 - t) 0)).toArray T (0, 0))) (hl : (outB F).length = 32) (hx : F[q]? = some x) (r : Nat) (hr : r < 4) (ht : 4 * q + r = t) (v : Int) (hv : (out4 x)[r]? = some (ofI v)) (hvv : ((ofI v).toNat : Int) = v) :
    (wr.setCell ⟨ob, t, none⟩ (.int .u8 v)).heap[ob]? = some (.cells (bcells ((outB F).take (t + 1) ++ List.replicate (32 - (t + 1)) 0)).toArray T (0, 0)) := by
  have h1 := outB_get F q x hx r hr
  rw [ht, hv] at h1
  have h2 := fillB hl h1
  have h3 := blk_set hc t (.int .u8 ((ofI v).toNat : Int))
  rw [setIf_list, h2, hvv] at h3
  exact h3
theorem and3 (i : Nat) (h : i < 32) : bits .and .i64 (i : Int) 3 = ((i % 4 : Nat) : Int) := by
  have hh : ∀ i : Fin 32, bits .and .i64 ((i.val : Nat) : Int) 3 = ((i.val % 4 : Nat) : Int) := by decide
  exact hh ⟨i, h⟩
set_option maxRecDepth 100000 in
set_option maxHeartbeats 8000000 in
theorem RSum_any (w : World) (c : Col) (A : Option Addr) (n cp : Nat) (xs : List UInt8) (hn : n ≤ 1000000) (hw : Wf c w) (hx : Rd kU8 w c A n cp xs) :
    Calls Try.prog 60 #[.slice A n cp] w fun e w' => e = .returned (.agg (bcells (shaF xs)).toArray) ∧ Below w.heap.size w w' := by
  obtain ⟨F, hF⟩ : ∃ F, foldB hTab (xs ++ endB xs.length) = F := ⟨_, rfl⟩
  have hFl : F.length = 8 := by rw [← hF]; exact foldB_len _ _ hTab_len
  obtain ⟨OO, hOO⟩ : ∃ OO, bcells (outB F) = OO := ⟨_, rfl⟩
  have hOl : OO.length = 32 := by rw [← hOO, bcells_length, outB_len, hFl]
  have hO1 : OO.toArray.all (·.oneCell') = true := all_oneCell_toArray (fun v hv => bcells_one (hOO ▸ hv))
  have hsh : bcells (shaF xs) = OO := by unfold shaF; rw [hF, hOO]
  rw [hsh]
  have hxl := hx.1
  have HOO := Lib.hid hOO
  have HF := Lib.hid hF
  have HO1 := Lib.hid hO1
  have HW := Lib.hid hw
  have HX := Lib.hid hx
  have HXL := Lib.hid hxl
  clear hOO hF hO1 hw hx hxl
  clear hsh
  have hob := heap_alloc_new w (.cells #[.int .u8 0, .int .u8 0, .int .u8 0, .int .u8 0, .int .u8 0, .int .u8 0, .int .u8 0, .int .u8 0, .int .u8 0, .int .u8 0, .int .u8 0, .int .u8 0, .int .u8 0, .int .u8 0, .int .u8 0, .int .u8 0, .int .u8 0, .int .u8 0, .int .u8 0, .int .u8 0, .int .u8 0, .int .u8 0, .int .u8 0, .int .u8 0, .int .u8 0, .int .u8 0, .int .u8 0, .int .u8 0, .int .u8 0, .int .u8 0, .int .u8 0, .int .u8 0] 108)
  have hb0 := below_alloc w (.cells #[.int .u8 0, .int .u8 0, .int .u8 0, .int .u8 0, .int .u8 0, .int .u8 0, .int .u8 0, .int .u8 0, .int .u8 0, .int .u8 0, .int .u8 0, .int .u8 0, .int .u8 0, .int .u8 0, .int .u8 0, .int .u8 0, .int .u8 0, .int .u8 0, .int .u8 0, .int .u8 0, .int .u8 0, .int .u8 0, .int .u8 0, .int .u8 0, .int .u8 0, .int .u8 0, .int .u8 0, .int .u8 0, .int .u8 0, .int .u8 0, .int .u8 0, .int .u8 0] 108)
  have hs0 : (w.alloc (.cells #[.int .u8 0, .int .u8 0, .int .u8 0, .int .u8 0, .int .u8 0, .int .u8 0, .int .u8 0, .int .u8 0, .int .u8 0, .int .u8 0, .int .u8 0, .int .u8 0, .int .u8 0, .int .u8 0, .int .u8 0, .int .u8 0, .int .u8 0, .int .u8 0, .int .u8 0, .int .u8 0, .int .u8 0, .int .u8 0, .int .u8 0, .int .u8 0, .int .u8 0, .int .u8 0, .int .u8 0, .int .u8 0, .int .u8 0, .int .u8 0, .int .u8 0, .int .u8 0] 108)).heap.size = w.heap.size + 1 := by simp
  have hoe := own_empty (w.alloc (.cells #[.int .u8 0, .int .u8 0, .int .u8 0, .int .u8 0, .int .u8 0, .int .u8 0, .int .u8 0, .int .u8 0, .int .u8 0, .int .u8 0, .int .u8 0, .int .u8 0, .int .u8 0, .int .u8 0, .int .u8 0, .int .u8 0, .int .u8 0, .int .u8 0, .int .u8 0, .int .u8 0, .int .u8 0, .int .u8 0, .int .u8 0, .int .u8 0, .int .u8 0, .int .u8 0, .int .u8 0, .int .u8 0, .int .u8 0, .int .u8 0, .int .u8 0, .int .u8 0] 108)) (w.alloc (.cells #[.int .u8 0, .int .u8 0, .int .u8 0, .int .u8 0, .int .u8 0, .int .u8 0, .int .u8 0, .int .u8 0, .int .u8 0, .int .u8 0, .int .u8 0, .int .u8 0, .int .u8 0, .int .u8 0, .int .u8 0, .int .u8 0, .int .u8 0, .int .u8 0, .int .u8 0, .int .u8 0, .int .u8 0, .int .u8 0, .int .u8 0, .int .u8 0, .int .u8 0, .int .u8 0, .int .u8 0, .int .u8 0, .int .u8 0, .int .u8 0, .int .u8 0, .int .u8 0] 108)) 5 (Nat.le_refl _)
  have hoe2 : ((w.alloc (.cells #[.int .u8 0, .int .u8 0, .int .u8 0, .int .u8 0, .int .u8 0, .int .u8 0, .int .u8 0, .int .u8 0, .int .u8 0, .int .u8 0, .int .u8 0, .int .u8 0, .int .u8 0, .int .u8 0, .int .u8 0, .int .u8 0, .int .u8 0, .int .u8 0, .int .u8 0, .int .u8 0, .int .u8 0, .int .u8 0, .int .u8 0, .int .u8 0, .int .u8 0, .int .u8 0, .int .u8 0, .int .u8 0, .int .u8 0, .int .u8 0, .int .u8 0, .int .u8 0] 108)).alloc (.cells #[] 5)).ownsRow (w.alloc (.cells #[.int .u8 0, .int .u8 0, .int .u8 0, .int .u8 0, .int .u8 0, .int .u8 0, .int .u8 0, .int .u8 0, .int .u8 0, .int .u8 0, .int .u8 0, .int .u8 0, .int .u8 0, .int .u8 0, .int .u8 0, .int .u8 0, .int .u8 0, .int .u8 0, .int .u8 0, .int .u8 0, .int .u8 0, .int .u8 0, .int .u8 0, .int .u8 0, .int .u8 0, .int .u8 0, .int .u8 0, .int .u8 0, .int .u8 0, .int .u8 0, .int .u8 0, .int .u8 0] 108)).heap.size 5 1 (.slice (some ⟨w.heap.size + 1, 0, none⟩) 0 0) 0 (bcells []) := by
    rw [← hs0]
    exact hoe
  have hxz := (HX.out.below hb0).below (below_alloc (w.alloc (.cells #[.int .u8 0, .int .u8 0, .int .u8 0, .int .u8 0, .int .u8 0, .int .u8 0, .int .u8 0, .int .u8 0, .int .u8 0, .int .u8 0, .int .u8 0, .int .u8 0, .int .u8 0, .int .u8 0, .int .u8 0, .int .u8 0, .int .u8 0, .int .u8 0, .int .u8 0, .int .u8 0, .int .u8 0, .int .u8 0, .int .u8 0, .int .u8 0, .int .u8 0, .int .u8 0, .int .u8 0, .int .u8 0, .int .u8 0, .int .u8 0, .int .u8 0, .int .u8 0] 108)) (.cells #[] 5))
  have hbz := below_alloc (w.alloc (.cells #[.int .u8 0, .int .u8 0, .int .u8 0, .int .u8 0, .int .u8 0, .int .u8 0, .int .u8 0, .int .u8 0, .int .u8 0, .int .u8 0, .int .u8 0, .int .u8 0, .int .u8 0, .int .u8 0, .int .u8 0, .int .u8 0, .int .u8 0, .int .u8 0, .int .u8 0, .int .u8 0, .int .u8 0, .int .u8 0, .int .u8 0, .int .u8 0, .int .u8 0, .int .u8 0, .int .u8 0, .int .u8 0, .int .u8 0, .int .u8 0, .int .u8 0, .int .u8 0] 108)) (.cells #[] 5)
  have HOB := Lib.hid hob
  have HB0 := Lib.hid hb0
  have HOE := Lib.hid hoe2
  have HXZ := Lib.hid hxz
  have HBZ := Lib.hid hbz
  have HS0 := Lib.hid hs0
  clear hob hb0 hoe2 hxz hbz hs0
  clear hoe
  have tok1 : True := trivial
  go_enter Try.func60, Try.ntmps60
  go_wp2_with (first
    | (at_builtin; have _t := tok1; go_must (refine app_bytes_new (w0 := w.alloc (.cells #[.int .u8 0, .int .u8 0, .int .u8 0, .int .u8 0, .int .u8 0, .int .u8 0, .int .u8 0, .int .u8 0, .int .u8 0, .int .u8 0, .int .u8 0, .int .u8 0, .int .u8 0, .int .u8 0, .int .u8 0, .int .u8 0, .int .u8 0, .int .u8 0, .int .u8 0, .int .u8 0, .int .u8 0, .int .u8 0, .int .u8 0, .int .u8 0, .int .u8 0, .int .u8 0, .int .u8 0, .int .u8 0, .int .u8 0, .int .u8 0, .int .u8 0, .int .u8 0] 108)) (c := c) (.tmp 10) (.tmp 11) 23 5 rfl rfl Try.underlying23 u8_info [] xs rfl rfl HBZ.out HOE.out HXZ.out (by omega) ?_; intro A1 cp1 w1 q_hb1 q_hr1 q_hown1 hs1; clear q_hr1; simp only [Nat.zero_add, List.nil_append] at q_hown1 ⊢; have HB1 := Lib.hid q_hb1; have HO1 := Lib.hid q_hown1; clear q_hb1 q_hown1 tok1))
    | (at_builtin; go_must (refine app_one_own (w := w.alloc (.cells #[.int .u8 0, .int .u8 0, .int .u8 0, .int .u8 0, .int .u8 0, .int .u8 0, .int .u8 0, .int .u8 0, .int .u8 0, .int .u8 0, .int .u8 0, .int .u8 0, .int .u8 0, .int .u8 0, .int .u8 0, .int .u8 0, .int .u8 0, .int .u8 0, .int .u8 0, .int .u8 0, .int .u8 0, .int .u8 0, .int .u8 0, .int .u8 0, .int .u8 0, .int .u8 0, .int .u8 0, .int .u8 0, .int .u8 0, .int .u8 0, .int .u8 0, .int .u8 0] 108)) (base := (w.alloc (.cells #[.int .u8 0, .int .u8 0, .int .u8 0, .int .u8 0, .int .u8 0, .int .u8 0, .int .u8 0, .int .u8 0, .int .u8 0, .int .u8 0, .int .u8 0, .int .u8 0, .int .u8 0, .int .u8 0, .int .u8 0, .int .u8 0, .int .u8 0, .int .u8 0, .int .u8 0, .int .u8 0, .int .u8 0, .int .u8 0, .int .u8 0, .int .u8 0, .int .u8 0, .int .u8 0, .int .u8 0, .int .u8 0, .int .u8 0, .int .u8 0, .int .u8 0, .int .u8 0] 108)).heap.size) (.tmp 12) (.tmp 13) 23 5 (.int .u8 0) 1 1 rfl rfl Try.underlying23 u8_info rfl (by decide) (by decide) (bcells xs) _ rfl rfl rfl (one_cell rfl) HB1.out.size HB1.out HO1.out (by omega) ?_); intro A2 cp2 w2 q_hb2 q_hown2 hs2; have HB2 := Lib.hid q_hb2; have HO2 := Lib.hid q_hown2; clear q_hb2 q_hown2))
  generalize w.alloc (.cells #[.int .u8 0, .int .u8 0, .int .u8 0, .int .u8 0, .int .u8 0, .int .u8 0, .int .u8 0, .int .u8 0, .int .u8 0, .int .u8 0, .int .u8 0, .int .u8 0, .int .u8 0, .int .u8 0, .int .u8 0, .int .u8 0, .int .u8 0, .int .u8 0, .int .u8 0, .int .u8 0, .int .u8 0, .int .u8 0, .int .u8 0, .int .u8 0, .int .u8 0, .int .u8 0, .int .u8 0, .int .u8 0, .int .u8 0, .int .u8 0, .int .u8 0, .int .u8 0] 108) = wz at *
  have hK := padK_le n
  have hlow : ∀ j, j < padK n → (n + 1 + j) % 64 ≠ 56 := fun j hj => padK_lt n j hj
  have hhi := padK_eq n
  obtain ⟨K, hKK⟩ : ∃ K, padK n = K := ⟨_, rfl⟩
  rw [hKK] at hK hlow hhi
  have HKK := Lib.hid hKK
  have HLOW := Lib.hid hlow
  have HHI := Lib.hid hhi
  clear hlow hKK hhi HBZ HOE HXZ HB1 HO1
  have hst0 : Hid (w2.ownsRow wz.heap.size 5 1 (.slice A2 (n + 1) cp2) (n + 1) (bcells (xs ++ 128 :: List.replicate 0 0))) := by
    show World.ownsRow _ _ _ _ _ _ _
    rw [bcells_append]
    exact HO2.out
  go_loopw [3] (fun o wr => ∃ (j : Nat) (A : Option Addr) (cp : Nat), o = .slice A (n + 1 + j) cp ∧ j ≤ K ∧ Hid (Below wz.heap.size wz wr) ∧ Hid (wr.ownsRow wz.heap.size 5 1 (.slice A (n + 1 + j) cp) (n + 1 + j) (bcells (xs ++ 128 :: List.replicate j 0)))) (fun o _ => 1000100 - lenV o)
  case atStart => exact ⟨0, A2, cp2, rfl, Nat.zero_le _, HB2, hst0⟩
  case round =>
    obtain ⟨j, A, cp, rfl, hj, HBJ, HOJ⟩ := hrel
    have hsj := HBJ.out.size
    rcases Nat.lt_or_ge j K with hlt | hge
    · have hne : ¬ (((n : Int) + 1 + (j : Int)) % 64 = 56) := by
        have := HLOW.out j hlt
        omega
      go_wp2_with (at_builtin; go_must (refine app_one_own (base := wz.heap.size) (.tmp 19) (.tmp 20) 23 5 (.int .u8 0) 1 1 rfl rfl Try.underlying23 u8_info rfl (by decide) (by decide) (bcells (xs ++ 128 :: List.replicate j 0)) _ rfl rfl rfl (one_cell rfl) hsj HBJ.out HOJ.out (by omega) ?_); intro A1 cp1 w3 hb3 hown3 hs3)
      have HB3 := Lib.hid hb3
      have HO3 := Lib.hid hown3
      clear hb3 hown3
      refine ⟨⟨j + 1, A1, cp1, rfl, hlt, HB3.out, ?_⟩, by rw [lenV_slice, lenV_slice]; omega⟩
      have h := HO3.out
      rw [show xs ++ (128 :: List.replicate (j + 1) (0 : UInt8)) = (xs ++ 128 :: List.replicate j 0) ++ [0] by rw [List.replicate_succ', List.append_assoc, List.cons_append], bcells_append]
      exact h
    · have hjK : j = K := by omega
      have heq : ((n : Int) + 1 + (j : Int)) % 64 = 56 := by
        have := HHI.out
        omega
      have hjb : j ≤ 63 := by omega
      obtain ⟨P0, hP0⟩ : ∃ P0, (xs ++ 128 :: List.replicate j (0 : UInt8)) = P0 := ⟨_, rfl⟩
      rw [hP0] at HOJ
      have hP0l : P0.length = n + 1 + j := by rw [← hP0, List.length_append, HXL.out]; simp; omega
      have HP0 := Lib.hid hP0
      have HJK := Lib.hid hjK
      clear hP0 hjK hge hj hK
      go_wp2_with fail
      go_loopw [3, 5] (fun o i wq => ∃ (k m : Nat) (q : List UInt8) (A : Option Addr) (cp : Nat), i = .int .i64 ((k : Int) - 1) ∧ k ≤ 8 ∧ o = .slice A m cp ∧ m + k = n + j + 9 ∧ Hid (q.length = m) ∧ Hid (q ++ numB (n * 8) k = P0 ++ numB (n * 8) 8) ∧ Hid (Below wz.heap.size wz wq) ∧ Hid (wq.ownsRow wz.heap.size 5 1 (.slice A m cp) m (bcells q))) (fun _ i _ => (intOf i + 1).toNat)
      case atStart => exact ⟨8, n + 1 + j, P0, A, cp, rfl, by omega, rfl, by omega, hP0l, rfl, HBJ, HOJ⟩
      case round =>
        obtain ⟨k, m, q, A, cp, rfl, hk8, rfl, hmk, HQL, HQN, HBQ, HOQ⟩ := hrel
        have hsq := HBQ.out.size
        rcases Nat.eq_zero_or_pos k with h0 | h0
        · have hkn : ¬ ((1 : Int) ≤ (k : Int)) := by omega
          have hkn2 : ¬ ((0 : Int) ≤ (k : Int) - 1) := by omega
          have hmj : m = n + j + 9 := by omega
          have hqe : q = xs ++ endB n := by
            have h := HQN.out
            rw [h0] at h
            simp only [numB, List.append_nil] at h
            rw [h, ← HP0.out, HJK.out, ← HKK.out, List.append_assoc]
            rfl
          have hm64 : m % 64 = 0 := by
            have := HHI.out
            have := HJK.out
            omega
          obtain ⟨B, hB⟩ : ∃ B, m = 64 * B := ⟨m / 64, by omega⟩
          have hml : q.length = m := HQL.out
          have hF2 : foldN B hTab q = F := by
            have h := HF.out
            rw [HXL.out, ← hqe] at h
            unfold foldB at h
            rw [hml] at h
            rw [show m / 64 = B by omega] at h
            exact h
          obtain ⟨hb, hhb⟩ : ∃ hb, wr.heap.size = hb := ⟨_, rfl⟩
          obtain ⟨A2', cp2', he, hrd⟩ := Rd.of_own_bytes (c := fun _ => none) HOQ.out (fun _ _ => rfl)
          cases he
          have hsr := src_top hrd
          rw [hhb] at hsr
          obtain ⟨TV, hTV⟩ : ∃ TV, ucells hTab = TV := ⟨_, rfl⟩
          have hTVl : TV.length = 8 := by rw [← hTV]; rfl
          have hst := run_storeCells_new (P := Try.prog) wr 120 #[.int .u32 0, .int .u32 0, .int .u32 0, .int .u32 0, .int .u32 0, .int .u32 0, .int .u32 0, .int .u32 0] TV.toArray (by simp only [List.size_toArray, hTVl]; kernel_rfl) (by simp only [List.size_toArray, hTVl]; rfl) (all_oneCell_toArray (fun v hv => ucells_one (hTV ▸ hv)))
          have HTV := Lib.hid hTV
          have HQE := Lib.hid hqe
          have HF2 := Lib.hid hF2
          have HML := Lib.hid hml
          have HSR := Lib.hid hsr
          clear hqe hF2 hml hsr
          have HBW := Lib.hid HBQ.out
          have hm100 : m ≤ 1000100 := by omega
          have HHB := Lib.hid hhb
          have HBB := Lib.hid hB
          have hzb0 : wz.heap.size ≤ hb := by omega
          clear hB hhb hTV HQN hmj hm64 h0 hrd HOQ HQL hk8 hmk
          go_wp2_with (first | (refine wpList_buildC rfl 120 _ rfl TV.toArray (by rw [← HTV.out]; kernel_rfl) ?_))
          have hw6 := heap_alloc_new wr (.cells TV.toArray 120)
          have hb6 := below_alloc wr (.cells TV.toArray 120)
          rw [HHB.out] at hw6 hb6 ⊢
          have HSR6 : Hid (Src (wr.alloc (.cells TV.toArray 120)) hb hb A m cp q) := HSR.out.keep2 (Nat.le_refl _) (fun b h1 => hb6.block b h1)
          have HH6 : Hid ((wr.alloc (.cells TV.toArray 120)).heap[hb]? = some (.cells (ucells (foldN 0 hTab q)).toArray 120 (0, 0))) := by
            show _ = _
            rw [show foldN 0 hTab q = hTab from rfl, HTV.out]
            exact hw6
          have HBW6 : Hid (Below wz.heap.size wz (wr.alloc (.cells TV.toArray 120))) := below_then HBW.out (by rw [HHB.out]; exact hb6)
          clear hw6 hb6
          generalize wr.alloc (.cells TV.toArray 120) = w6 at *
          have HG6 : Hid (w6.grownBy w6 (some hb)) := World.grownBy.refl w6 _
          go_loopw [7] (fun i wq => ∃ (t : Nat), i = .int .i64 (64 * (t : Int)) ∧ t ≤ B ∧ Hid (w6.grownBy wq (some hb)) ∧ Hid (wq.heap[hb]? = some (.cells (ucells (foldN t hTab q)).toArray 120 (0, 0)))) (fun i _ => 64 * B - (intOf i).toNat)
          case atStart => exact ⟨0, rfl, by omega, HG6, HH6⟩
          case round =>
            obtain ⟨t, rfl, ht, HGT, HHT⟩ := hrel
            have hs6 := HGT.out.size
            have hl6 := blk_lt HH6.out
            rcases Nat.lt_or_ge t B with hlt | hge
            · have hi1 : 64 * (t : Int) < (m : Int) := by have := HBB.out; omega
              have hat : 64 * t + 64 ≤ m := by have := HBB.out; omega
              obtain ⟨G, hG⟩ : ∃ G, foldN t hTab q = G := ⟨_, rfl⟩
              have hGl : G.length = 8 := by rw [← hG, foldN_len]; rfl
              rw [hG] at HHT
              obtain ⟨GV, hGV⟩ : ∃ GV, ucells G = GV := ⟨_, rfl⟩
              have hGVl : GV.length = 8 := by rw [← hGV, ucells_len, hGl]
              obtain ⟨NV, hNV⟩ : ∃ NV, ucells (blk G (q.drop (64 * t))) = NV := ⟨_, rfl⟩
              have hNVl : NV.length = 8 := by rw [← hNV, ucells_len, blk_len, hGl]
              have hN1 : NV.toArray.all (·.oneCell') = true := all_oneCell_toArray (fun v hv => ucells_one (hNV ▸ hv))
              have hsrt : Src wr wr.heap.size wr.heap.size A m cp q := (HSR6.out.keep2 (Nat.le_refl _) (fun b h1 => HGT.out.block b (by omega) (by simp; omega))).up (by omega)
              have hRB := RBlock_any wr A m cp q G (64 * t) hGl hat (by omega) hsrt
              rw [hGV, hNV] at hRB
              have e64 : ((64 * t : Nat) : Int) = 64 * (t : Int) := by omega
              rw [e64] at hRB
              rw [hGV] at HHT
              have hra : wr.rangeAt hb 0 GV := by
                intro j v hv
                rw [Nat.zero_add, blk_cell HHT.out, List.getElem?_toArray]
                exact hv
              have HSZ : Hid ((Try.prog.info? 120).map (·.size) = some GV.length) := by
                show _ = _
                rw [hGVl]
                kernel_rfl
              have HRB := Lib.hid hRB
              have HRA := Lib.hid hra
              have HN1 := Lib.hid hN1
              have HG := Lib.hid hG
              have HGV := Lib.hid hGV
              have HNV := Lib.hid hNV
              clear hRB hra hN1 hG hGV hNV
              clear e64 hsrt
              go_wp2_with (first | (refine wpList_load_mid rfl 120 (.tmp 6) rfl hb 0 rfl GV _ HRA.out Try.underlying120 rfl HSZ.out ?_))
              refine (HRB.out).mono ?_
              rintro e w7 ⟨rfl, hb7⟩
              have hh7 := (hb7.block hb (blk_lt HHT.out)).trans HHT.out
              have hth : w7.there hb 0 NV.toArray.size := by
                intro j hj
                rw [Nat.zero_add]
                refine ⟨?_, blk_free hh7 j⟩
                rw [List.size_toArray, hNVl] at hj
                rw [blk_cell hh7, List.getElem?_toArray, List.getElem?_eq_getElem (by omega)]
                rfl
              have HSZN : Hid ((Try.prog.info? 120).map (·.size) = some NV.toArray.size) := by
                show _ = _
                rw [List.size_toArray, hNVl]
                kernel_rfl
              have HTH := Lib.hid hth
              have HB7 := Lib.hid hb7
              have HH7 := Lib.hid hh7
              clear hth hb7 hh7
              go_wp2_with (first | (refine wpList_store_mid rfl 120 (.tmp 6) (.tmp 49) rfl hb 0 NV.toArray rfl rfl HTH.out HSZN.out HN1.out ?_))
              have hsc : (w7.setCells hb 0 NV).heap[hb]? = some (.cells NV.toArray 120 (0, 0)) := by
                rw [setCells_blk NV 0 HH7.out]
                have hl2 := setL_mid ([] : List Value) GV [] NV (by rw [hNVl, hGVl])
                simp only [List.nil_append, List.append_nil, List.length_nil] at hl2
                rw [hl2]
              have hfn : foldN (t + 1) hTab q = blk G (q.drop (64 * t)) := by
                rw [foldN_append t 1, HG.out, Nat.mul_comm t 64]
                rfl
              refine ⟨⟨t + 1, by congr 1, hlt, ?_, ?_⟩, by simp [intOf]; omega⟩
              · exact grown_trans (grown_trans HGT.out ⟨HB7.out.os, HB7.out.tape, HB7.out.output, HB7.out.size, fun i hi _ => HB7.out.block i hi⟩ (fun _ _ h => h) (r2 := none) (fun _ _ _ => by simp)) (grown_setCells hb NV 0 w7) (fun _ _ h => h) (fun _ _ h => h)
              · show _ = _
                rw [hfn, HNV.out]
                exact hsc
            · have hkt : ¬ (64 * (t : Int) < (m : Int)) := by have := HBB.out; omega
              have htB : t = B := by omega
              have HFT : Hid (wr.heap[hb]? = some (.cells (ucells F).toArray 120 (0, 0))) := by
                show _ = _
                rw [← HF2.out, ← htB]
                exact HHT.out
              have HBT : Hid (Below wz.heap.size wz wr) := HBW6.out.grown HGT.out (by have := HBW6.out.size; omega) (fun i hi => by cases hi; exact hzb0)
              clear htB hge ht HHT
              go_wp2_with fail
              have hw8 := heap_alloc_new wr (.cells #[.int .u8 0, .int .u8 0, .int .u8 0, .int .u8 0, .int .u8 0, .int .u8 0, .int .u8 0, .int .u8 0, .int .u8 0, .int .u8 0, .int .u8 0, .int .u8 0, .int .u8 0, .int .u8 0, .int .u8 0, .int .u8 0, .int .u8 0, .int .u8 0, .int .u8 0, .int .u8 0, .int .u8 0, .int .u8 0, .int .u8 0, .int .u8 0, .int .u8 0, .int .u8 0, .int .u8 0, .int .u8 0, .int .u8 0, .int .u8 0, .int .u8 0, .int .u8 0] 108)
              have hb8 := below_alloc wr (.cells #[.int .u8 0, .int .u8 0, .int .u8 0, .int .u8 0, .int .u8 0, .int .u8 0, .int .u8 0, .int .u8 0, .int .u8 0, .int .u8 0, .int .u8 0, .int .u8 0, .int .u8 0, .int .u8 0, .int .u8 0, .int .u8 0, .int .u8 0, .int .u8 0, .int .u8 0, .int .u8 0, .int .u8 0, .int .u8 0, .int .u8 0, .int .u8 0, .int .u8 0, .int .u8 0, .int .u8 0, .int .u8 0, .int .u8 0, .int .u8 0, .int .u8 0, .int .u8 0] 108)
              obtain ⟨ob, hob⟩ : ∃ ob, wr.heap.size = ob := ⟨_, rfl⟩
              have HOB8 : Hid ((wr.alloc (.cells #[.int .u8 0, .int .u8 0, .int .u8 0, .int .u8 0, .int .u8 0, .int .u8 0, .int .u8 0, .int .u8 0, .int .u8 0, .int .u8 0, .int .u8 0, .int .u8 0, .int .u8 0, .int .u8 0, .int .u8 0, .int .u8 0, .int .u8 0, .int .u8 0, .int .u8 0, .int .u8 0, .int .u8 0, .int .u8 0, .int .u8 0, .int .u8 0, .int .u8 0, .int .u8 0, .int .u8 0, .int .u8 0, .int .u8 0, .int .u8 0, .int .u8 0, .int .u8 0] 108)).heap[ob]? = some (.cells (bcells ((outB F).take 0 ++ List.replicate (32 - 0) 0)).toArray 108 (0, 0))) := by
                show _ = _
                rw [← hob]
                exact hw8
              have HFT8 : Hid ((wr.alloc (.cells #[.int .u8 0, .int .u8 0, .int .u8 0, .int .u8 0, .int .u8 0, .int .u8 0, .int .u8 0, .int .u8 0, .int .u8 0, .int .u8 0, .int .u8 0, .int .u8 0, .int .u8 0, .int .u8 0, .int .u8 0, .int .u8 0, .int .u8 0, .int .u8 0, .int .u8 0, .int .u8 0, .int .u8 0, .int .u8 0, .int .u8 0, .int .u8 0, .int .u8 0, .int .u8 0, .int .u8 0, .int .u8 0, .int .u8 0, .int .u8 0, .int .u8 0, .int .u8 0] 108)).heap[hb]? = some (.cells (ucells F).toArray 120 (0, 0))) := (hb8.block hb (blk_lt HFT.out)).trans HFT.out
              have HBT8 : Hid (Below wz.heap.size wz (wr.alloc (.cells #[.int .u8 0, .int .u8 0, .int .u8 0, .int .u8 0, .int .u8 0, .int .u8 0, .int .u8 0, .int .u8 0, .int .u8 0, .int .u8 0, .int .u8 0, .int .u8 0, .int .u8 0, .int .u8 0, .int .u8 0, .int .u8 0, .int .u8 0, .int .u8 0, .int .u8 0, .int .u8 0, .int .u8 0, .int .u8 0, .int .u8 0, .int .u8 0, .int .u8 0, .int .u8 0, .int .u8 0, .int .u8 0, .int .u8 0, .int .u8 0, .int .u8 0, .int .u8 0] 108))) := below_then HBT.out hb8
              have hobhb : hb < ob := by have := blk_lt HFT.out; omega
              have hobz : wz.heap.size ≤ ob := by omega
              rw [hob]
              clear hw8 hb8 hob
              generalize wr.alloc (.cells #[.int .u8 0, .int .u8 0, .int .u8 0, .int .u8 0, .int .u8 0, .int .u8 0, .int .u8 0, .int .u8 0, .int .u8 0, .int .u8 0, .int .u8 0, .int .u8 0, .int .u8 0, .int .u8 0, .int .u8 0, .int .u8 0, .int .u8 0, .int .u8 0, .int .u8 0, .int .u8 0, .int .u8 0, .int .u8 0, .int .u8 0, .int .u8 0, .int .u8 0, .int .u8 0, .int .u8 0, .int .u8 0, .int .u8 0, .int .u8 0, .int .u8 0, .int .u8 0] 108) = w8 at *
              have HG8 : Hid (w8.grownBy w8 (some ob)) := World.grownBy.refl w8 _
              have hOBl : (outB F).length = 32 := by rw [outB_len, hFl]
              go_loopw [9] (fun i wq => ∃ (t : Nat), i = .int .i64 (t : Int) ∧ t ≤ 32 ∧ Hid (w8.grownBy wq (some ob)) ∧ Hid (wq.heap[ob]? = some (.cells (bcells ((outB F).take t ++ List.replicate (32 - t) 0)).toArray 108 (0, 0)))) (fun i _ => 32 - (intOf i).toNat)
              case atStart => exact ⟨0, rfl, by omega, HG8, HOB8⟩
              case round =>
                obtain ⟨t, rfl, ht, HGT, HCT⟩ := hrel
                rcases Nat.lt_or_ge t 32 with hlt | hge
                · obtain ⟨q4, hq4⟩ : ∃ q4, q4 = t / 4 := ⟨_, rfl⟩
                  obtain ⟨x, hx⟩ : ∃ x, F[q4]? = some x := ⟨_, List.getElem?_eq_getElem (by omega)⟩
                  have cx : wr.cell? ⟨hb, q4, none⟩ = some (.int .u32 x) := by
                    rw [World.cell?_of_block (a := ⟨hb, q4, none⟩) (HGT.out.block hb (blk_lt HFT8.out) (by simp; omega)), blk_cell HFT8.out, List.getElem?_toArray]
                    exact ucells_at hx
                  have hdv : (t : Int) / 4 = (q4 : Int) := by omega
                  have hq8 : (q4 : Int) < 8 := by omega
                  have hcl : ∃ u, wr.cell? ⟨ob, t, none⟩ = some u := by
                    rw [blk_cell HCT.out, List.getElem?_toArray]
                    exact ⟨_, List.getElem?_eq_getElem (by rw [bcells_length, List.length_append, List.length_take, List.length_replicate]; omega)⟩
                  obtain ⟨u, hcu⟩ := hcl
                  have hfr := blk_free HCT.out t
                  have it : (t : Int) < 32 := by omega
                  have hand := and3 t hlt
                  have HX := Lib.hid hx
                  have HQ4 := Lib.hid hq4
                  clear hx hq4
                  have hr4 : t % 4 = 0 ∨ t % 4 = 1 ∨ t % 4 = 2 ∨ t % 4 = 3 := by omega
                  rcases hr4 with hr | hr | hr | hr
                  · rw [hr] at hand
                    have HR := Lib.hid hr
                    clear hr
                    go_wp2_with fail
                    have hq4 := HQ4.out
                    have hrr := HR.out
                    exact ⟨⟨t + 1, by go_num, by omega, grownBy_trans HGT.out (grown_setCell wr ob t _), out_step HCT.out hOBl HX.out 0 (by omega) (by omega) _ rfl (ofI_cell _)⟩, by simp [intOf]; omega⟩
                  · rw [hr] at hand
                    have HR := Lib.hid hr
                    clear hr
                    go_wp2_with fail
                    have hq4 := HQ4.out
                    have hrr := HR.out
                    exact ⟨⟨t + 1, by go_num, by omega, grownBy_trans HGT.out (grown_setCell wr ob t _), out_step HCT.out hOBl HX.out 1 (by omega) (by omega) _ rfl (ofI_cell _)⟩, by simp [intOf]; omega⟩
                  · rw [hr] at hand
                    have HR := Lib.hid hr
                    clear hr
                    go_wp2_with fail
                    have hq4 := HQ4.out
                    have hrr := HR.out
                    exact ⟨⟨t + 1, by go_num, by omega, grownBy_trans HGT.out (grown_setCell wr ob t _), out_step HCT.out hOBl HX.out 2 (by omega) (by omega) _ rfl (ofI_cell _)⟩, by simp [intOf]; omega⟩
                  · rw [hr] at hand
                    have HR := Lib.hid hr
                    clear hr
                    go_wp2_with fail
                    have hq4 := HQ4.out
                    have hrr := HR.out
                    exact ⟨⟨t + 1, by go_num, by omega, grownBy_trans HGT.out (grown_setCell wr ob t _), out_step HCT.out hOBl HX.out 3 (by omega) (by omega) _ rfl (ofI_cell _)⟩, by simp [intOf]; omega⟩
                · have hke : ¬ ((t : Int) < 32) := by omega
                  have ht32 : t = 32 := by omega
                  have hcv : wr.heap[ob]? = some (.cells OO.toArray 108 (0, 0)) := by
                    have h := HCT.out
                    rw [ht32, List.take_of_length_le (by omega), Nat.sub_self, List.replicate_zero, List.append_nil, HOO.out] at h
                    exact h
                  have hrv : wr.rangeAt ob 0 OO := by
                    intro j v hv
                    rw [Nat.zero_add, blk_cell hcv, List.getElem?_toArray]
                    exact hv
                  have hwz := HS0.out
                  have hbw : Below w.heap.size w wr := below_then HB0.out (HBT8.out.grown HGT.out (by have := HBT8.out.size; omega) (fun i hi => by cases hi; exact hobz))
                  have hob5 : wr.heap[w.heap.size]? = some (.cells #[.int .u8 0, .int .u8 0, .int .u8 0, .int .u8 0, .int .u8 0, .int .u8 0, .int .u8 0, .int .u8 0, .int .u8 0, .int .u8 0, .int .u8 0, .int .u8 0, .int .u8 0, .int .u8 0, .int .u8 0, .int .u8 0, .int .u8 0, .int .u8 0, .int .u8 0, .int .u8 0, .int .u8 0, .int .u8 0, .int .u8 0, .int .u8 0, .int .u8 0, .int .u8 0, .int .u8 0, .int .u8 0, .int .u8 0, .int .u8 0, .int .u8 0, .int .u8 0] 108 (0, 0)) := by
                    rw [HGT.out.block w.heap.size (by have := HBT8.out.size; omega) (by simp; omega), HBT8.out.block w.heap.size (by omega)]
                    exact HOB.out
                  have hth : wr.there w.heap.size 0 OO.toArray.size := by
                    intro j hj
                    rw [Nat.zero_add]
                    refine ⟨?_, blk_free hob5 j⟩
                    rw [List.size_toArray, hOl] at hj
                    rw [blk_cell hob5, Array.getElem?_eq_getElem hj]
                    rfl
                  have HSZ : Hid ((Try.prog.info? 108).map (·.size) = some OO.length) := by
                    show _ = _
                    rw [hOl]
                    kernel_rfl
                  have HSZ2 : Hid ((Try.prog.info? 108).map (·.size) = some OO.toArray.size) := by
                    show _ = _
                    rw [List.size_toArray, hOl]
                    kernel_rfl
                  have HRV := Lib.hid hrv
                  have HTH := Lib.hid hth
                  have HBW8 := Lib.hid hbw
                  have HOB5 := Lib.hid hob5
                  have HCV := Lib.hid hcv
                  clear hrv hth hbw hob5 hcv
                  clear ht32 hge ht hwz
                  go_wp2_with (first | (refine wpList_load_mid rfl 108 (.tmp 8) rfl ob 0 rfl OO _ HRV.out Try.underlying108 rfl HSZ.out ?_) | (refine wpList_store_mid rfl 108 (.tmp 2) (.tmp 67) rfl w.heap.size 0 OO.toArray rfl rfl HTH.out HSZ2.out HO1.out ?_))
                  have hra := World.rangeAt_setCells_same wr w.heap.size 0 OO (by have := HTH.out; rwa [List.size_toArray] at this)
                  refine bodyPost_ret (results_cellT rfl _ w.heap.size rfl _ OO _ hra Try.underlying108 rfl HSZ.out) rfl ?_
                  exact ⟨rfl, HBW8.out.grown (grown_setCells w.heap.size OO 0 wr) HBW8.out.size (fun i hi => by cases hi; exact Nat.le_refl _)⟩
        · obtain ⟨t, rfl⟩ : ∃ t, k = t + 1 := ⟨k - 1, by omega⟩
          have hm9 : m ≤ 1000100 := by omega
          go_wp2_with (at_builtin; go_must (refine app_one_own (base := wz.heap.size) (.tmp 30) (.tmp 37) 23 5 (.int .u8 0) 1 1 rfl rfl Try.underlying23 u8_info rfl (by decide) (by decide) (bcells q) _ rfl rfl rfl (one_cell rfl) hsq HBQ.out HOQ.out (by omega) ?_); intro A1 cp1 w3 hb3 hown3 hs3)
          have e8 : (n : Int) * 8 = ((n * 8 : Nat) : Int) := by omega
          rw [e8, byte_of _ t (by omega), Int.toNat_natCast] at hown3
          refine ⟨⟨t, rfl, by omega, m + 1, q ++ [UInt8.ofNat (n * 8 / 256 ^ t)], A1, cp1, ⟨rfl, rfl, rfl⟩, by omega, ?_, ?_, True.intro, ?_⟩, by simp [intOf]; omega⟩
          · show _ = _
            rw [List.length_append, HQL.out]
            rfl
          · show _ = _
            rw [List.append_assoc]
            exact HQN.out
          · show World.ownsRow _ _ _ _ _ _ _
            rw [bcells_append]
            exact hown3
end Go.Proofs.Ytalihocoekplgaa
