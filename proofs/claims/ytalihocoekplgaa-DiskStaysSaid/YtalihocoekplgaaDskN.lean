/- disk: copies and appends in a law. -/
import Derived.Test.YtalihocoekplgaaDiskMany
import Derived.Deep.RegionLaw
set_option linter.unusedVariables false
set_option linter.unusedSimpArgs false
namespace Go.Proofs.Ytalihocoekplgaa
open Go.RowKit

/-- copy(z, b), z a row of 64 zeros. -/
theorem copy_z {W : World} {c : Col} {g : Nat} {B : Option Addr} {mb cq : Nat} {b : List UInt8} {a : UInt8} (hz : W.heap[g]? = some (.cells (fillA 0 a) 5)) (hx : Rd kU8 W c B mb cq b) (hm : mb ≤ 64) :
    ∃ v W', (Builtin.copy_ #[23, 23] 3 #[.slice (some ⟨g, 0, none⟩) 64 64, .slice B mb cq]).run Try.prog W = .ok v W' ∧ W'.heap[g]? = some (.cells (bcells (pad b)).toArray 5) ∧ W.grownBy W' (some g) := by
  have hu8 : (Try.prog.info? 5).map (·.size) = some 1 := by kernel_rfl
  have hl : b.length = mb := hx.len
  by_cases h0 : mb = 0
  · subst h0
    have hb0 := List.eq_nil_of_length_eq_zero hl
    subst hb0
    exact ⟨_, _, run_copy_none (P := Try.prog) _ 23 23 3 5 _ _ _ _ _ _ Try.underlying23 hu8 (by simp), hz, World.grownBy.refl W _⟩
  · obtain ⟨bb, off, rfl⟩ := hx.addr (by omega)
    have hz64 : (bcells zsec).length = 64 := by rw [bcells_length, zsec_len]
    have hz' : W.heap[g]? = some (.cells (bcells zsec).toArray 5) := hz
    have hr := run_copy_row (P := Try.prog) W 23 23 3 5 g 0 64 64 ⟨bb, off, none⟩ mb cq (bcells zsec).toArray 5 (bcells b) Try.underlying23 hu8 hz'
      (by rw [bcells_length, hl]; exact (Nat.min_eq_left hm).symm) hx.news (by simp only [List.size_toArray, bcells_length, zsec_len]; omega) (fun v hv => bcells_one hv)
    refine ⟨_, _, hr, ?_, ?_⟩
    · rw [setRow_heap _ _ _ _ _ _ hz']
      have hs := pad_splice (b := b) (by omega)
      unfold splice at hs
      rw [← hs, List.append_assoc]
    · refine ⟨rfl, rfl, rfl, by simp [World.setRow], fun i _ hi => ?_⟩
      simp only [World.setRow]
      rw [Array.getElem?_modify, if_neg (fun e => hi (by rw [e]))]
theorem run_bytes {P : Program} {W : World} {c : Col} (t ty e : TypeId) (ht : P.underlying t = some (.slice e)) (hinfo : (P.info? e).map (fun i => (i.zero, i.size, i.bytes)) = some (some (.int .u8 0), 1, 1))
    {A B : Option Addr} {n cp m cq : Nat} (xs ys : List UInt8) {b0 : Nat} (hb0 : b0 ≤ W.heap.size) (HO : W.ownsRow b0 e 1 (.slice A n cp) n (bcells xs)) (HR : Rd kU8 W c B m cq ys) (hl : n + m ≤ 140737488355328) :
    ∃ A1 cp1 w1, (Builtin.append_ #[t, t] ty #[.slice A n cp, .slice B m cq]).run P W = .ok (.slice A1 (n + m) cp1) w1 ∧ w1.ownsRow b0 e 1 (.slice A1 (n + m) cp1) (n + m) (bcells (xs ++ ys)) ∧ W.grownBy w1 (Value.slice A n cp).ownBlock := by
  obtain ⟨i0, hi, hzz⟩ := Option.map_eq_some_iff.1 hinfo
  simp only [Prod.mk.injEq] at hzz
  obtain ⟨hz0, hz1, hz2⟩ := hzz
  rcases B with _ | ad
  · have h0 : m = 0 := by
      rcases Nat.eq_zero_or_pos m with h0 | h0
      · exact h0
      · obtain ⟨b, off, e⟩ := HR.addr h0; cases e
    subst h0
    obtain rfl : ys = [] := List.eq_nil_of_length_eq_zero HR.1
    have hr : (Builtin.append_ #[t, t] ty #[.slice A n cp, .slice none 0 cq]).run P W = .ok (.slice A n cp) W := by
      rcases HO.2 with ⟨hv, hn⟩ | ⟨g, cap, cur, hv, _, _, hnc, _⟩
      · cases hv; simp [Builtin.append_, run_underlying ht, sizeOf, typeInfo, hi, Builtin.lenOf, Builtin.firstCells]
      · cases hv; simp [Builtin.append_, run_underlying ht, sizeOf, typeInfo, hi, Builtin.lenOf, Builtin.firstCells, hnc, storeCells]
    exact ⟨A, cp, W, hr, by simpa using HO, World.grownBy.refl W _⟩
  · have hnews : ∀ j u, (bcells ys)[j]? = some u → W.cell? (ad.add j) = some u := by
      intro j u hu
      have hj : j < m := by
        have := (List.getElem?_eq_some_iff.1 hu).1
        rw [bcells_length, HR.1] at this
        exact this
      obtain ⟨b, off, e⟩ := HR.addr (by omega)
      cases e
      exact HR.news j u hu
    obtain ⟨v1, w1, hr, hown, hgr, _, hat⟩ := run_append_own_at (P := P) W b0 t ty e i0 (.int .u8 0) 1 1 ht hi hz0 hz1 hz2 rfl (by omega) (.slice A n cp) n (bcells xs) HO ad m cq (bcells ys)
      (by rw [bcells_length, HR.1]; omega) hnews (by intro u hu; simp only [bcells, List.mem_map] at hu; obtain ⟨q, _, rfl⟩ := hu; rfl) (by simp only [maxLen]; omega) (by omega) hb0
    obtain ⟨A1, cp1, rfl⟩ := own_form hown
    exact ⟨A1, cp1, w1, hr, by rw [bcells_append]; exact hown, hgr⟩
section
variable {P : Program} {ops : Array Oper} {o : Oper} {a : Act} {Q : Exit → Act → World → Prop}
theorem step_bytes {W : World} {c : Col} {K : Act → World → Prop} {E : Prop} (s x : Operand) (t e : TypeId) (hgd : o.guard = none)
    (ho : o.op = .call { callee := .builtin .append, args := #[s, x], argTypes := #[t, t] })
    (ht : P.underlying t = some (.slice e)) (hinfo : (P.info? e).map (fun i => (i.zero, i.size, i.bytes)) = some (some (.int .u8 0), 1, 1))
    {A B : Option Addr} {n cp m cq : Nat} (xs ys : List UInt8) (hs : a.eval s = .slice A n cp) (hx : a.eval x = .slice B m cq)
    {b0 : Nat} (hb0 : b0 ≤ W.heap.size) (HO : W.ownsRow b0 e 1 (.slice A n cp) n (bcells xs)) (HR : Rd kU8 W c B m cq ys) (hl : n + m ≤ 140737488355328)
    (h : ∀ A1 cp1 w1, w1.ownsRow b0 e 1 (.slice A1 (n + m) cp1) (n + m) (bcells (xs ++ ys)) → W.grownBy w1 (Value.slice A n cp).ownBlock → K (a.put o.dst (.slice A1 (n + m) cp1)) w1) :
    if Region.wanted o (yielded ops a.tmps) = true then Oper.wp P o a W K Q else E := by
  have hwt : Region.wanted o (yielded ops a.tmps) = true := by simp [Region.wanted, hgd]
  rw [if_pos hwt]
  obtain ⟨A1, cp1, w1, hr, hown, hgr⟩ := run_bytes (c := c) t o.type e ht hinfo xs ys hb0 HO HR hl
  unfold Oper.wp execOp
  simp only [ho, resolve, invoke, builtin, Sem.run_bind, Sem.run_pure, Result.andThen_ok, List.map_toArray, List.map_cons, List.map_nil, hs, hx, hr]
  exact h A1 cp1 w1 hown hgr
end
def frontD (j : Nat) (s : List UInt8) : Dt := fun k => if 0 ≤ k ∧ k < (j : Int) then some s else none
theorem frontD_put (j : Nat) (s : List UInt8) : (frontD j s).put (j : Int) s = frontD (j + 1) s := by
  funext k
  unfold frontD Dt.put
  by_cases e : k = (j : Int)
  · subst e
    rw [if_pos rfl, if_pos (by omega)]
  · rw [if_neg e]
    show (if 0 ≤ k ∧ k < (j : Int) then some s else none) = _
    by_cases h : 0 ≤ k ∧ k < (j : Int)
    · rw [if_pos h, if_pos (by omega)]
    · rw [if_neg h, if_neg (by omega)]
theorem frontD_zero (s : List UInt8) : frontD 0 s = fun _ => none := by
  funext k
  unfold frontD
  rw [if_neg (by omega)]
theorem syncY_front (n : Nat) (s z : List UInt8) : syncY (List.replicate n z) (frontD n s) = List.replicate n s := by
  apply List.ext_getElem?
  intro i
  rw [syncY_get, List.getElem?_replicate, List.getElem?_replicate]
  split
  · unfold frontD
    rw [Option.map_some, if_pos (by omega)]
    rfl
  · rfl
theorem stays_get (s t : List UInt8) (keep : List Int) (torn : Int) (mc : Nat) {i k : Nat} (hi : i < 3) :
    (crashY (List.replicate 3 s) (Dt.put (fun _ => none) (k : Int) t) keep torn mc)[i]? = some (if i = k then (if keep.contains (i : Int) = true then t else if (i : Int) = torn then t.take mc ++ s.drop mc else s) else s) := by
  rw [crashY_get, List.getElem?_replicate, if_pos hi]
  show some _ = some _
  congr 1
  unfold crashV Dt.put
  by_cases e : i = k
  · subst e
    simp [crash1]
  · have : ¬ (i : Int) = (k : Int) := by omega
    simp [e, this]
end Go.Proofs.Ytalihocoekplgaa
