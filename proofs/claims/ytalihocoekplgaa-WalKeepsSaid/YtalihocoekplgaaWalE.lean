/- wal: Len, Used, Sync; pieces. -/
import Derived.Test.YtalihocoekplgaaWalC
import Derived.Deep.RegionHeld3
set_option linter.unusedVariables false
set_option linter.unusedSimpArgs false
namespace Go.Proofs.Ytalihocoekplgaa
open Go.RowKit

theorem WLen_any (w : World) (c : Col) (gl g num used : Nat) (h : Lg w c gl g num used) : Calls Try.prog 31 #[.pointer (some ⟨gl, 0, none⟩)] w fun e w' => e = .returned (.int .i64 (num : Int)) ∧ w = w' := by
  have d1 := blk_cell1 h.2
  go_enter Try.func31, Try.ntmps31
  go_wp2_with fail
  refine bodyPost_ret (results_tmp rfl _ _ _) rfl ?_
  exact ⟨rfl, rfl⟩
theorem WLen_nil (w : World) : Calls Try.prog 31 #[.pointer none] w fun e w' => e = .returned (.int .i64 0) ∧ w = w' := by
  go_enter Try.func31, Try.ntmps31
  go_wp2_with fail
  refine bodyPost_ret (results_tmp rfl _ _ _) rfl ?_
  exact ⟨rfl, rfl⟩
theorem WUsed_any (w : World) (c : Col) (gl g num used : Nat) (h : Lg w c gl g num used) : Calls Try.prog 32 #[.pointer (some ⟨gl, 0, none⟩)] w fun e w' => e = .returned (.int .i64 (used : Int)) ∧ w = w' := by
  have d2 := blk_cell2 h.2
  go_enter Try.func32, Try.ntmps32
  go_wp2_with fail
  refine bodyPost_ret (results_tmp rfl _ _ _) rfl ?_
  exact ⟨rfl, rfl⟩
theorem WUsed_nil (w : World) : Calls Try.prog 32 #[.pointer none] w fun e w' => e = .returned (.int .i64 0) ∧ w = w' := by
  go_enter Try.func32, Try.ntmps32
  go_wp2_with fail
  refine bodyPost_ret (results_tmp rfl _ _ _) rfl ?_
  exact ⟨rfl, rfl⟩
theorem WSync_nil (w : World) : Calls Try.prog 29 #[.pointer none] w fun e w' => e = .returned (.tuple #[]) ∧ w = w' := by
  go_enter Try.func29, Try.ntmps29
  go_wp2_with fail
  go_end0
  exact ⟨rfl, rfl⟩
theorem WSync_any (w : World) (c : Col) (gl g n num used : Nat) (Y : List (List UInt8)) (D : Dt) (N : Nat) (hw : Wf c w) (hD : Dk w c g n Y D N) (h : Lg w c gl g num used) :
    Calls Try.prog 29 #[.pointer (some ⟨gl, 0, none⟩)] w fun e w' => e = .returned (.tuple #[]) ∧ ∃ c', Tr (· = g) c c' w w' ∧ Dk w' c' g n (syncY Y D) (fun _ => none) 0 := by
  have d0 := blk_cell0 h.2
  have HK := Lib.hid (KSync_any w c g n Y D N hw hD)
  go_enter Try.func29, Try.ntmps29
  go_wp2_with fail
  refine (HK.out).mono ?_
  rintro e w1 ⟨rfl, c1, q_HT1, q_HD1⟩
  have HT1 := Lib.hid q_HT1
  have HD1 := Lib.hid q_HD1
  clear q_HT1 q_HD1
  go_wp2_with fail
  go_end0
  exact ⟨rfl, c1, HT1.out, HD1.out⟩

/-- C0 always; C1 as long as k1 has not come up; C2 as long as k2 has not. -/
def SL (C0 C1 C2 : World → Prop) (k1 k2 : Nat) (listed : Array Bool) (w : World) : Prop := C0 w ∧ (listed.getD k1 true = false → C1 w) ∧ (listed.getD k2 true = false → C2 w)
section
variable {P : Program} {ops : Array Oper} {Q : Exit → Act → World → Prop} {md : Region.Mode} {C0 C1 C2 : World → Prop} {k1 k2 : Nat}
def wpAnyL (P : Program) (md : Region.Mode) (ops : Array Oper) (Q : Exit → Act → World → Prop) (S : Array Bool → World → Prop) : Nat → Array Bool → Act → World → Prop
  | 0, listed, a, w => Region.ready md ops listed = [] ∧ Q .normal a w
  | fuel + 1, listed, a, w =>
    (Region.ready md ops listed = [] → Q .normal a w) ∧
    ∀ i ∈ Region.ready md ops listed, wpOp P ops Q i (fun a' w' => S (listed.setIfInBounds i true) w' ∧ wpAnyL P md ops Q S fuel (listed.setIfInBounds i true) a' w') a w
theorem wpAny_of_L {S : Array Bool → World → Prop} : ∀ (fuel : Nat) (listed : Array Bool) (a : Act) (w : World), wpAnyL P md ops Q S fuel listed a w → wpAny P md ops Q fuel listed a w
  | 0, _, _, _, h => h
  | fuel + 1, _, _, _, h => ⟨h.1, fun i hi => wpOp_mono (fun a' w' h' => wpAny_of_L fuel _ a' w' h'.2) (h.2 i hi)⟩
/-- Number k waits for number i, by an edge of its own. -/
def waitsB (md : Region.Mode) (ops : Array Oper) (k i : Nat) : Bool := match ops[k]? with
  | some o => o.after.any (fun e => Region.binds md e && e.on == i)
  | none => true
theorem getD_mono {listed : Array Bool} {j k : Nat} (h : (listed.setIfInBounds j true).getD k true = false) : listed.getD k true = false := by
  by_cases e : j = k
  · subst e
    simp only [Array.getD_eq_getD_getElem?] at h
    by_cases hl : j < listed.size
    · simp [hl] at h
    · simp [Array.getElem?_eq_none (show (listed.setIfInBounds j true).size ≤ j by simp; omega)] at h
  · rw [getD_set_ne true e] at h
    exact h
theorem SL.mono {listed : Array Bool} {w : World} (j : Nat) (h : SL C0 C1 C2 k1 k2 listed w) : SL C0 C1 C2 k1 k2 (listed.setIfInBounds j true) w :=
  ⟨h.1, fun hk => h.2.1 (getD_mono hk), fun hk => h.2.2 (getD_mono hk)⟩
theorem SL.irr {listed : Array Bool} {w : World} {i : Nat} (h1 : i ≠ k1) (h2 : i ≠ k2) (h : SL C0 C1 C2 k1 k2 (listed.setIfInBounds i true) w) : SL C0 C1 C2 k1 k2 listed w :=
  ⟨h.1, fun hk => h.2.1 (by rw [getD_set_ne true h1]; exact hk), fun hk => h.2.2 (by rw [getD_set_ne true h2]; exact hk)⟩
theorem not_ready_of_waits {i k : Nat} {listed : Array Bool} (hw : waitsB md ops k i = true) (hi : listed.getD i true = false) (hk : k ∈ Region.ready md ops listed) : False := by
  obtain ⟨_, o, ho, hall⟩ := mem_ready.1 hk
  unfold waitsB at hw
  rw [ho] at hw
  simp only [Array.any_eq_true, Bool.and_eq_true, beq_iff_eq] at hw
  obtain ⟨e, he, hb, hon⟩ := hw
  have h1 := hall _ (Array.getElem_mem he) hb
  rw [hon] at h1
  rcases Nat.lt_or_ge i listed.size with h' | h'
  · simp [h'] at hi h1
    rw [hi] at h1
    cases h1
  · simp [Array.getElem?_eq_none h'] at h1
theorem wpAnyL_first {i : Nat} {oi : Oper} {v : Value} {b1 b2 : Bool} (hi : ops[i]? = some oi) (hsel : ∀ (j : Nat) (o : Oper) cs b, ops[j]? = some o → o.op ≠ .select cs b)
    (hQ : ∀ c a w, Q (.panic c) (a.put oi.dst v) w → Q (.panic c) a w) (n1 : i ≠ k1) (n2 : i ≠ k2) (hw1 : b1 = true → waitsB md ops k1 i = true) (hw2 : b2 = true → waitsB md ops k2 i = true) :
    ∀ (fuel : Nat) (listed : Array Bool) (a : Act) (w : World),
      (∀ j oj, ops[j]? = some oj → j ≠ i → listed.getD j true = false → (∀ e ∈ oj.after, Region.binds md e = true → e.on ≠ i) → oi.apart ops oj = true) →
      i ∈ Region.ready md ops listed → (b1 = true → listed.getD k1 true = false) → (b2 = true → listed.getD k2 true = false) →
      YieldsIf P ops (fun w => C0 w ∧ (b1 = true → C1 w) ∧ (b2 = true → C2 w)) oi v a → SL C0 C1 C2 k1 k2 listed w →
      wpAnyL P md ops Q (SL C0 C1 C2 k1 k2) fuel (listed.setIfInBounds i true) (a.put oi.dst v) w → wpAnyL P md ops Q (SL C0 C1 C2 k1 k2) (fuel + 1) listed a w := by
  intro fuel
  induction fuel with
  | zero =>
    intro listed a w _ hr u1 u2 hy hS H
    refine ⟨fun h => (by rw [h] at hr; cases hr), fun j hj => ?_⟩
    by_cases hji : j = i
    · subst hji; exact hy.wpOp hi ⟨hS.1, fun h => hS.2.1 (u1 h), fun h => hS.2.2 (u2 h)⟩ ⟨hS.mono _, H⟩
    · have := ready_mono hj hji
      rw [H.1] at this
      cases this
  | succ fuel ih =>
    intro listed a w hfree hr u1 u2 hy hS H
    refine ⟨fun h => (by rw [h] at hr; cases hr), fun j hj => ?_⟩
    by_cases hji : j = i
    · subst hji; exact hy.wpOp hi ⟨hS.1, fun h => hS.2.1 (u1 h), fun h => hS.2.2 (u2 h)⟩ ⟨hS.mono _, H⟩
    · have h1 := H.2 j (ready_mono hj hji)
      obtain ⟨hjun, oj, hoj, hall⟩ := mem_ready.1 hj
      have hnot : ∀ e ∈ oj.after, Region.binds md e = true → e.on ≠ i := fun e he hb heq => by
        have h1 := hall e he hb
        have h0 := (mem_ready.1 hr).1
        rw [heq] at h1
        rcases Nat.lt_or_ge i listed.size with h' | h'
        · simp [h'] at h0 h1; rw [h0] at h1; cases h1
        · simp [Array.getElem?_eq_none h'] at h1
      have h2 := wpOp_putIf hoj (hfree j oj hoj hji hjun hnot) (fun cs b => hsel i oi cs b hi) (fun cs b => hsel j oj cs b hoj) hQ hy h1
      have hfree' : ∀ k ok, ops[k]? = some ok → k ≠ i → (listed.setIfInBounds j true).getD k true = false →
          (∀ e ∈ ok.after, Region.binds md e = true → e.on ≠ i) → oi.apart ops ok = true := fun k ok hk hki hun hno => by
        refine hfree k ok hk hki ?_ hno
        by_cases hjk : j = k
        · subst hjk; exact hjun
        · rw [getD_set_ne true hjk] at hun; exact hun
      have hr0 := (mem_ready.1 hr).1
      have v1 : b1 = true → (listed.setIfInBounds j true).getD k1 true = false := fun h => by
        have hne : j ≠ k1 := fun e => not_ready_of_waits (hw1 h) hr0 (by rw [← e]; exact hj)
        rw [getD_set_ne true hne]
        exact u1 h
      have v2 : b2 = true → (listed.setIfInBounds j true).getD k2 true = false := fun h => by
        have hne : j ≠ k2 := fun e => not_ready_of_waits (hw2 h) hr0 (by rw [← e]; exact hj)
        rw [getD_set_ne true hne]
        exact u2 h
      refine wpOp_mono (fun a' w' h3 => ?_) h2
      have hc : (listed.setIfInBounds i true).setIfInBounds j true = (listed.setIfInBounds j true).setIfInBounds i true := Array.setIfInBounds_comm _ _ (Ne.symm hji)
      have hS' : SL C0 C1 C2 k1 k2 (listed.setIfInBounds j true) w' := SL.irr n1 n2 (by rw [← hc]; exact h3.2.1)
      exact ⟨hS', ih (listed.setIfInBounds j true) a' w' hfree' (ready_mono hr (Ne.symm hji)) v1 v2 h3.1 hS' (by rw [← hc]; exact h3.2.2)⟩
theorem wpAnyL_take {i : Nat} {oi : Oper} {v : Value} {fuel : Nat} {listed : Array Bool} {a : Act} {w : World} (b1 b2 : Bool) (hi : ops[i]? = some oi)
    (hs : Region.noSelect ops = true) (hf : Region.free md ops listed i = true) (hr : (Region.ready md ops listed).contains i = true)
    (hn : (i != k1 && i != k2 && (!b1 || (waitsB md ops k1 i && !listed.getD k1 true)) && (!b2 || (waitsB md ops k2 i && !listed.getD k2 true))) = true)
    (hQ : ∀ c a w, Q (.panic c) (a.put oi.dst v) w → Q (.panic c) a w) (hy : YieldsIf P ops (fun w => C0 w ∧ (b1 = true → C1 w) ∧ (b2 = true → C2 w)) oi v a) (hS : SL C0 C1 C2 k1 k2 listed w)
    (h : wpAnyL P md ops Q (SL C0 C1 C2 k1 k2) fuel (listed.setIfInBounds i true) (a.put oi.dst v) w) : wpAnyL P md ops Q (SL C0 C1 C2 k1 k2) (fuel + 1) listed a w := by
  simp only [Bool.and_eq_true, bne_iff_ne, ne_eq, Bool.or_eq_true, Bool.not_eq_true'] at hn
  obtain ⟨⟨⟨n1, n2⟩, m1⟩, m2⟩ := hn
  refine wpAnyL_first hi (Region.noSelect_spec hs) hQ n1 n2 (fun hb => ?_) (fun hb => ?_) fuel listed a w (Region.free_spec hi hf) (by simpa using hr) (fun hb => ?_) (fun hb => ?_) hy hS h
  · rcases m1 with m1 | m1
    · rw [hb] at m1; cases m1
    · exact m1.1
  · rcases m2 with m2 | m2
    · rw [hb] at m2; cases m2
    · exact m2.1
  · rcases m1 with m1 | m1
    · rw [hb] at m1; cases m1
    · exact m1.2
  · rcases m2 with m2 | m2
    · rw [hb] at m2; cases m2
    · exact m2.2
/-- The one operation that may come up comes up. -/
theorem wpAnyL_one {S : Array Bool → World → Prop} {i : Nat} {o : Oper} {fuel : Nat} {listed : Array Bool} {a : Act} {w : World} (hr : Region.ready md ops listed = [i]) (ho : ops[i]? = some o)
    (h : ∀ K' : Act → World → Prop, Shut (∀ a w, S (listed.setIfInBounds i true) w → (S (listed.setIfInBounds i true) w → wpAnyL P md ops Q S fuel (listed.setIfInBounds i true) a w) → K' a w) → if Region.wanted o (yielded ops a.tmps) = true then Oper.wp P o a w K' Q else K' (a.put o.dst undef) w) :
    wpAnyL P md ops Q S (fuel + 1) listed a w := by
  refine ⟨fun h0 => (by rw [hr] at h0; cases h0), fun j hj => ?_⟩
  rw [hr] at hj
  obtain rfl := List.mem_singleton.1 hj
  exact wpOp_step ho (fun K' hK => h K' (fun a w hS hW => hK a w ⟨hS, hW hS⟩))
theorem wpAnyL_done {S : Array Bool → World → Prop} {fuel : Nat} {listed : Array Bool} {a : Act} {w : World} (hr : Region.ready md ops listed = []) (h : Q .normal a w) : wpAnyL P md ops Q S fuel listed a w := by
  cases fuel with
  | zero => exact ⟨hr, h⟩
  | succ fuel => exact ⟨fun _ => h, fun i hi => by rw [hr] at hi; cases hi⟩
theorem wp_region_L {S : Array Bool → World → Prop} {id : Nat} {a : Act} {w : World} (hm : P.follows .mixedOrders = true) (hS : S (Array.replicate ops.size false) w.drew)
    (h : S (Array.replicate ops.size false) w.drew → wpAnyL P .any ops Q S ops.size (Array.replicate ops.size false) a w.drew) : (Code.region id ops true).wp P Q a w :=
  wp_region_any hm (wpAny_of_L _ _ _ _ (h hS))
end
end Go.Proofs.Ytalihocoekplgaa
