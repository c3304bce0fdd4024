/- client: Clone, Hear, Taken. -/
import Derived.Test.YtladpckbajnbeaaCliC
import Derived.Lib.BufferMore
import Derived.Deep.RegionLaw
import Derived.Maps.AppendAt
set_option linter.unusedVariables false
set_option linter.unusedSimpArgs false
namespace Go.Proofs.Ytladpckbajnbeaa
open Go.RowKit

theorem rep_info : (Try.prog.info? 52).map (fun i => (i.zero, i.size, i.bytes)) = some (some (.agg #[.int .i64 0, .int .i64 0, .int .i64 0, .slice none 0 0, .bool false]), 5, 56) := by kernel_rfl
theorem cool_new {w w1 : World} {c : Col} {o : Obj} (hw : Wf c w) (hg : (w.alloc o).grownBy w1 (some w.heap.size)) : Kp (c.set w.heap.size w.heap.size) c (w.alloc o) w1 := by
  refine ⟨hg.size, fun k hk hc => ?_⟩
  have hne : k ≠ w.heap.size := by
    intro e
    subst e
    rw [Col.set_same] at hc
    cases hc
  rw [Col.set_ne _ hne] at hc
  exact ⟨hc, hg.block k hk (by simpa using hne)⟩
def ClonePost {α : Type} (K : Kd α) (e0 : TypeId) (w : World) (c : Col) (l : List α) (e : Ending) (w' : World) : Prop :=
  ∃ A n cp cells, e = .returned (.slice A n cp) ∧ w'.ownsRow w.heap.size e0 K.sz (.slice A n cp) n cells ∧ Reps K w' c l cells ∧ l.length = n ∧ Below w.heap.size w w'
set_option maxHeartbeats 1000000 in
set_option maxRecDepth 100000 in
theorem CloneF_any (w : World) (c : Col) (A : Option Addr) (n cp : Nat) (l : List Fld) (hn : n ≤ 1000000000) (hw : Wf c w) (hx : Rd kFld w c A n cp l) :
    Calls Try.prog 56 #[.slice A n cp] w (ClonePost kFld 54 w c l) := by
  have hln := hx.1
  have HX := Lib.hid hx
  have HW := Lib.hid hw
  have HLN := Lib.hid hln
  clear hx hw hln
  cases A with
  | none =>
    have h0 : n = 0 := by
      have := HX.out.2.2.2
      by_cases h : 0 < n
      · obtain ⟨b, off, hh, _⟩ := this h
        cases hh
      · omega
    subst h0
    clear hn
    have he := fun W => Lib.run_eql_slice_nil_nil (P := Try.prog) W (t := 50) 0 cp Try.underlying50
    go_enter Try.func56, Try.ntmps56
    go_wp2_with fail
    refine bodyPost_ret (results_tmp rfl _ _ _) rfl ?_
    have hl0 := List.eq_nil_of_length_eq_zero HLN.out
    rw [hl0]
    exact ⟨none, 0, 0, [], rfl, World.ownsRow_nil _ _ _ _, Reps.nil _ _ _, rfl, Below.refl _ _⟩
  | some a =>
    have he := fun W => Lib.run_eql_slice_some_nil (P := Try.prog) W (t := 50) a n cp Try.underlying50
    by_cases h0 : n = 0
    · subst h0
      clear hn
      go_enter Try.func56, Try.ntmps56
      go_wp2_with fail
      refine bodyPost_ret (results_tmp rfl _ _ _) rfl ?_
      have hl0 := List.eq_nil_of_length_eq_zero HLN.out
      rw [hl0]
      exact ⟨some ⟨w.heap.size, 0, none⟩, 0, 0, [], rfl, own_empty3 w w _ _ (Nat.le_refl _), Reps.nil _ _ _, rfl, below_alloc _ _⟩
    · have hnp : 0 < n := by omega
      clear h0
      go_enter Try.func56, Try.ntmps56
      go_wp2_with (at_builtin; go_must (refine app_rows (K := kFld) (c := c.set w.heap.size w.heap.size) (.tmp 5) (.tmp 6) 50 54 (.agg #[.int .i64 0, .int .i64 0, .string ⟨#[]⟩]) 32 rfl rfl Try.underlying50 fld_info rfl [] l rfl rfl (by omega) (below_alloc _ _).size (own_empty3 w w _ _ (Nat.le_refl _)) (HX.out.hot_new _ _) (by omega) (by decide) ?_); intro A1 cp1 w1 cells2 q_hr q_ho q_hg; have HR1 := Lib.hid q_hr; have HO1 := Lib.hid q_ho; have HG1 := Lib.hid q_hg; clear q_hr q_ho q_hg)
      refine bodyPost_ret (results_tmp rfl _ _ _) rfl ?_
      refine ⟨A1, n, cp1, cells2, rfl, by simpa using HO1.out, HR1.out.keep (cool_new HW.out HG1.out), HLN.out, Below.stored (below_alloc _ _) HG1.out (by simp) (fun k hk => by cases hk; exact Nat.le_refl _)⟩
set_option maxHeartbeats 1000000 in
set_option maxRecDepth 100000 in
theorem CloneR_gen {α : Type} (K : Kd α) (h5 : K.sz = 5) (w : World) (c : Col) (A : Option Addr) (n cp : Nat) (l : List α) (hn : n ≤ 1000000000) (hw : Wf c w) (hx : Rd K w c A n cp l) :
    Calls Try.prog 57 #[.slice A n cp] w (ClonePost K 52 w c l) := by
  have hln := hx.1
  have HX := Lib.hid hx
  have HW := Lib.hid hw
  have HLN := Lib.hid hln
  clear hx hw hln
  cases A with
  | none =>
    have h0 : n = 0 := by
      have := HX.out.2.2.2
      by_cases h : 0 < n
      · obtain ⟨b, off, hh, _⟩ := this h
        cases hh
      · omega
    subst h0
    clear hn
    have he := fun W => Lib.run_eql_slice_nil_nil (P := Try.prog) W (t := 55) 0 cp Try.underlying55
    go_enter Try.func57, Try.ntmps57
    go_wp2_with fail
    refine bodyPost_ret (results_tmp rfl _ _ _) rfl ?_
    have hl0 := List.eq_nil_of_length_eq_zero HLN.out
    rw [hl0]
    exact ⟨none, 0, 0, [], rfl, World.ownsRow_nil _ _ _ _, Reps.nil _ _ _, rfl, Below.refl _ _⟩
  | some a =>
    have he := fun W => Lib.run_eql_slice_some_nil (P := Try.prog) W (t := 55) a n cp Try.underlying55
    by_cases h0 : n = 0
    · subst h0
      clear hn
      go_enter Try.func57, Try.ntmps57
      go_wp2_with fail
      refine bodyPost_ret (results_tmp rfl _ _ _) rfl ?_
      have hl0 := List.eq_nil_of_length_eq_zero HLN.out
      rw [hl0]
      exact ⟨some ⟨w.heap.size, 0, none⟩, 0, 0, [], rfl, own_empty3 w w _ _ (Nat.le_refl _), Reps.nil _ _ _, rfl, below_alloc _ _⟩
    · have hnp : 0 < n := by omega
      clear h0
      go_enter Try.func57, Try.ntmps57
      go_wp2_with (at_builtin; go_must (refine app_rows (K := K) (c := c.set w.heap.size w.heap.size) (.tmp 5) (.tmp 6) 55 52 (.agg #[.int .i64 0, .int .i64 0, .int .i64 0, .slice none 0 0, .bool false]) 56 rfl rfl Try.underlying55 (by rw [h5]; exact rep_info) (by rw [h5]; rfl) [] l rfl rfl (by omega) (below_alloc _ _).size (own_empty3 w w _ _ (Nat.le_refl _)) (HX.out.hot_new _ _) (by omega) (by decide) ?_); intro A1 cp1 w1 cells2 q_hr q_ho q_hg; have HR1 := Lib.hid q_hr; have HO1 := Lib.hid q_ho; have HG1 := Lib.hid q_hg; clear q_hr q_ho q_hg)
      refine bodyPost_ret (results_tmp rfl _ _ _) rfl ?_
      refine ⟨A1, n, cp1, cells2, rfl, by simpa using HO1.out, HR1.out.keep (cool_new HW.out HG1.out), HLN.out, Below.stored (below_alloc _ _) HG1.out (by simp) (fun k hk => by cases hk; exact Nat.le_refl _)⟩
section
variable {P : Program} {ops : Array Oper} {rest : List Oper} {o : Oper} {a : Act} {Q : Exit → Act → World → Prop}
/-- append(v, y) to a row of the call's own: nothing but its block turns. -/
theorem app_one_self2 {W : World} {c1 : Col} {lo : Nat} (s x : Operand) (t e : TypeId) (z : Value) (sz bytes : Nat) (hgd : o.guard = none)
    (ho : o.op = .call { callee := .builtin .append, args := #[s, x], argTypes := #[t, t] })
    (ht : P.underlying t = some (.slice e)) (hinfo : (P.info? e).map (fun i => (i.zero, i.size, i.bytes)) = some (some z, sz, bytes)) (hz : z.cells.size = sz) (hsz : 0 < sz) (hb0 : 0 < bytes)
    {A : Option Addr} {n cp : Nat} (cells : List Value) (ys : Array Value) (hys : ys.size = sz) (hs : a.eval s = .slice A n cp) (hx : a.eval x = .slice (some ⟨W.heap.size, 0, none⟩) 1 1) (h1 : ∀ u ∈ ys, u.oneCell' = true)
    (hw : Wf c1 W) (HO : OwnR W c1 lo e sz A n cp cells) (hlo2 : lo ≤ W.heap.size) (hl : (n + 1) * bytes ≤ 140737488355328)
    (h : ∀ A1 cp1 w1 c2, Tr (fun k => (Value.slice A n cp).ownBlock = some k) c1 c2 W w1 → OwnR w1 c2 lo e sz A1 (n + 1) cp1 (cells ++ ys.toList) → (∀ k, (Value.slice A1 (n + 1) cp1).ownBlock = some k → (Value.slice A n cp).ownBlock = some k ∨ W.heap.size ≤ k) → wpList P ops Q rest (a.put o.dst (.slice A1 (n + 1) cp1)) w1) :
    wpList P ops Q (o :: rest) a (W.alloc (.cells ys e)) := by
  obtain ⟨i0, hi, hzz⟩ := Option.map_eq_some_iff.1 hinfo
  simp only [Prod.mk.injEq] at hzz
  obtain ⟨hz0, hz1, hz2⟩ := hzz
  have hlen : n + 1 ≤ 140737488355328 := Nat.le_trans (Nat.le_mul_of_pos_right _ hb0) hl
  refine wpList_append_own_at (W.alloc (.cells ys e)) hgd s x t ho lo e i0 z sz bytes ht hi hz0 hz1 hz2 hz hsz (.slice A n cp) n cells hs (HO.1.alloc _) ⟨W.heap.size, 0, none⟩ 1 1 ys.toList hx
    (by simp [hys]) (World.news_of_block (cs := ys) (t := e) (fr := (0, 0)) (heap_alloc_new W _)) (by simpa using h1) (by simp only [maxLen]; omega) hl (by simp; omega) ?_
  intro v1 w1 hown hgr _ hat
  obtain ⟨A1, cp1, rfl⟩ := own_form hown
  have HT' := (Tr.refl (fun k => (Value.slice A n cp).ownBlock = some k) hw).alloc (Obj.cells ys e)
  have h2 := HT'.grown hgr fun k hk => ⟨k, HO.2 k hk, .inl hk⟩
  rcases hat with hat | hat
  · exact h A1 cp1 w1 c1 h2 ⟨hown, fun k hk => HO.2 k (by rw [← hat]; exact hk)⟩ (fun k hk => .inl (by rw [← hat]; exact hk))
  · have hlt := (hown.lt _ hat).2
    have hnew : ∀ k, (Value.slice A1 (n + 1) cp1).ownBlock = some k → (Value.slice A n cp).ownBlock = some k ∨ W.heap.size ≤ k := by
      intro k hk
      rw [hat] at hk
      cases hk
      right
      simp
    refine h A1 cp1 w1 (c1.set (W.alloc (.cells ys e)).heap.size (W.alloc (.cells ys e)).heap.size) (h2.hot HT'.size hlt hlt (.inr HT'.size)) ⟨hown, fun k hk => ?_⟩ hnew
    rw [hat] at hk
    cases hk
    exact Col.set_same _ _ _
/-- append(v, y) to a row that a state owns, as a step of a region that draws its order. -/
theorem step_one_st {W1 W9 : World} {c9 : Col} {g : Nat} {K : Act → World → Prop} {E : Prop} (s x : Operand) (t e : TypeId) (z : Value) (sz bytes : Nat) (hgd : o.guard = none)
    (ho : o.op = .call { callee := .builtin .append, args := #[s, x], argTypes := #[t, t] })
    (ht : P.underlying t = some (.slice e)) (hinfo : (P.info? e).map (fun i => (i.zero, i.size, i.bytes)) = some (some z, sz, bytes)) (hz : z.cells.size = sz) (hsz : 0 < sz) (hb0 : 0 < bytes)
    {A : Option Addr} {n cp B : Nat} (cells : List Value) (ys : Array Value) (hys : ys.size = sz) (hs : a.eval s = .slice A n cp) (hx : a.eval x = .slice (some ⟨B, 0, none⟩) 1 1) (h1 : ∀ u ∈ ys, u.oneCell' = true)
    (hB : Below W9.heap.size W9 W1) (hblk : W1.heap[B]? = some (.cells ys e (0, 0))) (hw : Wf c9 W9) (HO : OwnB W9 c9 g e sz (.slice A n cp) n cells) (hgW : g < W9.heap.size) (hl : (n + 1) * bytes ≤ 140737488355328)
    (h : ∀ A1 cp1 w1 c2, Tr (· = g) c9 c2 W9 w1 → OwnB w1 c2 g e sz (.slice A1 (n + 1) cp1) (n + 1) (cells ++ ys.toList) → (∀ j, j < W9.heap.size → c2 j = c9 j) →
      (∀ j, j < W9.heap.size → some j ≠ (Value.slice A n cp).ownBlock → w1.heap[j]? = W9.heap[j]?) → K (a.put o.dst (.slice A1 (n + 1) cp1)) w1) :
    if Region.wanted o (yielded ops a.tmps) = true then Oper.wp P o a W1 K Q else E := by
  have hwt : Region.wanted o (yielded ops a.tmps) = true := by simp [Region.wanted, hgd]
  rw [if_pos hwt]
  obtain ⟨i0, hi, hzz⟩ := Option.map_eq_some_iff.1 hinfo
  simp only [Prod.mk.injEq] at hzz
  obtain ⟨hz0, hz1, hz2⟩ := hzz
  have hlen : n + 1 ≤ 140737488355328 := Nat.le_trans (Nat.le_mul_of_pos_right _ hb0) hl
  have HO1 : OwnB W1 c9 g e sz (.slice A n cp) n cells := ⟨own_below HO.1 hB, HO.2⟩
  obtain ⟨v1, w1, hr, hown, hgr, _, hat⟩ := run_append_own_at (P := P) W1 0 t o.type e i0 z sz bytes ht hi hz0 hz1 hz2 hz hsz (.slice A n cp) n cells HO1.1 ⟨B, 0, none⟩ 1 1 ys.toList
    (by simp [hys]) (World.news_of_block (cs := ys) (t := e) (fr := (0, 0)) hblk) (by simpa using h1) (by simp only [maxLen]; omega) hl (by omega)
  unfold Oper.wp execOp
  simp only [ho, resolve, invoke, builtin, Sem.run_bind, Sem.run_pure, Result.andThen_ok, List.map_toArray, List.map_cons, List.map_nil, hs, hx, hr]
  obtain ⟨A1, cp1, rfl⟩ := own_form hown
  have hlt : ∀ j, j < W9.heap.size → j < W1.heap.size := fun j hj => Nat.lt_of_lt_of_le hj hB.size
  obtain ⟨c2, t1, t2, t3⟩ := grown_col (Tr.of_below (M := (· = g)) hw hB) HO1 (.inl rfl) (hlt g hgW) hgr hown hat
  exact h A1 cp1 w1 c2 t1 t2 (fun j hj => t3 j (hlt j hj)) (fun j hj hne => (hgr.block j (hlt j hj) hne).trans (hB.block j hj))
end
theorem Boxes.far {w w' : World} {c c' : Col} {g : Nat} {φ : List UInt8 → Option Addr} {S : Sd} (h : Boxes w c g φ S) (hc : ∀ j, j < w.heap.size → c' j = c j)
    (ho : ∀ (j : Nat) (cs : Array Value), w.heap[j]? = some (Obj.cells cs 114 (0, 0)) → w'.heap[j]? = w.heap[j]?) : Boxes w' c' g φ S := by
  intro x
  obtain ⟨hl, hx⟩ := h x
  refine ⟨hl, ?_⟩
  rcases hx with hx | ⟨b, h1, h2, h3, h4⟩
  · exact .inl hx
  · exact .inr ⟨b, h1, by rw [hc b (blk_lt h3)]; exact h2, by rw [ho b _ h3]; exact h3, h4⟩
theorem Dsk.taken {w : World} {c : Col} {g : Nat} {f : Int} {S : Sd} {T : List Rep} {N : Nat} (h : Dsk w c g f S T N) : T.length ≤ N := by
  obtain ⟨hg, m, A, n, cp, φ, cells, h1, h2, h3, h4, h5, h6, h7, h8⟩ := h
  omega
/-- A desk whose row of taken replies has grown. -/
theorem Dsk.grew {w w1 : World} {c c1 : Col} {g : Nat} {f : Int} {S : Sd} {T : List Rep} {N : Nat} {x : Rep} {m n cp cp1 : Nat} {A A1 : Option Addr} {φ : List UInt8 → Option Addr} {cells ys : List Value}
    (hg : c g = some g) (h1 : w.heap[g]? = some (.cells #[.int .i64 f, .map (some m), .slice A n cp] 94 (0, 0))) (h2 : c m = some g) (h3 : MapP w m N φ) (h4 : Boxes w c g φ S) (h5 : OwnB w c g 52 5 (.slice A n cp) n cells) (h6 : Reps kRep w c T cells) (h7 : T.length = n) (hN : n + 1 ≤ N)
    (k1 : Tr (· = g) c c1 w w1) (k2 : OwnB w1 c1 g 52 5 (.slice A1 (n + 1) cp1) (n + 1) (cells ++ ys)) (k3 : ∀ j, j < w.heap.size → c1 j = c j) (k4 : ∀ j, j < w.heap.size → some j ≠ (Value.slice A n cp).ownBlock → w1.heap[j]? = w.heap[j]?) (hx : kRep.rep w c x ys) :
    Tr (· = g) c c1 w (w1.setCell ⟨g, 2, none⟩ (.slice A1 (n + 1) cp1)) ∧ Dsk (w1.setCell ⟨g, 2, none⟩ (.slice A1 (n + 1) cp1)) c1 g f S (T ++ [x]) N := by
  have hgl := blk_lt h1
  have hg1 : w1.heap[g]? = some (.cells #[.int .i64 f, .map (some m), .slice A n cp] 94 (0, 0)) := by rw [k4 g hgl (own_block_ne h5.1 h1 (by decide))]; exact h1
  have hcg : c1 g = some g := by rw [k3 g hgl]; exact hg
  have t1 := k1.setCell (p := ⟨g, 2, none⟩) hcg (.inl rfl) (.slice A1 (n + 1) cp1)
  have hml := h3.lt
  have hmg : m ≠ g := by
    intro e
    subst e
    obtain ⟨es, cl, hh⟩ := h3.isMap
    rw [h1] at hh
    cases hh
  have hmo : some m ≠ (Value.slice A n cp).ownBlock := by
    intro e
    rcases h5.1.2 with ⟨he, _⟩ | ⟨g', cap, cur, he, _, hh, _⟩
    · rw [he] at e; cases e
    · rw [he] at e
      cases e
      obtain ⟨es, cl, hh'⟩ := h3.isMap
      rw [hh] at hh'
      cases hh'
  refine ⟨t1, hcg, m, A1, n + 1, cp1, φ, cells ++ ys, blk_set hg1 2 _, by rw [k3 m hml]; exact h2, (h3.same (k4 m hml hmo)).same (heap_of_setCell _ _ _ _ hmg), Boxes.far h4 k3 (fun j cs hj => ?_), k2.far hg1 (by decide) 2 _, (h6.keep t1.kp).append (Reps.one (kRep.keep hx t1.kp)), by simp [h7], hN⟩
  have hjg : j ≠ g := by
    intro e
    subst e
    rw [h1] at hj
    simp at hj
  rw [heap_of_setCell _ _ _ _ hjg, k4 j (blk_lt hj) (own_block_ne h5.1 hj (by decide))]
theorem CloneF_rd (w : World) (c : Col) (A : Option Addr) (n cp : Nat) (l : List Fld) (hn : n ≤ 1000000000) (hw : Wf c w) (hx : Rd kFld w c A n cp l) :
    Calls Try.prog 56 #[.slice A n cp] w fun e w' => ∃ A' n' cp', e = .returned (.slice A' n' cp') ∧ Rd kFld w' c A' n' cp' l ∧ Below w.heap.size w w' := by
  refine (CloneF_any w c A n cp l hn hw hx).mono ?_
  rintro e w' ⟨A', n', cp', cells, rfl, ho, hr, hl, hb⟩
  obtain ⟨A2, cp2, he, hR⟩ := hr.rd ho hl (fun k hk => hw.fresh (ho.lt k hk).1)
  cases he
  exact ⟨A', n', cp', rfl, hR, hb⟩
theorem Tr.cool {M : Nat → Prop} {c c' : Col} {w w' : World} (h : Tr M c c' w w') (b : Nat) (hb : w.heap.size ≤ b) : Tr M c (fun k => if k = b then none else c' k) w w' := by
  refine ⟨h.os, h.tape, h.output, h.size, h.wf0, fun k g hk => ?_, fun k hk => ?_, fun k g hk hc => ?_, h.cold⟩
  · split at hk
    · cases hk
    · exact h.wf k g hk
  · rw [if_neg (by omega)]; exact h.col k hk
  · split at hc
    · cases hc
    · exact h.own k g hk hc
theorem Dsk.cool {w : World} {c : Col} {g : Nat} {f : Int} {S : Sd} {T : List Rep} {N : Nat} (h : Dsk w c g f S T N) (b : Nat) (hb : c b ≠ some g) : Dsk w (fun k => if k = b then none else c k) g f S T N := by
  have hc : ∀ j, c j = some g → (fun k => if k = b then none else c k) j = some g := by
    intro j hj
    have : j ≠ b := fun e => by subst e; exact hb hj
    simp only [if_neg this]
    exact hj
  obtain ⟨hg, m, A, n, cp, φ, cells, h1, h2, h3, h4, h5, h6, h7, h8⟩ := h
  refine ⟨hc g hg, m, A, n, cp, φ, cells, h1, hc m h2, h3, fun k => ?_, ⟨h5.1, fun k hk => hc k (h5.2 k hk)⟩, h6.keep (Kp.of_col w fun k hk hn => by split <;> simp_all), h7, h8⟩
  obtain ⟨hl, hh⟩ := h4 k
  refine ⟨hl, ?_⟩
  rcases hh with hh | ⟨b', h1, h2, h3, h4⟩
  · exact .inl hh
  · exact .inr ⟨b', h1, hc b' h2, h3, h4⟩
end Go.Proofs.Ytladpckbajnbeaa
