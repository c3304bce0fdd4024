/- The law WalKeeps: its walk. -/
import Derived.Test.YtalihocoekplgaaWalO
import Derived.Test.YtalihocoekplgaaOpenD
set_option linter.unusedVariables false
set_option linter.unusedSimpArgs false
namespace Go.Proofs.Ytalihocoekplgaa
open Go.RowKit

theorem LPut_okD (w : World) (c : Col) (gl g n : Nat) (Y : List (List UInt8)) (D : Dt) (N : Nat) (recs : List (List UInt8)) (used : Nat) (A : Option Addr) (m cp : Nat) (b : List UInt8) (h1 : 1 ≤ m) (h2 : m ≤ 20000) (hf : used + secN m ≤ n) (hN : N ≤ 900000) (hw : Wf c w) (hL : LD w c gl g n Y D N recs used) (hx : Rd kU8 w c A m cp b) :
    Calls Try.prog 27 #[.pointer (some ⟨gl, 0, none⟩), .slice A m cp] w fun e w' => e = .returned (.int .i64 0) ∧ ∃ c', Tr (fun r => r = gl ∨ r = g) c c' w w' ∧ LD w' c' gl g n Y (putD D used (recB b recs.length) (secN m)) (N + 400) (recs ++ [b]) (used + secN m) := by
  have hbl := hx.len
  obtain ⟨u1, u2, u3⟩ := hL.used
  obtain ⟨f1, f2, f3, f4⟩ := hL.1.facts
  refine (WPut_ok w c gl g n recs.length used Y D N A m cp b h1 h2 (by omega) hN hf hL.2.2.2 hw hL.1 hL.2.1 hx).mono ?_
  rintro e w' ⟨rfl, c', ht, hd, hl⟩
  have hc := hL.2.2.1.put (b := b) f2 f3 (by omega) (by omega) (by rw [hbl, f1]; exact hf) (by omega)
  rw [hbl] at hc
  exact ⟨rfl, c', ht, hd.mono (by unfold secN; omega), by rw [List.length_append]; exact hl, hc, hL.2.2.2⟩
theorem LD.more {w : World} {c : Col} {gl g n : Nat} {Y : List (List UInt8)} {D : Dt} {N N' : Nat} {recs : List (List UInt8)} {used : Nat} (h : LD w c gl g n Y D N recs used) (hN : N ≤ N') : LD w c gl g n Y D N' recs used := ⟨h.1.mono hN, h.2⟩
/-- Both disks, both logs; the records are these. -/
def SK (w : World) (c : Col) (g gx gl gq n : Nat) (Y : List (List UInt8)) (D : Dt) (N : Nat) (recs : List (List UInt8)) (used : Nat) : Prop :=
  LD w c gl g n Y D N recs used ∧ RDk w c gx n (relR Y D) ∧ Lr w c gq gx recs.length used
theorem blk_ne2 {w : World} {a b : Nat} {cs cs' : Array Value} {t t' : TypeId} {fr fr' : Nat × Nat} (h : w.heap[a]? = some (.cells cs t fr)) (k : w.heap[b]? = some (.cells cs' t' fr')) (hn : t ≠ t') : a ≠ b := by
  rintro rfl
  rw [h] at k
  injection k with k
  injection k with _ k
  exact hn k
theorem SK.ne {w : World} {c : Col} {g gx gl gq n : Nat} {Y : List (List UInt8)} {D : Dt} {N : Nat} {recs : List (List UInt8)} {used : Nat} (h : SK w c g gx gl gq n Y D N recs used) : g ≠ gx ∧ gl ≠ g ∧ gl ≠ gx ∧ gq ≠ g ∧ gq ≠ gx ∧ gl ≠ gq := by
  obtain ⟨⟨h1, h3, _⟩, h2, h4⟩ := h
  obtain ⟨_, _, _, _, k1, _⟩ := h1
  obtain ⟨_, _, _, k2, _⟩ := h2
  exact ⟨blk_ne2 k1 k2 (by decide), blk_ne2 h3.2 k1 (by decide), blk_ne2 h3.2 k2 (by decide), blk_ne2 h4.2 k1 (by decide), blk_ne2 h4.2 k2 (by decide), blk_ne2 h3.2 h4.2 (by decide)⟩
theorem SK.tr {M : Nat → Prop} {w w' : World} {c c' : Col} {g gx gl gq n : Nat} {Y : List (List UInt8)} {D : Dt} {N : Nat} {recs : List (List UInt8)} {used : Nat} (h : SK w c g gx gl gq n Y D N recs used) (k : Tr M c c' w w') (h1 : ¬ M g) (h2 : ¬ M gx) (h3 : ¬ M gl) (h4 : ¬ M gq) : SK w' c' g gx gl gq n Y D N recs used :=
  ⟨h.1.tr k h3 h1, h.2.1.tr k h2, h.2.2.tr k h4⟩
theorem Chain.short {Z : List (List UInt8)} : ∀ {recs : List (List UInt8)} {used num u' : Nat}, Chain Z used num recs u' → (∀ x ∈ recs, x.length ≤ 150) → u' ≤ used + 3 * recs.length
  | [], used, num, u', h, _ => by
    have e : used = u' := h
    simp
    omega
  | x :: xs, used, num, u', h, hx => by
    obtain ⟨h1, h2⟩ := h
    have h3 := Chain.short h2 (fun y hy => hx y (by simp [hy]))
    have h4 := hx x (by simp)
    have h5 : secN x.length ≤ 3 := by unfold secN; omega
    simp only [List.length_cons]
    omega
/-- One step: both put a record. -/
theorem SK.put {w w5 w6 : World} {c c5 : Col} {g gx gl gq n : Nat} {Y : List (List UInt8)} {D : Dt} {N : Nat} {recs : List (List UInt8)} {used m : Nat} {b : List UInt8} (h : SK w c g gx gl gq n Y D N recs used) (t5 : Tr (fun r => r = gl ∨ r = g) c c5 w w5) (l5 : LD w5 c5 gl g n Y (putD D used (recB b recs.length) (secN m)) (N + 400) (recs ++ [b]) (used + secN m))
    (t6 : Tr (fun r => r = gq ∨ r = gx) c5 c5 w5 w6) (d6 : RDk w6 c5 gx n (relR Y (putD D used (recB b recs.length) (secN m)))) (l6 : Lr w6 c5 gq gx (recs.length + 1) (used + secN m)) : SK w6 c5 g gx gl gq n Y (putD D used (recB b recs.length) (secN m)) (N + 400) (recs ++ [b]) (used + secN m) := by
  obtain ⟨n1, n2, n3, n4, n5, n6⟩ := h.ne
  exact ⟨l5.tr t6 (fun h => by rcases h with h | h; exact n6 h; exact n3 h) (fun h => by rcases h with h | h; exact n4 h.symm; exact n1 h), d6, by rw [List.length_append]; exact l6⟩
section
variable {P : Program} {ops : Array Oper} {rest : List Oper} {o : Oper} {a : Act} {Q : Exit → Act → World → Prop}
/-- append(v, ys...) to a row that is a root of its own: what else there is stays. -/
theorem app_rows_self {α : Type} {K : Kd α} {W w : World} {c c1 : Col} {M : Nat → Prop} {lo : Nat} (s x : Operand) (t e : TypeId) (z : Value) (bytes : Nat) (hgd : o.guard = none)
    (ho : o.op = .call { callee := .builtin .append, args := #[s, x], argTypes := #[t, t] })
    (ht : P.underlying t = some (.slice e)) (hinfo : (P.info? e).map (fun i => (i.zero, i.size, i.bytes)) = some (some z, K.sz, bytes)) (hz : z.cells.size = K.sz) (hb0 : 0 < bytes)
    {A B : Option Addr} {n cp m cq : Nat} (cells : List Value) (ys : List α) (hs : a.eval s = .slice A n cp) (hx : a.eval x = .slice B m cq)
    (HT : Tr M c c1 w W) (HO : OwnR W c1 lo e K.sz A n cp cells) (HR : Rd K W c1 B m cq ys) (hlo : w.heap.size ≤ lo) (hlo2 : lo ≤ W.heap.size) (hl : (n + m) * bytes ≤ 140737488355328)
    (h : ∀ A1 cp1 w1 c2 cells2, Reps K W c1 ys cells2 → Tr M c c2 w w1 → OwnR w1 c2 lo e K.sz A1 (n + m) cp1 (cells ++ cells2) → W.heap.size ≤ w1.heap.size →
      (∀ k, k < W.heap.size → some k ≠ (Value.slice A n cp).ownBlock → w1.heap[k]? = W.heap[k]?) → Kp c1 c2 W w1 → (∀ k, k < W.heap.size → c2 k = c1 k) → wpList P ops Q rest (a.put o.dst (.slice A1 (n + m) cp1)) w1) :
    wpList P ops Q (o :: rest) a W := by
  obtain ⟨i0, hi, hzz⟩ := Option.map_eq_some_iff.1 hinfo
  simp only [Prod.mk.injEq] at hzz
  obtain ⟨hz0, hz1, hz2⟩ := hzz
  have hlen : n + m ≤ 140737488355328 := Nat.le_trans (Nat.le_mul_of_pos_right _ hb0) hl
  rcases B with _ | ad
  · have h0 : m = 0 := by
      rcases Nat.eq_zero_or_pos m with h0 | h0
      · exact h0
      · obtain ⟨b, off, e⟩ := HR.addr h0; cases e
    subst h0
    obtain rfl : ys = [] := List.eq_nil_of_length_eq_zero HR.1
    refine wpList_plain hgd fun K' hK => ?_
    have hr : (Builtin.append_ #[t, t] o.type #[.slice A n cp, .slice none 0 cq]).run P W = .ok (.slice A n cp) W := by
      rcases HO.1.2 with ⟨hv, hn⟩ | ⟨g, cap, cur, hv, _, _, hnc, _⟩
      · cases hv; simp [Builtin.append_, run_underlying ht, sizeOf, typeInfo, hi, Builtin.lenOf, Builtin.firstCells]
      · cases hv; simp [Builtin.append_, run_underlying ht, sizeOf, typeInfo, hi, Builtin.lenOf, Builtin.firstCells, hnc, storeCells]
    unfold Oper.wp execOp
    simp only [ho, resolve, invoke, builtin, Sem.run_bind, Sem.run_pure, Result.andThen_ok, List.map_toArray, List.map_cons, List.map_nil, hs, hx, hr]
    exact hK _ _ (h A cp W c1 [] (Reps.nil _ _ _) HT (by simpa using HO) (Nat.le_refl _) (fun _ _ _ => rfl) (Kp.of_below (Below.refl _ _)) (fun _ _ => rfl))
  · obtain ⟨cells2, hr2, hc2⟩ : ∃ cells2, Reps K W c1 ys cells2 ∧ ∀ j u, cells2[j]? = some u → W.cell? (ad.add j) = some u := by
      rcases Nat.eq_zero_or_pos m with h0 | h0
      · subst h0
        obtain rfl : ys = [] := List.eq_nil_of_length_eq_zero HR.1
        exact ⟨[], Reps.nil _ _ _, fun j u hj => by simp at hj⟩
      · obtain ⟨b, off, e⟩ := HR.addr h0
        cases e
        exact HR.reps
    refine wpList_append_own_at W hgd s x t ho lo e i0 z K.sz bytes ht hi hz0 hz1 hz2 hz K.pos (.slice A n cp) n cells hs HO.1 ad m cq cells2 hx
      (by rw [hr2.1, HR.1]) hc2 hr2.oneCell (by simp only [maxLen]; omega) hl hlo2 ?_
    intro v1 w1 hown hgr _ hat
    obtain ⟨A1, cp1, rfl⟩ := own_form hown
    have h2 := HT.grown hgr fun k hk => ⟨k, HO.2 k hk, .inr (by have := (HO.1.lt k hk).1; omega)⟩
    have hkp : ∀ c2 : Col, (∀ k, k < W.heap.size → c2 k = c1 k) → Kp c1 c2 W w1 := by
      intro c2 hc2
      refine ⟨hgr.size, fun k hk hck => ⟨by rw [hc2 k hk]; exact hck, ?_⟩⟩
      exact hgr.block k hk (fun e => by have := HO.2 k e.symm; rw [hck] at this; cases this)
    rcases hat with hat | hat
    · exact h A1 cp1 w1 c1 cells2 hr2 h2 ⟨hown, fun k hk => HO.2 k (by rw [← hat]; exact hk)⟩ hgr.size (fun k hk hne => hgr.block k hk hne) (hkp c1 fun _ _ => rfl) fun _ _ => rfl
    · have hlt := (hown.lt _ hat).2
      have hc2 : ∀ k, k < W.heap.size → (c1.set W.heap.size W.heap.size) k = c1 k := fun k hk => Col.set_ne _ (by omega)
      refine h A1 cp1 w1 (c1.set W.heap.size W.heap.size) cells2 hr2 (h2.hot HT.size hlt hlt (.inr HT.size)) ⟨hown, fun k hk => ?_⟩ hgr.size (fun k hk hne => hgr.block k hk hne) (hkp _ hc2) hc2
      rw [hat] at hk
      cases hk
      exact Col.set_same _ _ _
end
theorem LD.keepB {W w1 : World} {c1 c2 : Col} {gl g n : Nat} {Y : List (List UInt8)} {D : Dt} {N : Nat} {recs : List (List UInt8)} {used lo n9 cp9 : Nat} {A9 : Option Addr} {cells : List Value} (h : LD W c1 gl g n Y D N recs used) (hO : OwnR W c1 lo 23 1 A9 n9 cp9 cells) (hwf : Wf c1 W)
    (hb : ∀ k, k < W.heap.size → some k ≠ (Value.slice A9 n9 cp9).ownBlock → w1.heap[k]? = W.heap[k]?) (hc : ∀ k, k < W.heap.size → c2 k = c1 k) : LD w1 c2 gl g n Y D N recs used := by
  obtain ⟨h1, h2, h3⟩ := h
  have hgb : some g ≠ (Value.slice A9 n9 cp9).ownBlock := by
    obtain ⟨_, _, _, _, k1, _⟩ := h1
    exact own_block_ne hO.1 k1 (by decide)
  have hglb : some gl ≠ (Value.slice A9 n9 cp9).ownBlock := own_block_ne hO.1 h2.2 (by decide)
  have hk : ∀ k r, c1 k = some r → r = g ∨ r = gl → w1.heap[k]? = W.heap[k]? ∧ c2 k = some r := fun k r hr hg => by
    have hlt := (hwf k r hr).1
    refine ⟨hb k hlt (fun e => ?_), (hc k hlt).trans hr⟩
    have := hO.2 k e.symm
    rw [hr] at this
    have e2 := Option.some.inj this
    subst e2
    rcases hg with hg | hg
    · subst hg
      exact hgb e
    · subst hg
      exact hglb e
  refine ⟨?_, ⟨(hk gl gl h2.1 (.inr rfl)).2, (hk gl gl h2.1 (.inr rfl)).1.trans h2.2⟩, h3⟩
  obtain ⟨hg, A, cp, m, k1, k2, k3, k4, k5⟩ := h1
  exact ⟨(hk g g hg (.inl rfl)).2, A, cp, m, (hk g g hg (.inl rfl)).1.trans k1, (hk m g k2 (.inl rfl)).2, k3.same (hk m g k2 (.inl rfl)).1, ⟨own_same k4.1 (fun k hk2 => (hk k g (k4.2 k hk2) (.inl rfl)).1), fun k hk2 => (hk k g (k4.2 k hk2) (.inl rfl)).2⟩, k5⟩
theorem Rd.one1 {α : Type} {K : Kd α} {w : World} {c : Col} (hc : Wf c w) (t : TypeId) {A1 : Option Addr} {n1 p1 : Nat} {x1 : List α} (h1 : Rd K w c A1 n1 p1 x1) :
    Rd (kSl K) (w.alloc (.cells #[.slice A1 n1 p1] t)) c (some ⟨w.heap.size, 0, none⟩) 1 1 [x1] := by
  refine Rd.lits hc t _ [x1] (by simp) fun j x hj => ?_
  match j, hj with
  | 0, hj => simp at hj; subst hj; exact ⟨_, _, _, rfl, h1⟩
  | j + 1, hj => simp at hj
theorem own_LD {W w' : World} {c c' : Col} {gl g n : Nat} {Y : List (List UInt8)} {D : Dt} {N : Nat} {recs : List (List UInt8)} {used lo n9 cp9 : Nat} {A9 : Option Addr} {cells : List Value} (h : LD W c gl g n Y D N recs used) (hO : OwnR W c lo 23 1 A9 n9 cp9 cells) (t : Tr (fun r => r = gl ∨ r = g) c c' W w') : OwnR w' c' lo 23 1 A9 n9 cp9 cells := by
  obtain ⟨h1, h2, _⟩ := h
  obtain ⟨_, _, _, _, k1, _⟩ := h1
  refine hO.keep t fun k hk hM => ?_
  rcases hM with rfl | rfl
  · exact own_block_ne hO.1 h2.2 (by decide) hk.symm
  · exact own_block_ne hO.1 k1 (by decide) hk.symm
theorem own_d {W w' : World} {c c' : Col} {g n : Nat} {Y : List (List UInt8)} {D : Dt} {N lo n9 cp9 : Nat} {A9 : Option Addr} {cells : List Value} (h : Dk W c g n Y D N) (hO : OwnR W c lo 23 1 A9 n9 cp9 cells) (t : Tr (· = g) c c' W w') : OwnR w' c' lo 23 1 A9 n9 cp9 cells := by
  obtain ⟨_, _, _, _, k1, _⟩ := h
  exact hO.tr t k1 (by decide)
theorem own_g {W w' : World} {c c' : Col} {gl g n : Nat} {Y : List (List UInt8)} {D : Dt} {N : Nat} {recs : List (List UInt8)} {used lo n9 cp9 : Nat} {A9 : Option Addr} {cells : List Value} (h : LD W c gl g n Y D N recs used) (hO : OwnR W c lo 23 1 A9 n9 cp9 cells) (t : Tr (· = g) c c' W w') : OwnR w' c' lo 23 1 A9 n9 cp9 cells := own_d h.1 hO t
theorem own_rows {W : World} {c : Col} {lo n9 cp9 : Nat} {A9 : Option Addr} {xs : List (List UInt8)} {cells : List Value} (h : Reps (kSl kU8) W c xs cells) (hO : OwnR W c lo 23 1 A9 n9 cp9 cells) : xs.length = n9 := by
  have h1 := h.1
  have h2 := hO.len
  have e : (kSl kU8).sz = 1 := rfl
  rw [e] at h1
  omega
theorem row_infoK : (Try.prog.info? 23).map (fun i => (i.zero, i.size, i.bytes)) = some (some (.slice none 0 0), (kSl kU8).sz, 24) := by kernel_rfl
theorem told_end {w w1 w2 : World} {c : Col} (h : Tr (fun _ => False) (fun _ => none) c w w1) (k : Below w1.heap.size w1 w2) : Below w.heap.size w w2 := (h.then (Tr.of_below h.wf k)).below (fun _ _ h => h)
set_option maxRecDepth 100000 in
set_option maxHeartbeats 8000000 in
theorem WalKeeps_any (w : World) (A0 : Option Addr) (n0 cp0 : Nat) (L : List (List UInt8)) (synced : Int) (A2 : Option Addr) (n2 cp2 : Nat) (keep : List Int) (torn nx : Int) (A5 : Option Addr) (n5 cp5 : Nat) (Mo : List (List UInt8))
    (hx0 : Rd (kSl kU8) w (fun _ => none) A0 n0 cp0 L) (hx2 : Rd kInt w (fun _ => none) A2 n2 cp2 keep) (hx5 : Rd (kSl kU8) w (fun _ => none) A5 n5 cp5 Mo) :
    Calls Try.prog 8 #[.slice A0 n0 cp0, .int .i64 synced, .slice A2 n2 cp2, .int .i64 torn, .int .i64 nx, .slice A5 n5 cp5] w (BoolPost w true) := by
  have hln0 := hx0.1
  have hm0 := hx0.max
  have hln5 := hx5.1
  have hm5 := hx5.max
  have hm2 := hx2.max
  have HX0 := Lib.hid hx0
  have HLN0 := Lib.hid hln0
  have HX2 := Lib.hid hx2
  have HX5 := Lib.hid hx5
  have HLN5 := Lib.hid hln5
  clear hx0 hln0 hx2 hx5 hln5
  go_enter Try.func8, Try.ntmps8
  go_wp2_with fail
  refine (KNew_ok w (fun _ => none) 60 (by omega) (Wf.none w)).mono ?_
  rintro e w1 ⟨g, c1, rfl, q_HT1, hg, q_HD1⟩
  have HT1 := Lib.hid q_HT1
  have HD1 := Lib.hid q_HD1
  clear q_HT1 q_HD1
  by_cases hgood : n0 ≤ 12 ∧ n5 ≤ 6 ∧ n2 ≤ 60
  case neg =>
    have hb2 : Hid (12 < n0 ∨ (n0 ≤ 12 ∧ 6 < n5) ∨ (n0 ≤ 12 ∧ n5 ≤ 6 ∧ 60 < n2)) := by
      show _ ∨ _
      omega
    clear hgood
    rcases hb2.out with f1 | ⟨f1, f2⟩ | ⟨f1, f2, f3⟩
    · have f1' : (12 : Int) < (n0 : Int) := by omega
      clear hb2
      go_wp2_with fail
      refine (told17 _).mono ?_
      rintro e w99 ⟨rfl, q_HB99⟩
      have HB99 := Lib.hid q_HB99
      clear q_HB99
      go_wp2_with fail
      refine bodyPost_ret (results_tmp rfl _ _ _) rfl ?_
      exact ⟨rfl, told_end HT1.out HB99.out⟩
    · have f1' : ¬ (12 : Int) < (n0 : Int) := by omega
      have f2' : (6 : Int) < (n5 : Int) := by omega
      clear hb2
      go_wp2_with fail
      refine (told17 _).mono ?_
      rintro e w99 ⟨rfl, q_HB99⟩
      have HB99 := Lib.hid q_HB99
      clear q_HB99
      go_wp2_with fail
      refine bodyPost_ret (results_tmp rfl _ _ _) rfl ?_
      exact ⟨rfl, told_end HT1.out HB99.out⟩
    · have f1' : ¬ (12 : Int) < (n0 : Int) := by omega
      have f2' : ¬ (6 : Int) < (n5 : Int) := by omega
      have f3' : (60 : Int) < (n2 : Int) := by omega
      clear hb2
      go_wp2_with fail
      refine (told17 _).mono ?_
      rintro e w99 ⟨rfl, q_HB99⟩
      have HB99 := Lib.hid q_HB99
      clear q_HB99
      go_wp2_with fail
      refine bodyPost_ret (results_tmp rfl _ _ _) rfl ?_
      exact ⟨rfl, told_end HT1.out HB99.out⟩
  obtain ⟨f1, f2, f3⟩ := hgood
  have f1' : ¬ (12 : Int) < (n0 : Int) := by omega
  have f2' : ¬ (6 : Int) < (n5 : Int) := by omega
  have f3' : ¬ (60 : Int) < (n2 : Int) := by omega
  go_wp2_with fail
  refine (LOpen_any w1 c1 g 60 _ _ 0 (by omega) HT1.out.wf HD1.out).mono ?_
  rintro e w2 ⟨gl, A3, m3, cp3, rfl, recs3, used3, c2, q_HF3, hgl0, q_HT2, q_HL2, q_HRD3⟩
  have HF3 := Lib.hid q_HF3
  have HT2 := Lib.hid q_HT2
  have HL2 := Lib.hid q_HL2
  have HRD3 := Lib.hid q_HRD3
  clear q_HF3 q_HT2 q_HL2 q_HRD3
  obtain ⟨rfl, rfl⟩ : [] = recs3 ∧ 0 = used3 := by
    have h := HF3.out
    rw [syncY_none] at h
    exact (clean_new 60).finds.uniq h
  have hgl : w.heap.size ≤ gl := by have := HT1.out.size; omega
  have HTW2 := Lib.hid (HT1.out.low HT2.out hg)
  go_wp2_with fail
  refine (RNew_any w2 c2 60 (by omega) HTW2.out.wf).mono ?_
  rintro e w3 ⟨gx, c3, rfl, q_HT3, hgx0, q_HR3⟩
  have HT3 := Lib.hid q_HT3
  have HR3 := Lib.hid q_HR3
  clear q_HT3 q_HR3
  have hgx : w.heap.size ≤ gx := by have := HTW2.out.size; omega
  have HTW3 := Lib.hid (HTW2.out.then HT3.out)
  have hr3 := HR3.out
  rw [← relR_new] at hr3
  have HRR3 := Lib.hid hr3
  clear hr3
  go_wp2_with fail
  refine (RLOpen_any w3 c3 gx 60 _ _ (by simp) HTW3.out.wf HRR3.out).mono ?_
  rintro e w4 ⟨gq, A4, m4, cp4, rfl, recs4, used4, c4, q_HF4, hgq0, q_HT4, q_HRR4, q_HLR4, q_HRD4⟩
  have HF4 := Lib.hid q_HF4
  have HT4 := Lib.hid q_HT4
  have HRR4 := Lib.hid q_HRR4
  have HLR4 := Lib.hid q_HLR4
  have HRD4 := Lib.hid q_HRD4
  clear q_HF4 q_HT4 q_HRR4 q_HLR4 q_HRD4
  obtain ⟨rfl, rfl⟩ := HF3.out.uniq HF4.out
  have hgq : w.heap.size ≤ gq := by have := HTW3.out.size; omega
  have HTW4 := Lib.hid (HTW3.out.low HT4.out hgx)
  have hL3 := HL2.out.tr HT3.out (fun h => h) (fun h => h)
  have hneg : gl ≠ gx ∧ g ≠ gx := by
    obtain ⟨_, _, _, hb, _⟩ := HRR3.out
    have hd := hL3.1
    obtain ⟨_, _, _, _, k1, _⟩ := hd
    exact ⟨blk_ne2 hL3.2.1.2 hb (by decide), blk_ne2 k1 hb (by decide)⟩
  have hs4 : SK w4 c4 g gx gl gq 60 (cleanZ (syncY (List.replicate 60 zsec) fun _ => none) 0) (fun _ => none) 0 [] 0 := ⟨hL3.tr HT4.out hneg.1 hneg.2, HRR4.out, HLR4.out⟩
  obtain ⟨Y0, hY0⟩ : ∃ Y0, cleanZ (syncY (List.replicate 60 zsec) fun _ => none) 0 = Y0 := ⟨_, rfl⟩
  rw [hY0] at hs4
  have HS4 := Lib.hid hs4
  clear hs4
  clear hY0 hL3 hneg HF3 HF4 HRD3 HRD4 HL2 HR3 HRR3 HRR4 HLR4 HTW2 HTW3 HT1 HT2 HT3 HT4 HD1
  obtain ⟨np, hnp⟩ : ∃ np : Nat, np = n0 + 1 := ⟨_, rfl⟩
  have hwn : IntKind.i64.wrap ((n0 : Int) + 1) = (np : Int) := by rw [hnp]; exact wrap_succ n0 (by omega)
  have hun : IntKind.u64.wrap (np : Int) = (np : Int) := by
    show (np : Int) % 18446744073709551616 = _
    omega
  obtain ⟨kk, hkk, hkl⟩ := remS synced np (by omega) (by omega)
  have HNP := Lib.hid hnp
  clear hnp
  go_wp2_with fail
  have hkl' : kk ≤ n0 := by have := HNP.out; omega
  rw [hkk]
  clear f1' f2' f3' hwn hun hkk hkl HNP
  go_loopw [22] (fun i wr => ∃ (j used : Nat) (c' : Col) (Y : List (List UInt8)) (D : Dt), i = .int .i64 (j : Int) ∧ j ≤ n0 ∧ used ≤ 3 * j ∧ Hid (Tr (fun _ => False) (fun _ => none) c' w wr) ∧ Hid (SK wr c' g gx gl gq 60 Y D (400 * j) (L.take j) used) ∧ Hid (∀ x ∈ L.take j, x.length ≤ 150)) (fun i _ => n0 - (intOf i).toNat)
  case atStart => exact ⟨0, 0, c4, Y0, _, rfl, Nat.zero_le _, Nat.zero_le _, HTW4, HS4, fun x hx => by simp at hx⟩
  case round =>
    clear HS4 HTW4
    obtain ⟨j, used, c', Y, D, rfl, hj, hu, HT, HS, HLEN⟩ := hrel
    by_cases hlt : j < n0
    · have hlt1 : (j : Int) < (n0 : Int) := by omega
      have hj0 : (0 : Int) ≤ (j : Int) := by omega
      obtain ⟨b0, o0, rfl⟩ := HX0.out.addr (by omega)
      obtain ⟨x, hel⟩ : ∃ x, L[j]? = some x := ⟨_, List.getElem?_eq_getElem (by rw [HLN0.out]; exact hlt)⟩
      obtain ⟨A1, m1, p1, hcell, hr1⟩ := HX0.out.row hel
      have hb0 := (HX0.out.elem hel).1
      have HC1 := Lib.hid (fun (W : World) (cw : Col) (ht : Tr (fun _ => False) (fun _ => none) cw w W) => show W.cell? ⟨b0, o0 + j, none⟩ = some (.slice A1 m1 p1) from (ht.kp.cell hb0 rfl).trans hcell)
      have hbW := HC1.out _ _ HT.out
      have hm1m := hr1.max
      have HM1 := Lib.hid hr1.len
      have HTK := Lib.hid (take_snoc' hel)
      have HTL : Hid ((L.take j).length = j) := by
        show _ = _
        rw [List.length_take, HLN0.out]
        omega
      have HX1 := Lib.hid hr1
      have HEL := Lib.hid hel
      clear hr1 hel
      clear hcell
      by_cases hsz : 1 ≤ m1 ∧ m1 ≤ 150
      case neg =>
        have hb2 : Hid (m1 < 1 ∨ (1 ≤ m1 ∧ 150 < m1)) := by
          show _ ∨ _
          omega
        clear hsz
        rcases hb2.out with g1 | ⟨g1, g2⟩
        · have g1' : (m1 : Int) < 1 := by omega
          clear hb2
          go_wp2_with fail
          refine (told17 _).mono ?_
          rintro e w99 ⟨rfl, q_HB99⟩
          have HB99 := Lib.hid q_HB99
          clear q_HB99
          go_wp2_with fail
          refine bodyPost_ret (results_tmp rfl _ _ _) rfl ?_
          exact ⟨rfl, told_end HT.out HB99.out⟩
        · have g1' : ¬ (m1 : Int) < 1 := by omega
          have g2' : (150 : Int) < (m1 : Int) := by omega
          clear hb2
          go_wp2_with fail
          refine (told17 _).mono ?_
          rintro e w99 ⟨rfl, q_HB99⟩
          have HB99 := Lib.hid q_HB99
          clear q_HB99
          go_wp2_with fail
          refine bodyPost_ret (results_tmp rfl _ _ _) rfl ?_
          exact ⟨rfl, told_end HT.out HB99.out⟩
      obtain ⟨s1, s2⟩ := hsz
      have g1' : ¬ (m1 : Int) < 1 := by omega
      have g2' : ¬ (150 : Int) < (m1 : Int) := by omega
      have hs3 : secN m1 ≤ 3 := by unfold secN; omega
      have hfit : used + secN m1 ≤ 60 := by omega
      have HLEN1 : Hid (∀ y ∈ L.take (j + 1), y.length ≤ 150) := by
        show ∀ y ∈ _, _
        intro y hy
        rw [HTK.out, List.mem_append, List.mem_singleton] at hy
        rcases hy with hy | rfl
        · exact HLEN.out y hy
        · rw [HM1.out]
          exact s2
      by_cases hk : j = kk
      · obtain rfl : j = kk := hk
        obtain ⟨n1, n2', n3, n4, n5', n6⟩ := HS.out.ne
        go_wp2_with fail
        refine (LSync_any wr c' gl g 60 Y D (400 * j) (L.take j) used HT.out.wf HS.out.1).mono ?_
        rintro e ws5 ⟨rfl, cs5, q_HT5, q_HL5⟩
        have HT5 := Lib.hid q_HT5
        have HL5 := Lib.hid q_HL5
        clear q_HT5 q_HL5
        have HTa := Lib.hid (HT.out.low HT5.out hg)
        go_wp2_with fail
        refine (RSync_any ws5 cs5 gx 60 _ HTa.out.wf (HS.out.2.1.tr HT5.out (fun e => n1 e.symm))).mono ?_
        rintro e ws6 ⟨rfl, q_HT6, q_HR6⟩
        have HT6 := Lib.hid q_HT6
        have HR6 := Lib.hid q_HR6
        clear q_HT6 q_HR6
        have hr6 := HR6.out
        rw [relR_sync] at hr6
        have HT2 := Lib.hid (HTa.out.low HT6.out hgx)
        have hs6 : SK ws6 cs5 g gx gl gq 60 (syncY Y D) (fun _ => none) (400 * j) (L.take j) used := ⟨(HL5.out.tr HT6.out n3 n1).more (Nat.zero_le _), hr6, (HS.out.2.2.tr HT5.out n4).tr HT6.out n5'⟩
        obtain ⟨Y2, D2, hs2⟩ : ∃ Y2 D2, SK ws6 cs5 g gx gl gq 60 Y2 D2 (400 * j) (L.take j) used := ⟨_, _, hs6⟩
        have HS2 := Lib.hid hs2
        clear hs2
        clear hs6 hr6 n1 n2' n3 n4 n5' n6 HTa HT5 HT6 HR6 HL5 HS HT
        clear hbW
        have hbW := HC1.out _ _ HT2.out
        go_wp2_with fail
        refine (LPut_okD ws6 cs5 gl g 60 Y2 D2 (400 * j) (L.take j) used A1 m1 p1 x (by omega) (by omega) hfit (by omega) HT2.out.wf HS2.out.1 (HX1.out.tr HT2.out)).mono ?_
        rintro e w15 ⟨rfl, c15, q_HT15, q_HL15⟩
        have HT15 := Lib.hid q_HT15
        have HL15 := Lib.hid q_HL15
        clear q_HT15 q_HL15
        have HT015 := Lib.hid (HT2.out.trans (M := fun _ => False) HT15.out (two_low hgl hg))
        have hx15 := HX1.out.tr HT015.out
        obtain ⟨n1, n2', n3, n4, n5', n6⟩ := HS2.out.ne
        have hrd15 := HS2.out.2.1.tr HT15.out (fun h => by rcases h with h | h; exact n3 h.symm; exact n1 h.symm)
        have hlr15 := HS2.out.2.2.tr HT15.out (fun h => by rcases h with h | h; exact n6 h.symm; exact n4 h)
        have HX15 := Lib.hid hx15
        have HRD15 := Lib.hid hrd15
        have HLR15 := Lib.hid hlr15
        clear hx15 hrd15 hlr15
        have hb15 := HC1.out _ _ HT015.out
        clear hbW
        go_wp2_with fail
        refine (RLPut_ok w15 c15 gq gx 60 (L.take j).length used Y2 D2 A1 m1 p1 x (by omega) (by omega) (by have := HTL.out; omega) hfit n5' HT015.out.wf HRD15.out HLR15.out HX15.out).mono ?_
        rintro e w16 ⟨rfl, q_HT16, q_HD16, q_HL16⟩
        have HT16 := Lib.hid q_HT16
        have HD16 := Lib.hid q_HD16
        have HL16 := Lib.hid q_HL16
        clear q_HT16 q_HD16 q_HL16
        have hml := HM1.out
        have hs16 := SK.put (b := x) (m := m1) HS2.out HT15.out HL15.out HT16.out HD16.out HL16.out
        rw [← HTK.out] at hs16
        have HT016 := Lib.hid (HT015.out.trans (M := fun _ => False) HT16.out (two_low hgq hgx))
        have HS16 := Lib.hid hs16
        clear hs16
        go_wp2_with fail
        exact ⟨⟨j + 1, used + secN m1, c15, Y2, _, by go_num, by omega, by omega, HT016.out, ⟨HS16.out.1.more (by omega), HS16.out.2⟩, HLEN1.out⟩, by simp [intOf]; omega⟩
      · have hkn : ¬ (j : Int) = (kk : Int) := by omega
        go_wp2_with fail
        refine (LPut_okD wr c' gl g 60 Y D (400 * j) (L.take j) used A1 m1 p1 x (by omega) (by omega) hfit (by omega) HT.out.wf HS.out.1 (HX1.out.tr HT.out)).mono ?_
        rintro e w15 ⟨rfl, c15, q_HT15, q_HL15⟩
        have HT15 := Lib.hid q_HT15
        have HL15 := Lib.hid q_HL15
        clear q_HT15 q_HL15
        have HT015 := Lib.hid (HT.out.trans (M := fun _ => False) HT15.out (two_low hgl hg))
        have hx15 := HX1.out.tr HT015.out
        obtain ⟨n1, n2', n3, n4, n5', n6⟩ := HS.out.ne
        have hrd15 := HS.out.2.1.tr HT15.out (fun h => by rcases h with h | h; exact n3 h.symm; exact n1 h.symm)
        have hlr15 := HS.out.2.2.tr HT15.out (fun h => by rcases h with h | h; exact n6 h.symm; exact n4 h)
        have HX15 := Lib.hid hx15
        have HRD15 := Lib.hid hrd15
        have HLR15 := Lib.hid hlr15
        clear hx15 hrd15 hlr15
        have hb15 := HC1.out _ _ HT015.out
        clear hbW
        go_wp2_with fail
        refine (RLPut_ok w15 c15 gq gx 60 (L.take j).length used Y D A1 m1 p1 x (by omega) (by omega) (by have := HTL.out; omega) hfit n5' HT015.out.wf HRD15.out HLR15.out HX15.out).mono ?_
        rintro e w16 ⟨rfl, q_HT16, q_HD16, q_HL16⟩
        have HT16 := Lib.hid q_HT16
        have HD16 := Lib.hid q_HD16
        have HL16 := Lib.hid q_HL16
        clear q_HT16 q_HD16 q_HL16
        have hml := HM1.out
        have hs16 := SK.put (b := x) (m := m1) HS.out HT15.out HL15.out HT16.out HD16.out HL16.out
        rw [← HTK.out] at hs16
        have HT016 := Lib.hid (HT015.out.trans (M := fun _ => False) HT16.out (two_low hgq hgx))
        have HS16 := Lib.hid hs16
        clear hs16
        go_wp2_with fail
        exact ⟨⟨j + 1, used + secN m1, c15, Y, _, by go_num, by omega, by omega, HT016.out, ⟨HS16.out.1.more (by omega), HS16.out.2⟩, HLEN1.out⟩, by simp [intOf]; omega⟩
    · have HJE : Hid (j = n0) := by
        show _ = _
        omega
      have HLJ : Hid (∀ x ∈ L, x.length ≤ 150) := by
        show ∀ x ∈ L, _
        have h := HLEN.out
        rw [HJE.out, List.take_of_length_le (by rw [HLN0.out]; exact Nat.le_refl _)] at h
        exact h
      by_cases hk : n0 = kk
      · obtain rfl : n0 = kk := hk
        obtain ⟨n1, n2', n3, n4, n5', n6⟩ := HS.out.ne
        go_wp2_with fail
        refine (LSync_any wr c' gl g 60 Y D (400 * j) (L.take j) used HT.out.wf HS.out.1).mono ?_
        rintro e ws5 ⟨rfl, cs5, q_HT5, q_HL5⟩
        have HT5 := Lib.hid q_HT5
        have HL5 := Lib.hid q_HL5
        clear q_HT5 q_HL5
        have HTa := Lib.hid (HT.out.low HT5.out hg)
        go_wp2_with fail
        refine (RSync_any ws5 cs5 gx 60 _ HTa.out.wf (HS.out.2.1.tr HT5.out (fun e => n1 e.symm))).mono ?_
        rintro e ws6 ⟨rfl, q_HT6, q_HR6⟩
        have HT6 := Lib.hid q_HT6
        have HR6 := Lib.hid q_HR6
        clear q_HT6 q_HR6
        have hr6 := HR6.out
        rw [relR_sync] at hr6
        have HT2 := Lib.hid (HTa.out.low HT6.out hgx)
        have hs6 : SK ws6 cs5 g gx gl gq 60 (syncY Y D) (fun _ => none) (400 * j) (L.take j) used := ⟨(HL5.out.tr HT6.out n3 n1).more (Nat.zero_le _), hr6, (HS.out.2.2.tr HT5.out n4).tr HT6.out n5'⟩
        obtain ⟨Y2, D2, hs2⟩ : ∃ Y2 D2, SK ws6 cs5 g gx gl gq 60 Y2 D2 (400 * j) (L.take j) used := ⟨_, _, hs6⟩
        have HS2 := Lib.hid hs2
        clear hs2
        clear hs6 hr6 n1 n2' n3 n4 n5' n6 HTa HT5 HT6 HR6 HL5 HS HT
        obtain ⟨n1, n2', n3, n4, n5', n6⟩ := HS2.out.ne
        go_wp2_with fail
        refine (KCrash_any ws6 cs5 g 60 Y2 D2 (400 * j) A2 n2 cp2 keep torn nx (by omega) HT2.out.wf HS2.out.1.1 (HX2.out.tr HT2.out)).mono ?_
        rintro e w5 ⟨rfl, c5, q_HT5, q_HD5⟩
        have HT5 := Lib.hid q_HT5
        have HD5 := Lib.hid q_HD5
        clear q_HT5 q_HD5
        have HTa := Lib.hid (HT2.out.low HT5.out hg)
        go_wp2_with fail
        refine (RCrash_any w5 c5 gx 60 _ A2 n2 cp2 keep torn nx HTa.out.wf (HS2.out.2.1.tr HT5.out (fun e => n1 e.symm)) (HX2.out.tr HTa.out)).mono ?_
        rintro e w6 ⟨rfl, q_HT6, q_HR6⟩
        have HT6 := Lib.hid q_HT6
        have HR6 := Lib.hid q_HR6
        clear q_HT6 q_HR6
        have HT06 := Lib.hid (HTa.out.low HT6.out hgx)
        have hr6 := HR6.out
        rw [relR_crash] at hr6
        have hd6 := HD5.out.tr HT6.out n1
        obtain ⟨Yc, hYc⟩ : ∃ Yc, crashY Y2 D2 keep torn (mcut nx) = Yc := ⟨_, rfl⟩
        rw [hYc] at hr6 hd6
        have HRR6 := Lib.hid hr6
        have HDD6 := Lib.hid hd6
        clear hr6 hd6
        clear hYc HR6 HD5 HT5 HT6 HTa HS2 HT2
        go_wp2_with fail
        refine (RLOpen_any w6 c5 gx 60 Yc _ HDD6.out.facts.1 HT06.out.wf HRR6.out).mono ?_
        rintro e w7 ⟨gq7, A7, m7, cp7, rfl, recs7, us7, c7, q_HF7, hgq7, q_HT7, q_HRR7, q_HLR7, q_HRD7⟩
        have HF7 := Lib.hid q_HF7
        have HT7 := Lib.hid q_HT7
        have HRR7 := Lib.hid q_HRR7
        have HLR7 := Lib.hid q_HLR7
        have HRD7 := Lib.hid q_HRD7
        clear q_HF7 q_HT7 q_HRR7 q_HLR7 q_HRD7
        have HT07 := Lib.hid (HT06.out.low HT7.out hgx)
        have HDD7 := Lib.hid (HDD6.out.tr HT7.out n1)
        rcases Nat.lt_or_ge m7 n0 with h1 | h1
        · have h1' : (m7 : Int) < (n0 : Int) := by omega
          go_wp2_with fail
          refine (told17 _).mono ?_
          rintro e w99 ⟨rfl, q_HB99⟩
          have HB99 := Lib.hid q_HB99
          clear q_HB99
          go_wp2_with fail
          refine bodyPost_ret (results_tmp rfl _ _ _) rfl ?_
          exact ⟨rfl, told_end HT07.out HB99.out⟩
        have h1' : ¬ (m7 : Int) < (n0 : Int) := by omega
        rcases Nat.lt_or_ge n0 m7 with h2 | h2
        · have h2' : (n0 : Int) < (m7 : Int) := by omega
          go_wp2_with fail
          refine (told17 _).mono ?_
          rintro e w99 ⟨rfl, q_HB99⟩
          have HB99 := Lib.hid q_HB99
          clear q_HB99
          go_wp2_with fail
          refine bodyPost_ret (results_tmp rfl _ _ _) rfl ?_
          exact ⟨rfl, told_end HT07.out HB99.out⟩
        have h2' : ¬ (n0 : Int) < (m7 : Int) := by omega
        have hm70 : (0 : Int) ≤ (m7 : Int) := by omega
        have hm7c : (m7 : Int) ≤ (n0 : Int) := by omega
        have hm7d : (m7 : Int) ≤ (cp0 : Int) := by have := HX0.out.2.1; omega
        have hpp := Pieces_any w7 c7 A7 A0 m7 cp7 m7 cp0 recs7 (L.take m7) HRD7.out ((HX0.out.tr HT07.out).take h2)
        by_cases heq : recs7 = L.take m7
        case neg =>
          rw [decide_eq_false heq] at hpp
          have HPP := Lib.hid hpp
          clear hpp
          go_wp2_with fail
          refine (HPP.out).mono ?_
          rintro e w8 ⟨rfl, q_HB8⟩
          have HB8 := Lib.hid q_HB8
          clear q_HB8
          have HT08 := Lib.hid (HT07.out.then (Tr.of_below HT07.out.wf HB8.out))
          go_wp2_with fail
          refine (told17 _).mono ?_
          rintro e w99 ⟨rfl, q_HB99⟩
          have HB99 := Lib.hid q_HB99
          clear q_HB99
          go_wp2_with fail
          refine bodyPost_ret (results_tmp rfl _ _ _) rfl ?_
          exact ⟨rfl, told_end HT08.out HB99.out⟩
        rw [decide_eq_true heq] at hpp
        have HPP := Lib.hid hpp
        clear hpp
        go_wp2_with fail
        refine (HPP.out).mono ?_
        rintro e w8 ⟨rfl, q_HB8⟩
        have HB8 := Lib.hid q_HB8
        clear q_HB8
        have t8 := Tr.of_below (M := fun _ => False) HT07.out.wf HB8.out
        have HT08 := Lib.hid (HT07.out.then t8)
        have HDD8 := Lib.hid (HDD7.out.tr t8 (fun h => h))
        clear t8
        go_wp2_with fail
        refine (LOpen_any w8 c7 g 60 Yc _ 0 (by omega) HT08.out.wf HDD8.out).mono ?_
        rintro e w9 ⟨gl9, A9, m9, cp9, rfl, recs9, us9, c9, q_HF9, hgl9, q_HT9, q_HL9, q_HRD9⟩
        have HF9 := Lib.hid q_HF9
        have HT9 := Lib.hid q_HT9
        have HL9 := Lib.hid q_HL9
        have HRD9 := Lib.hid q_HRD9
        clear q_HF9 q_HT9 q_HL9 q_HRD9
        obtain ⟨rfl, rfl⟩ := HF7.out.uniq HF9.out
        obtain rfl : m7 = m9 := HRD7.out.1.symm.trans HRD9.out.1
        have hgl9' : w.heap.size ≤ gl9 := by have := HT08.out.size; omega
        have HT09 := Lib.hid (HT08.out.low HT9.out hg)
        have hus : us7 ≤ 36 := by
          have h := Chain.short HF7.out.1 (fun x hx => HLJ.out x (by rw [heq] at hx; exact List.mem_of_mem_take hx))
          have h3 := HRD7.out.1
          omega
        have hp9 := Pieces_any w9 c9 A9 A0 m7 cp9 m7 cp0 recs7 (L.take m7) HRD9.out ((HX0.out.tr HT09.out).take h2)
        rw [decide_eq_true heq] at hp9
        have HPP9 := Lib.hid hp9
        clear hp9
        clear HF7 HF9 HRD7 HPP HDD7 HDD8 HRR7 HLR7 HRR6 HDD6 HT7 HT9 HT07 HT08 HB8
        go_wp2_with fail
        refine (HPP9.out).mono ?_
        rintro e w10 ⟨rfl, q_HB10⟩
        have HB10 := Lib.hid q_HB10
        clear q_HB10
        have t10 := Tr.of_below (M := fun _ => False) HT09.out.wf HB10.out
        have HT010 := Lib.hid (HT09.out.then t10)
        have HL10 := Lib.hid (HL9.out.tr t10 (fun h => h) (fun h => h))
        have HRD10 := Lib.hid (HRD9.out.tr t10)
        clear t10
        go_wp2_with fail
        refine (KDirty_any w10 c9 g 60 _ _ 0 (by omega) HT010.out.wf HL10.out.1).mono ?_
        rintro e w11 ⟨A11, m11, cp11, rfl, q_HR11, q_HB11⟩
        have HR11 := Lib.hid q_HR11
        have HB11 := Lib.hid q_HB11
        clear q_HR11 q_HB11
        obtain rfl : m11 = 0 := by
          have h := HR11.out.1
          rw [dirtyL_none] at h
          exact h.symm
        have t11 := Tr.of_below (M := fun _ => False) HT010.out.wf HB11.out
        have HT011 := Lib.hid (HT010.out.then t11)
        have hL11 := HL10.out.tr t11 (fun h => h) (fun h => h)
        have HRD11 := Lib.hid (HRD10.out.tr t11)
        obtain ⟨Y9, hY9⟩ : ∃ Y9, cleanZ (syncY Yc fun _ => none) us7 = Y9 := ⟨_, rfl⟩
        rw [hY9] at hL11
        have HL11 := Lib.hid hL11
        clear hL11
        clear t11 HR11 HB11 HB10 HL9 HL10 HRD9 HRD10 HT010 HT09 HPP9 hY9
        have HTN := Lib.hid ((Tr.new HT011.out.wf (.cells #[] 23)).hot (k := w11.heap.size) (g := w11.heap.size) (Nat.le_refl _) (by simp) (by simp) (.inr (Nat.le_refl _)))
        have HT11N := Lib.hid (HT011.out.then HTN.out)
        have HL11N := Lib.hid (HL11.out.tr HTN.out (fun h => h) (fun h => h))
        have HRN := Lib.hid (HRD11.out.tr HTN.out)
        have hoN : OwnR (w11.alloc (.cells #[] 23)) (c9.set w11.heap.size w11.heap.size) w.heap.size 23 1 (some ⟨w11.heap.size, 0, none⟩) 0 0 [] :=
          ⟨World.ownsRow_lit (base := w.heap.size) (e := 23) (size := 1) w11 #[] 0 HT011.out.size (by simp [maxLen]) (by simp), fun k hk => by cases hk; exact Col.set_same _ _ _⟩
        have HON := Lib.hid hoN
        clear hoN
        go_wp2_with (at_builtin; go_must (refine app_rows_self (K := kSl kU8) (.tmp 208) (.tmp 209) 50 23 (.slice none 0 0) 24 rfl rfl Try.underlying50 row_infoK rfl (by omega) [] recs7 rfl rfl HT11N.out HON.out HRN.out (Nat.le_refl _) HT11N.out.size (by omega) ?_); intro A12 cp12 w12 c12 cells12 q1 q2 q3 q4 q5 q6 q7; have hl12 := HL11N.out.keepB HON.out HT11N.out.wf q5 q7; rw [Nat.zero_add, List.nil_append] at q3; rw [Nat.zero_add]; have hre12 := q1.keep q6; clear q1 q4 q5 q6 q7; have HT12 := Lib.hid q2; have HO12 := Lib.hid q3; have HL12 := Lib.hid hl12; have HRE12 := Lib.hid hre12; clear q2 q3 hl12 hre12)
        clear HTN HT11N HL11N HRN HON HT011 HL11 HRD11
        go_loopw [28, 29] (fun al i wr => ∃ (j used : Nat) (c' : Col) (Y : List (List UInt8)) (D : Dt) (A9 : Option Addr) (cp9 : Nat) (cells : List Value), al = .slice A9 (m7 + j) cp9 ∧ i = .int .i64 (j : Int) ∧ j ≤ n5 ∧ used ≤ 36 + 3 * j ∧ Hid (Tr (fun _ => False) (fun _ => none) c' w wr) ∧ Hid (LD wr c' gl9 g 60 Y D (400 * j) (recs7 ++ Mo.take j) used) ∧
          Hid (OwnR wr c' w.heap.size 23 1 A9 (m7 + j) cp9 cells) ∧ Hid (Reps (kSl kU8) wr c' (recs7 ++ Mo.take j) cells)) (fun _ i _ => n5 - (intOf i).toNat)
        case atStart => exact ⟨0, us7, c12, Y9, _, A12, cp12, cells12, rfl, rfl, Nat.zero_le _, hus, HT12, Lib.hid (by simpa using HL12.out), HO12, Lib.hid (by simpa using HRE12.out)⟩
        case round =>
          clear HT12 HL12 HO12 HRE12 hlt hus
          obtain ⟨j2, used2, c', Y, D, A13, cp13, cells, rfl, rfl, hj2, hu2, HT, HL, HO, HRE⟩ := hrel
          by_cases hlt : j2 < n5
          · have hlt1 : (j2 : Int) < (n5 : Int) := by omega
            have hj0 : (0 : Int) ≤ (j2 : Int) := by omega
            obtain ⟨b0, o0, rfl⟩ := HX5.out.addr (by omega)
            obtain ⟨x, hel⟩ : ∃ x, Mo[j2]? = some x := ⟨_, List.getElem?_eq_getElem (by rw [HLN5.out]; exact hlt)⟩
            obtain ⟨A1, m1, p1, hcell, hr1⟩ := HX5.out.row hel
            have hb0 := (HX5.out.elem hel).1
            have HC1 := Lib.hid (fun (W : World) (cw : Col) (ht : Tr (fun _ => False) (fun _ => none) cw w W) => show W.cell? ⟨b0, o0 + j2, none⟩ = some (.slice A1 m1 p1) from (ht.kp.cell hb0 rfl).trans hcell)
            have hbW := HC1.out _ _ HT.out
            have hm1m := hr1.max
            have HM1 := Lib.hid hr1.len
            have HTK := Lib.hid (take_snoc' hel)
            have HX1 := Lib.hid hr1
            clear hr1
            clear hcell hel
            by_cases hsz : 1 ≤ m1 ∧ m1 ≤ 150
            case neg =>
              have hb2 : Hid (m1 < 1 ∨ (1 ≤ m1 ∧ 150 < m1)) := by
                show _ ∨ _
                omega
              clear hsz
              rcases hb2.out with g1 | ⟨g1, g2⟩
              · have g1' : (m1 : Int) < 1 := by omega
                clear hb2
                go_wp2_with fail
                refine (told17 _).mono ?_
                rintro e w99 ⟨rfl, q_HB99⟩
                have HB99 := Lib.hid q_HB99
                clear q_HB99
                go_wp2_with fail
                refine bodyPost_ret (results_tmp rfl _ _ _) rfl ?_
                exact ⟨rfl, told_end HT.out HB99.out⟩
              · have g1' : ¬ (m1 : Int) < 1 := by omega
                have g2' : (150 : Int) < (m1 : Int) := by omega
                clear hb2
                go_wp2_with fail
                refine (told17 _).mono ?_
                rintro e w99 ⟨rfl, q_HB99⟩
                have HB99 := Lib.hid q_HB99
                clear q_HB99
                go_wp2_with fail
                refine bodyPost_ret (results_tmp rfl _ _ _) rfl ?_
                exact ⟨rfl, told_end HT.out HB99.out⟩
            obtain ⟨s1, s2⟩ := hsz
            have g1' : ¬ (m1 : Int) < 1 := by omega
            have g2' : ¬ (150 : Int) < (m1 : Int) := by omega
            have hs3 : secN m1 ≤ 3 := by unfold secN; omega
            have hfit : used2 + secN m1 ≤ 60 := by omega
            go_wp2_with fail
            refine (LPut_okD wr c' gl9 g 60 Y D (400 * j2) (recs7 ++ Mo.take j2) used2 A1 m1 p1 x (by omega) (by omega) hfit (by omega) HT.out.wf HL.out (HX1.out.tr HT.out)).mono ?_
            rintro e w15 ⟨rfl, c15, q_HT15, q_HL15⟩
            have HT15 := Lib.hid q_HT15
            have HL15 := Lib.hid q_HL15
            clear q_HT15 q_HL15
            have HT015 := Lib.hid (HT.out.trans (M := fun _ => False) HT15.out (two_low hgl9' hg))
            clear hbW
            have hbW := HC1.out _ _ HT015.out
            have ho15 := own_LD HL.out HO.out HT15.out
            have hre15 := HRE.out.keep HT15.out.kp
            have hx15 := HX1.out.tr HT015.out
            have tn := Tr.new HT015.out.wf (.cells #[.slice A1 m1 p1] 23)
            have HT15N := Lib.hid (HT015.out.then tn)
            have hlN := HL15.out.tr tn (fun h => h) (fun h => h)
            have hoN := ho15.pure tn
            have hreN := hre15.keep tn.kp
            have hx1N := Rd.one1 HT015.out.wf 23 hx15
            have HLN := Lib.hid hlN
            have HON := Lib.hid hoN
            have HREN := Lib.hid hreN
            have HX1N := Lib.hid hx1N
            clear hlN hoN hreN hx1N
            clear ho15 hre15 hx15 tn
            go_wp2_with (at_builtin; go_must (refine app_rows_self (K := kSl kU8) (.tmp 239) (.tmp 244) 50 23 (.slice none 0 0) 24 rfl rfl Try.underlying50 row_infoK rfl (by omega) cells [x] rfl rfl HT15N.out HON.out HX1N.out (Nat.le_refl _) HT15N.out.size (by omega) ?_); intro A16 cp16 w16 c16 cells16 q1 q2 q3 q4 q5 q6 q7; have hl16 := HLN.out.keepB HON.out HT15N.out.wf q5 q7; have hre16 := (HREN.out.append q1).keep q6; rw [List.append_assoc, ← HTK.out] at hl16 hre16; clear q1 q4 q5 q6 q7; have HT16 := Lib.hid q2; have HO16 := Lib.hid q3; have HL16 := Lib.hid hl16; have HRE16 := Lib.hid hre16; clear q2 q3 hl16 hre16)
            exact ⟨⟨j2 + 1, used2 + secN m1, c16, Y, _, A16, cp16, cells ++ cells16, by rw [Nat.add_assoc], by go_num, by omega, by omega, HT16, Lib.hid (HL16.out.more (by omega)), HO16, HRE16⟩, by simp [intOf]; omega⟩
          · have hj5 : True := trivial
            clear hj5
            go_wp2_with fail
            refine (LSync_any wr c' gl9 g 60 Y D (400 * j2) _ used2 HT.out.wf HL.out).mono ?_
            rintro e w21 ⟨rfl, c21, q_HT21, q_HL21⟩
            have HT21 := Lib.hid q_HT21
            have HL21 := Lib.hid q_HL21
            clear q_HT21 q_HL21
            have HT021 := Lib.hid (HT.out.low HT21.out hg)
            have HO21 := Lib.hid (own_g HL.out HO.out HT21.out)
            have HRE21 := Lib.hid (HRE.out.keep HT21.out.kp)
            go_wp2_with fail
            refine (KCrash_any w21 c21 g 60 _ _ 0 none 0 0 [] (-1) 0 (by omega) HT021.out.wf HL21.out.1 (Rd.nil _ _ _)).mono ?_
            rintro e w22 ⟨rfl, c22, q_HT22, q_HD22⟩
            have HT22 := Lib.hid q_HT22
            have HD22 := Lib.hid q_HD22
            clear q_HT22 q_HD22
            have HT022 := Lib.hid (HT021.out.low HT22.out hg)
            have HO22 := Lib.hid (own_g HL21.out HO21.out HT22.out)
            have HRE22 := Lib.hid (HRE21.out.keep HT22.out.kp)
            have hd22 := HD22.out
            rw [mcut0, crash_none _ _ HL21.out.1.facts.2.2.1] at hd22
            have HDD22 := Lib.hid hd22
            clear hd22
            go_wp2_with fail
            refine (LOpen_any w22 c22 g 60 _ _ 0 (by omega) HT022.out.wf HDD22.out).mono ?_
            rintro e w23 ⟨gl23, A23, m23, cp23, rfl, recs23, us23, c23, q_HF23, hgl23, q_HT23, q_HL23, q_HRD23⟩
            have HF23 := Lib.hid q_HF23
            have HT23 := Lib.hid q_HT23
            have HL23 := Lib.hid q_HL23
            have HRD23 := Lib.hid q_HRD23
            clear q_HF23 q_HT23 q_HL23 q_HRD23
            obtain ⟨rfl, rfl⟩ := HL21.out.2.2.1.finds.uniq HF23.out
            have HT023 := Lib.hid (HT022.out.low HT23.out hg)
            have HO23 := Lib.hid (own_d HDD22.out HO22.out HT23.out)
            have HRE23 := Lib.hid (HRE22.out.keep HT23.out.kp)
            go_wp2_with fail
            refine (told17 _).mono ?_
            rintro e w24 ⟨rfl, q_HB24⟩
            have HB24 := Lib.hid q_HB24
            clear q_HB24
            have t24 := Tr.of_below (M := fun _ => False) HT023.out.wf HB24.out
            have HT024 := Lib.hid (HT023.out.then t24)
            have hall : Rd (kSl kU8) w24 (fun _ => none) A13 (m7 + j2) cp13 (recs7 ++ Mo.take j2) :=
              OwnR.rd (HO23.out.pure t24) (own_rows HRE23.out HO23.out) (fun _ _ => rfl) ((HRE23.out.keep t24.kp).keep (.of_col _ fun _ _ _ => rfl)).2
            have hp24 := Pieces_any w24 (fun _ => none) A23 A13 m23 cp23 (m7 + j2) cp13 _ _ ((HRD23.out.tr t24).cool fun _ _ _ => rfl) hall
            rw [decide_eq_true (rfl : recs7 ++ Mo.take j2 = recs7 ++ Mo.take j2)] at hp24
            have HPP24 := Lib.hid hp24
            clear hp24
            clear hall t24
            go_wp2_with fail
            refine (HPP24.out).mono ?_
            rintro e w25 ⟨rfl, q_HB25⟩
            have HB25 := Lib.hid q_HB25
            clear q_HB25
            go_wp2_with fail
            refine bodyPost_ret (results_tmp rfl _ _ _) rfl ?_
            exact ⟨rfl, told_end HT024.out HB25.out⟩
      · have hkn : ¬ (kk : Int) = (n0 : Int) := by omega
        have HT2 := HT
        have HS2 := HS
        clear HT HS
        obtain ⟨n1, n2', n3, n4, n5', n6⟩ := HS2.out.ne
        go_wp2_with fail
        refine (KCrash_any wr c' g 60 Y D (400 * j) A2 n2 cp2 keep torn nx (by omega) HT2.out.wf HS2.out.1.1 (HX2.out.tr HT2.out)).mono ?_
        rintro e w5 ⟨rfl, c5, q_HT5, q_HD5⟩
        have HT5 := Lib.hid q_HT5
        have HD5 := Lib.hid q_HD5
        clear q_HT5 q_HD5
        have HTa := Lib.hid (HT2.out.low HT5.out hg)
        go_wp2_with fail
        refine (RCrash_any w5 c5 gx 60 _ A2 n2 cp2 keep torn nx HTa.out.wf (HS2.out.2.1.tr HT5.out (fun e => n1 e.symm)) (HX2.out.tr HTa.out)).mono ?_
        rintro e w6 ⟨rfl, q_HT6, q_HR6⟩
        have HT6 := Lib.hid q_HT6
        have HR6 := Lib.hid q_HR6
        clear q_HT6 q_HR6
        have HT06 := Lib.hid (HTa.out.low HT6.out hgx)
        have hr6 := HR6.out
        rw [relR_crash] at hr6
        have hd6 := HD5.out.tr HT6.out n1
        obtain ⟨Yc, hYc⟩ : ∃ Yc, crashY Y D keep torn (mcut nx) = Yc := ⟨_, rfl⟩
        rw [hYc] at hr6 hd6
        have HRR6 := Lib.hid hr6
        have HDD6 := Lib.hid hd6
        clear hr6 hd6
        clear hYc HR6 HD5 HT5 HT6 HTa HS2 HT2
        go_wp2_with fail
        refine (RLOpen_any w6 c5 gx 60 Yc _ HDD6.out.facts.1 HT06.out.wf HRR6.out).mono ?_
        rintro e w7 ⟨gq7, A7, m7, cp7, rfl, recs7, us7, c7, q_HF7, hgq7, q_HT7, q_HRR7, q_HLR7, q_HRD7⟩
        have HF7 := Lib.hid q_HF7
        have HT7 := Lib.hid q_HT7
        have HRR7 := Lib.hid q_HRR7
        have HLR7 := Lib.hid q_HLR7
        have HRD7 := Lib.hid q_HRD7
        clear q_HF7 q_HT7 q_HRR7 q_HLR7 q_HRD7
        have HT07 := Lib.hid (HT06.out.low HT7.out hgx)
        have HDD7 := Lib.hid (HDD6.out.tr HT7.out n1)
        rcases Nat.lt_or_ge m7 kk with h1 | h1
        · have h1' : (m7 : Int) < (kk : Int) := by omega
          go_wp2_with fail
          refine (told17 _).mono ?_
          rintro e w99 ⟨rfl, q_HB99⟩
          have HB99 := Lib.hid q_HB99
          clear q_HB99
          go_wp2_with fail
          refine bodyPost_ret (results_tmp rfl _ _ _) rfl ?_
          exact ⟨rfl, told_end HT07.out HB99.out⟩
        have h1' : ¬ (m7 : Int) < (kk : Int) := by omega
        rcases Nat.lt_or_ge n0 m7 with h2 | h2
        · have h2' : (n0 : Int) < (m7 : Int) := by omega
          go_wp2_with fail
          refine (told17 _).mono ?_
          rintro e w99 ⟨rfl, q_HB99⟩
          have HB99 := Lib.hid q_HB99
          clear q_HB99
          go_wp2_with fail
          refine bodyPost_ret (results_tmp rfl _ _ _) rfl ?_
          exact ⟨rfl, told_end HT07.out HB99.out⟩
        have h2' : ¬ (n0 : Int) < (m7 : Int) := by omega
        have hm70 : (0 : Int) ≤ (m7 : Int) := by omega
        have hm7c : (m7 : Int) ≤ (n0 : Int) := by omega
        have hm7d : (m7 : Int) ≤ (cp0 : Int) := by have := HX0.out.2.1; omega
        have hpp := Pieces_any w7 c7 A7 A0 m7 cp7 m7 cp0 recs7 (L.take m7) HRD7.out ((HX0.out.tr HT07.out).take h2)
        by_cases heq : recs7 = L.take m7
        case neg =>
          rw [decide_eq_false heq] at hpp
          have HPP := Lib.hid hpp
          clear hpp
          go_wp2_with fail
          refine (HPP.out).mono ?_
          rintro e w8 ⟨rfl, q_HB8⟩
          have HB8 := Lib.hid q_HB8
          clear q_HB8
          have HT08 := Lib.hid (HT07.out.then (Tr.of_below HT07.out.wf HB8.out))
          go_wp2_with fail
          refine (told17 _).mono ?_
          rintro e w99 ⟨rfl, q_HB99⟩
          have HB99 := Lib.hid q_HB99
          clear q_HB99
          go_wp2_with fail
          refine bodyPost_ret (results_tmp rfl _ _ _) rfl ?_
          exact ⟨rfl, told_end HT08.out HB99.out⟩
        rw [decide_eq_true heq] at hpp
        have HPP := Lib.hid hpp
        clear hpp
        go_wp2_with fail
        refine (HPP.out).mono ?_
        rintro e w8 ⟨rfl, q_HB8⟩
        have HB8 := Lib.hid q_HB8
        clear q_HB8
        have t8 := Tr.of_below (M := fun _ => False) HT07.out.wf HB8.out
        have HT08 := Lib.hid (HT07.out.then t8)
        have HDD8 := Lib.hid (HDD7.out.tr t8 (fun h => h))
        clear t8
        go_wp2_with fail
        refine (LOpen_any w8 c7 g 60 Yc _ 0 (by omega) HT08.out.wf HDD8.out).mono ?_
        rintro e w9 ⟨gl9, A9, m9, cp9, rfl, recs9, us9, c9, q_HF9, hgl9, q_HT9, q_HL9, q_HRD9⟩
        have HF9 := Lib.hid q_HF9
        have HT9 := Lib.hid q_HT9
        have HL9 := Lib.hid q_HL9
        have HRD9 := Lib.hid q_HRD9
        clear q_HF9 q_HT9 q_HL9 q_HRD9
        obtain ⟨rfl, rfl⟩ := HF7.out.uniq HF9.out
        obtain rfl : m7 = m9 := HRD7.out.1.symm.trans HRD9.out.1
        have hgl9' : w.heap.size ≤ gl9 := by have := HT08.out.size; omega
        have HT09 := Lib.hid (HT08.out.low HT9.out hg)
        have hus : us7 ≤ 36 := by
          have h := Chain.short HF7.out.1 (fun x hx => HLJ.out x (by rw [heq] at hx; exact List.mem_of_mem_take hx))
          have h3 := HRD7.out.1
          omega
        have hp9 := Pieces_any w9 c9 A9 A0 m7 cp9 m7 cp0 recs7 (L.take m7) HRD9.out ((HX0.out.tr HT09.out).take h2)
        rw [decide_eq_true heq] at hp9
        have HPP9 := Lib.hid hp9
        clear hp9
        clear HF7 HF9 HRD7 HPP HDD7 HDD8 HRR7 HLR7 HRR6 HDD6 HT7 HT9 HT07 HT08 HB8
        go_wp2_with fail
        refine (HPP9.out).mono ?_
        rintro e w10 ⟨rfl, q_HB10⟩
        have HB10 := Lib.hid q_HB10
        clear q_HB10
        have t10 := Tr.of_below (M := fun _ => False) HT09.out.wf HB10.out
        have HT010 := Lib.hid (HT09.out.then t10)
        have HL10 := Lib.hid (HL9.out.tr t10 (fun h => h) (fun h => h))
        have HRD10 := Lib.hid (HRD9.out.tr t10)
        clear t10
        go_wp2_with fail
        refine (KDirty_any w10 c9 g 60 _ _ 0 (by omega) HT010.out.wf HL10.out.1).mono ?_
        rintro e w11 ⟨A11, m11, cp11, rfl, q_HR11, q_HB11⟩
        have HR11 := Lib.hid q_HR11
        have HB11 := Lib.hid q_HB11
        clear q_HR11 q_HB11
        obtain rfl : m11 = 0 := by
          have h := HR11.out.1
          rw [dirtyL_none] at h
          exact h.symm
        have t11 := Tr.of_below (M := fun _ => False) HT010.out.wf HB11.out
        have HT011 := Lib.hid (HT010.out.then t11)
        have hL11 := HL10.out.tr t11 (fun h => h) (fun h => h)
        have HRD11 := Lib.hid (HRD10.out.tr t11)
        obtain ⟨Y9, hY9⟩ : ∃ Y9, cleanZ (syncY Yc fun _ => none) us7 = Y9 := ⟨_, rfl⟩
        rw [hY9] at hL11
        have HL11 := Lib.hid hL11
        clear hL11
        clear t11 HR11 HB11 HB10 HL9 HL10 HRD9 HRD10 HT010 HT09 HPP9 hY9
        have HTN := Lib.hid ((Tr.new HT011.out.wf (.cells #[] 23)).hot (k := w11.heap.size) (g := w11.heap.size) (Nat.le_refl _) (by simp) (by simp) (.inr (Nat.le_refl _)))
        have HT11N := Lib.hid (HT011.out.then HTN.out)
        have HL11N := Lib.hid (HL11.out.tr HTN.out (fun h => h) (fun h => h))
        have HRN := Lib.hid (HRD11.out.tr HTN.out)
        have hoN : OwnR (w11.alloc (.cells #[] 23)) (c9.set w11.heap.size w11.heap.size) w.heap.size 23 1 (some ⟨w11.heap.size, 0, none⟩) 0 0 [] :=
          ⟨World.ownsRow_lit (base := w.heap.size) (e := 23) (size := 1) w11 #[] 0 HT011.out.size (by simp [maxLen]) (by simp), fun k hk => by cases hk; exact Col.set_same _ _ _⟩
        have HON := Lib.hid hoN
        clear hoN
        go_wp2_with (at_builtin; go_must (refine app_rows_self (K := kSl kU8) (.tmp 208) (.tmp 209) 50 23 (.slice none 0 0) 24 rfl rfl Try.underlying50 row_infoK rfl (by omega) [] recs7 rfl rfl HT11N.out HON.out HRN.out (Nat.le_refl _) HT11N.out.size (by omega) ?_); intro A12 cp12 w12 c12 cells12 q1 q2 q3 q4 q5 q6 q7; have hl12 := HL11N.out.keepB HON.out HT11N.out.wf q5 q7; rw [Nat.zero_add, List.nil_append] at q3; rw [Nat.zero_add]; have hre12 := q1.keep q6; clear q1 q4 q5 q6 q7; have HT12 := Lib.hid q2; have HO12 := Lib.hid q3; have HL12 := Lib.hid hl12; have HRE12 := Lib.hid hre12; clear q2 q3 hl12 hre12)
        clear HTN HT11N HL11N HRN HON HT011 HL11 HRD11
        go_loopw [28, 29] (fun al i wr => ∃ (j used : Nat) (c' : Col) (Y : List (List UInt8)) (D : Dt) (A9 : Option Addr) (cp9 : Nat) (cells : List Value), al = .slice A9 (m7 + j) cp9 ∧ i = .int .i64 (j : Int) ∧ j ≤ n5 ∧ used ≤ 36 + 3 * j ∧ Hid (Tr (fun _ => False) (fun _ => none) c' w wr) ∧ Hid (LD wr c' gl9 g 60 Y D (400 * j) (recs7 ++ Mo.take j) used) ∧
          Hid (OwnR wr c' w.heap.size 23 1 A9 (m7 + j) cp9 cells) ∧ Hid (Reps (kSl kU8) wr c' (recs7 ++ Mo.take j) cells)) (fun _ i _ => n5 - (intOf i).toNat)
        case atStart => exact ⟨0, us7, c12, Y9, _, A12, cp12, cells12, rfl, rfl, Nat.zero_le _, hus, HT12, Lib.hid (by simpa using HL12.out), HO12, Lib.hid (by simpa using HRE12.out)⟩
        case round =>
          clear HT12 HL12 HO12 HRE12 hlt hus
          obtain ⟨j2, used2, c', Y, D, A13, cp13, cells, rfl, rfl, hj2, hu2, HT, HL, HO, HRE⟩ := hrel
          by_cases hlt : j2 < n5
          · have hlt1 : (j2 : Int) < (n5 : Int) := by omega
            have hj0 : (0 : Int) ≤ (j2 : Int) := by omega
            obtain ⟨b0, o0, rfl⟩ := HX5.out.addr (by omega)
            obtain ⟨x, hel⟩ : ∃ x, Mo[j2]? = some x := ⟨_, List.getElem?_eq_getElem (by rw [HLN5.out]; exact hlt)⟩
            obtain ⟨A1, m1, p1, hcell, hr1⟩ := HX5.out.row hel
            have hb0 := (HX5.out.elem hel).1
            have HC1 := Lib.hid (fun (W : World) (cw : Col) (ht : Tr (fun _ => False) (fun _ => none) cw w W) => show W.cell? ⟨b0, o0 + j2, none⟩ = some (.slice A1 m1 p1) from (ht.kp.cell hb0 rfl).trans hcell)
            have hbW := HC1.out _ _ HT.out
            have hm1m := hr1.max
            have HM1 := Lib.hid hr1.len
            have HTK := Lib.hid (take_snoc' hel)
            have HX1 := Lib.hid hr1
            clear hr1
            clear hcell hel
            by_cases hsz : 1 ≤ m1 ∧ m1 ≤ 150
            case neg =>
              have hb2 : Hid (m1 < 1 ∨ (1 ≤ m1 ∧ 150 < m1)) := by
                show _ ∨ _
                omega
              clear hsz
              rcases hb2.out with g1 | ⟨g1, g2⟩
              · have g1' : (m1 : Int) < 1 := by omega
                clear hb2
                go_wp2_with fail
                refine (told17 _).mono ?_
                rintro e w99 ⟨rfl, q_HB99⟩
                have HB99 := Lib.hid q_HB99
                clear q_HB99
                go_wp2_with fail
                refine bodyPost_ret (results_tmp rfl _ _ _) rfl ?_
                exact ⟨rfl, told_end HT.out HB99.out⟩
              · have g1' : ¬ (m1 : Int) < 1 := by omega
                have g2' : (150 : Int) < (m1 : Int) := by omega
                clear hb2
                go_wp2_with fail
                refine (told17 _).mono ?_
                rintro e w99 ⟨rfl, q_HB99⟩
                have HB99 := Lib.hid q_HB99
                clear q_HB99
                go_wp2_with fail
                refine bodyPost_ret (results_tmp rfl _ _ _) rfl ?_
                exact ⟨rfl, told_end HT.out HB99.out⟩
            obtain ⟨s1, s2⟩ := hsz
            have g1' : ¬ (m1 : Int) < 1 := by omega
            have g2' : ¬ (150 : Int) < (m1 : Int) := by omega
            have hs3 : secN m1 ≤ 3 := by unfold secN; omega
            have hfit : used2 + secN m1 ≤ 60 := by omega
            go_wp2_with fail
            refine (LPut_okD wr c' gl9 g 60 Y D (400 * j2) (recs7 ++ Mo.take j2) used2 A1 m1 p1 x (by omega) (by omega) hfit (by omega) HT.out.wf HL.out (HX1.out.tr HT.out)).mono ?_
            rintro e w15 ⟨rfl, c15, q_HT15, q_HL15⟩
            have HT15 := Lib.hid q_HT15
            have HL15 := Lib.hid q_HL15
            clear q_HT15 q_HL15
            have HT015 := Lib.hid (HT.out.trans (M := fun _ => False) HT15.out (two_low hgl9' hg))
            clear hbW
            have hbW := HC1.out _ _ HT015.out
            have ho15 := own_LD HL.out HO.out HT15.out
            have hre15 := HRE.out.keep HT15.out.kp
            have hx15 := HX1.out.tr HT015.out
            have tn := Tr.new HT015.out.wf (.cells #[.slice A1 m1 p1] 23)
            have HT15N := Lib.hid (HT015.out.then tn)
            have hlN := HL15.out.tr tn (fun h => h) (fun h => h)
            have hoN := ho15.pure tn
            have hreN := hre15.keep tn.kp
            have hx1N := Rd.one1 HT015.out.wf 23 hx15
            have HLN := Lib.hid hlN
            have HON := Lib.hid hoN
            have HREN := Lib.hid hreN
            have HX1N := Lib.hid hx1N
            clear hlN hoN hreN hx1N
            clear ho15 hre15 hx15 tn
            go_wp2_with (at_builtin; go_must (refine app_rows_self (K := kSl kU8) (.tmp 239) (.tmp 244) 50 23 (.slice none 0 0) 24 rfl rfl Try.underlying50 row_infoK rfl (by omega) cells [x] rfl rfl HT15N.out HON.out HX1N.out (Nat.le_refl _) HT15N.out.size (by omega) ?_); intro A16 cp16 w16 c16 cells16 q1 q2 q3 q4 q5 q6 q7; have hl16 := HLN.out.keepB HON.out HT15N.out.wf q5 q7; have hre16 := (HREN.out.append q1).keep q6; rw [List.append_assoc, ← HTK.out] at hl16 hre16; clear q1 q4 q5 q6 q7; have HT16 := Lib.hid q2; have HO16 := Lib.hid q3; have HL16 := Lib.hid hl16; have HRE16 := Lib.hid hre16; clear q2 q3 hl16 hre16)
            exact ⟨⟨j2 + 1, used2 + secN m1, c16, Y, _, A16, cp16, cells ++ cells16, by rw [Nat.add_assoc], by go_num, by omega, by omega, HT16, Lib.hid (HL16.out.more (by omega)), HO16, HRE16⟩, by simp [intOf]; omega⟩
          · have hj5 : True := trivial
            clear hj5
            go_wp2_with fail
            refine (LSync_any wr c' gl9 g 60 Y D (400 * j2) _ used2 HT.out.wf HL.out).mono ?_
            rintro e w21 ⟨rfl, c21, q_HT21, q_HL21⟩
            have HT21 := Lib.hid q_HT21
            have HL21 := Lib.hid q_HL21
            clear q_HT21 q_HL21
            have HT021 := Lib.hid (HT.out.low HT21.out hg)
            have HO21 := Lib.hid (own_g HL.out HO.out HT21.out)
            have HRE21 := Lib.hid (HRE.out.keep HT21.out.kp)
            go_wp2_with fail
            refine (KCrash_any w21 c21 g 60 _ _ 0 none 0 0 [] (-1) 0 (by omega) HT021.out.wf HL21.out.1 (Rd.nil _ _ _)).mono ?_
            rintro e w22 ⟨rfl, c22, q_HT22, q_HD22⟩
            have HT22 := Lib.hid q_HT22
            have HD22 := Lib.hid q_HD22
            clear q_HT22 q_HD22
            have HT022 := Lib.hid (HT021.out.low HT22.out hg)
            have HO22 := Lib.hid (own_g HL21.out HO21.out HT22.out)
            have HRE22 := Lib.hid (HRE21.out.keep HT22.out.kp)
            have hd22 := HD22.out
            rw [mcut0, crash_none _ _ HL21.out.1.facts.2.2.1] at hd22
            have HDD22 := Lib.hid hd22
            clear hd22
            go_wp2_with fail
            refine (LOpen_any w22 c22 g 60 _ _ 0 (by omega) HT022.out.wf HDD22.out).mono ?_
            rintro e w23 ⟨gl23, A23, m23, cp23, rfl, recs23, us23, c23, q_HF23, hgl23, q_HT23, q_HL23, q_HRD23⟩
            have HF23 := Lib.hid q_HF23
            have HT23 := Lib.hid q_HT23
            have HL23 := Lib.hid q_HL23
            have HRD23 := Lib.hid q_HRD23
            clear q_HF23 q_HT23 q_HL23 q_HRD23
            obtain ⟨rfl, rfl⟩ := HL21.out.2.2.1.finds.uniq HF23.out
            have HT023 := Lib.hid (HT022.out.low HT23.out hg)
            have HO23 := Lib.hid (own_d HDD22.out HO22.out HT23.out)
            have HRE23 := Lib.hid (HRE22.out.keep HT23.out.kp)
            go_wp2_with fail
            refine (told17 _).mono ?_
            rintro e w24 ⟨rfl, q_HB24⟩
            have HB24 := Lib.hid q_HB24
            clear q_HB24
            have t24 := Tr.of_below (M := fun _ => False) HT023.out.wf HB24.out
            have HT024 := Lib.hid (HT023.out.then t24)
            have hall : Rd (kSl kU8) w24 (fun _ => none) A13 (m7 + j2) cp13 (recs7 ++ Mo.take j2) :=
              OwnR.rd (HO23.out.pure t24) (own_rows HRE23.out HO23.out) (fun _ _ => rfl) ((HRE23.out.keep t24.kp).keep (.of_col _ fun _ _ _ => rfl)).2
            have hp24 := Pieces_any w24 (fun _ => none) A23 A13 m23 cp23 (m7 + j2) cp13 _ _ ((HRD23.out.tr t24).cool fun _ _ _ => rfl) hall
            rw [decide_eq_true (rfl : recs7 ++ Mo.take j2 = recs7 ++ Mo.take j2)] at hp24
            have HPP24 := Lib.hid hp24
            clear hp24
            clear hall t24
            go_wp2_with fail
            refine (HPP24.out).mono ?_
            rintro e w25 ⟨rfl, q_HB25⟩
            have HB25 := Lib.hid q_HB25
            clear q_HB25
            go_wp2_with fail
            refine bodyPost_ret (results_tmp rfl _ _ _) rfl ?_
            exact ⟨rfl, told_end HT024.out HB25.out⟩
end Go.Proofs.Ytalihocoekplgaa
