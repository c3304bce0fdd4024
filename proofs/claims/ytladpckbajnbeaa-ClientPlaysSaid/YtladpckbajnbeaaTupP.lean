/- tuple: Put and Get, without a program: what was put is got, and only that. -/
import Derived.Test.YtladpckbajnbeaaRefG
set_option linter.unusedVariables false
set_option linter.unusedSimpArgs false
namespace Go.Proofs.Ytladpckbajnbeaa
open Go.RowKit

theorem numB_inj : ∀ (n : Nat) (xs : List UInt8), xs.length = n → numB (beNat xs) n = xs := by
  intro n
  have key : ∀ (n : Nat) (v w : Nat), v % 256 ^ n = w % 256 ^ n → numB v n = numB w n := by
    intro n
    induction n with
    | zero => intros; rfl
    | succ n ih =>
      intro v w h
      have h1 : v % 256 ^ n = w % 256 ^ n := by
        have := congrArg (· % 256 ^ n) h
        simp only [Nat.pow_succ] at this
        rwa [Nat.mod_mul_right_mod, Nat.mod_mul_right_mod] at this
      have h2 : v / 256 ^ n % 256 = w / 256 ^ n % 256 := by
        have := congrArg (· / 256 ^ n) h
        simp only [Nat.pow_succ] at this
        rwa [Nat.mod_mul_right_div_self, Nat.mod_mul_right_div_self] at this
      show UInt8.ofNat (v / 256 ^ n) :: numB v n = UInt8.ofNat (w / 256 ^ n) :: numB w n
      rw [ih v w h1]
      congr 1
      apply UInt8.toNat_inj.1
      simpa [UInt8.toNat_ofNat'] using h2
  induction n with
  | zero => intro xs h; rw [List.eq_nil_of_length_eq_zero h]; rfl
  | succ n ih =>
    intro xs h
    obtain ⟨x, ys, rfl⟩ : ∃ x ys, xs = x :: ys := by cases xs with | nil => simp at h | cons x ys => exact ⟨x, ys, rfl⟩
    have hl : ys.length = n := by simpa using h
    have hb := beNat_append [x] ys
    have h1 : beNat [x] = x.toNat := by simp [beNat]
    have hlt := beNat_lt ys
    rw [hl] at hlt
    rw [show x :: ys = [x] ++ ys from rfl, hb, h1, hl]
    have hpos : 0 < 256 ^ n := Nat.pow_pos (by decide)
    show UInt8.ofNat ((x.toNat * 256 ^ n + beNat ys) / 256 ^ n) :: numB _ n = _
    rw [show (x.toNat * 256 ^ n + beNat ys) / 256 ^ n = x.toNat by
      rw [Nat.mul_comm, Nat.mul_add_div hpos, Nat.div_eq_of_lt hlt, Nat.add_zero]]
    rw [key n _ (beNat ys) (by rw [Nat.mul_comm, Nat.mul_add_mod]), ih ys hl]
    simp
/-- A number that was read well: its bytes stood in front. -/
theorem RS.num_good {r r' : RS} {n v : Nat} (h : r.num n = (v, r')) (hw : r'.wrong = false) : r.wrong = false ∧ 1 ≤ n ∧ n ≤ 8 ∧ r.xs = numB v n ++ r'.xs := by
  unfold RS.num at h
  split at h
  · rename_i hc
    obtain ⟨h0, h1, h8, hl⟩ := hc
    simp only [Prod.mk.injEq] at h
    obtain ⟨rfl, rfl⟩ := h
    refine ⟨h0, by omega, by omega, ?_⟩
    simp only [Int.toNat_natCast]
    rw [numB_inj n (r.xs.take n) (by rw [List.length_take]; omega), List.take_append_drop]
  · simp only [Prod.mk.injEq] at h
    obtain ⟨_, rfl⟩ := h
    cases hw
theorem RS.raw_good {r r' : RS} {n : Int} {out : List UInt8} (h : r.raw n = (out, r')) (hw : r'.wrong = false) : r.wrong = false ∧ (out.length : Int) = n ∧ r.xs = out ++ r'.xs := by
  unfold RS.raw at h
  split at h
  · rename_i hc
    obtain ⟨h0, h1, hl⟩ := hc
    simp only [Prod.mk.injEq] at h
    obtain ⟨rfl, rfl⟩ := h
    refine ⟨h0, by rw [List.length_take]; omega, ?_⟩
    rw [List.take_append_drop]
  · simp only [Prod.mk.injEq] at h
    obtain ⟨_, rfl⟩ := h
    cases hw
theorem RS.text_good {r r' : RS} {most : Int} {out : List UInt8} (h : r.text most = (out, r')) (hw : r'.wrong = false) : r.wrong = false ∧ r.xs = textB out ++ r'.xs := by
  unfold RS.text at h
  generalize hq : r.num 4 = q at h
  obtain ⟨v, r1⟩ := q
  dsimp only at h
  obtain ⟨h1, h2, h3⟩ := RS.raw_good h hw
  have hv : (out.length : Int) = v := by
    by_cases hc : (v : Int) > max most 0
    · rw [if_pos hc] at h2; omega
    · rw [if_neg hc] at h2; exact h2
  obtain ⟨h4, _, _, h5⟩ := RS.num_good (n := 4) hq h1
  refine ⟨h4, ?_⟩
  rw [h5, h3]
  unfold textB
  rw [show out.length = v by omega, List.append_assoc]
theorem RS.num1_eq (r : RS) : ∃ v r', r.num 1 = (v, r') ∧ r.num ((1 : Nat) : Int) = (v, r') := ⟨_, _, rfl, rfl⟩

theorem u64_mod (x : Int) : IntKind.u64.wrap x = x % 18446744073709551616 := rfl
theorem u64_wrap64 {v : Nat} (h : v < 18446744073709551616) : u64N (wrap64 v) = v := by
  unfold u64N
  rw [u64_mod]
  have h1 : wrap64 (v : Int) % 18446744073709551616 = v := by
    unfold wrap64
    omega
  rw [h1, Int.toNat_natCast]
theorem wrap64_u64 {x : Int} (h : -9223372036854775808 ≤ x ∧ x ≤ 9223372036854775807) : wrap64 (u64N x) = x := by
  unfold u64N
  rw [u64_mod]
  have h1 : ((x % 18446744073709551616).toNat : Int) = x % 18446744073709551616 := Int.toNat_of_nonneg (Int.emod_nonneg _ (by decide))
  rw [h1]
  unfold wrap64
  omega

/-- A field that was read well, and may be: its bytes stood in front. -/
theorem getFld_good {r r' : RS} {x : Fld} (h : getFld r = (x, r')) (hw : r'.wrong = false) (ha : askedB x = true) : r.wrong = false ∧ r.xs = fldB x ++ r'.xs := by
  unfold getFld at h
  have hlt := r.num1_lt
  generalize hq : r.num 1 = q at h hlt
  obtain ⟨k, r1⟩ := q
  dsimp only at h hlt
  split at h
  · rename_i hk
    subst hk
    generalize hq8 : r1.num 8 = q8 at h
    obtain ⟨v, r2⟩ := q8
    simp only [Prod.mk.injEq] at h
    obtain ⟨rfl, rfl⟩ := h
    obtain ⟨h1, _, _, h2⟩ := RS.num_good (n := 8) hq8 hw
    obtain ⟨h3, _, _, h4⟩ := RS.num_good (n := 1) hq h1
    refine ⟨h3, ?_⟩
    have h8 := r1.num8_lt
    rw [hq8] at h8
    unfold fldB
    rw [if_pos rfl]
    dsimp only
    rw [u64_wrap64 h8, h4, h2]
    simp
  · split at h
    · rename_i hk
      subst hk
      generalize hq8 : r1.text 40 = q8 at h
      obtain ⟨v, r2⟩ := q8
      simp only [Prod.mk.injEq] at h
      obtain ⟨rfl, rfl⟩ := h
      obtain ⟨h1, h2⟩ := RS.text_good hq8 hw
      obtain ⟨h3, _, _, h4⟩ := RS.num_good (n := 1) hq h1
      refine ⟨h3, ?_⟩
      unfold fldB
      dsimp only
      rw [if_neg (by decide), if_pos rfl, h4, h2]
      simp
    · rename_i hk1 hk2
      simp only [Prod.mk.injEq] at h
      obtain ⟨rfl, rfl⟩ := h
      obtain ⟨h3, _, _, h4⟩ := RS.num_good (n := 1) hq hw
      refine ⟨h3, ?_⟩
      unfold fldB
      dsimp only
      rw [if_neg (by omega), if_neg (by omega), h4]
      simp
theorem getFlds_good (k : Nat) : ∀ {r r' : RS} {l : List Fld}, getFlds k r = (l, r') → r'.wrong = false → (∀ x ∈ l, askedB x = true) → r.wrong = false ∧ r.xs = l.flatMap fldB ++ r'.xs := by
  induction k with
  | zero =>
    intro r r' l h hw _
    simp only [getFlds, Prod.mk.injEq] at h
    obtain ⟨rfl, rfl⟩ := h
    exact ⟨hw, rfl⟩
  | succ k ih =>
    intro r r' l h hw ha
    unfold getFlds at h
    generalize hf : getFld r = f at h
    obtain ⟨x, r1⟩ := f
    dsimp only at h
    generalize hg : getFlds k r1 = g at h
    obtain ⟨d, r2⟩ := g
    dsimp only at h
    simp only [Prod.mk.injEq] at h
    obtain ⟨rfl, rfl⟩ := h
    obtain ⟨h1, h2⟩ := ih hg hw fun x hx => ha x (List.mem_cons_of_mem _ hx)
    obtain ⟨h3, h4⟩ := getFld_good hf h1 (ha x (by simp))
    refine ⟨h3, ?_⟩
    rw [h4, h2, List.flatMap_cons, List.append_assoc]
theorem mayTB_iff {l : List Fld} : mayTB l = true ↔ (1 ≤ l.length ∧ l.length ≤ 6 ∧ ∀ x ∈ l, askedB x = true) := by
  unfold mayTB
  simp only [Bool.and_eq_true, decide_eq_true_eq, List.all_eq_true]
/-- What is got was put. -/
theorem tupGet_good {b : List UInt8} {l : List Fld} (h : tupGet b = (l, true)) : mayTB l = true ∧ tupB l = b := by
  unfold tupGet at h
  generalize hq : RS.num ⟨b, false⟩ 1 = q at h
  obtain ⟨n, r⟩ := q
  dsimp only at h
  generalize hg : getFlds (min n 7) r = p at h
  obtain ⟨d, r'⟩ := p
  dsimp only at h
  split at h
  case isFalse => cases h
  case isTrue hc =>
  obtain ⟨hf, hm⟩ := hc
  simp only [Prod.mk.injEq, and_true] at h
  subst h
  refine ⟨hm, ?_⟩
  obtain ⟨h1, h6, ha⟩ := mayTB_iff.1 hm
  unfold RS.fin at hf
  split at hf
  case isFalse => cases hf
  case isTrue hw =>
  obtain ⟨hw, hx⟩ := hw
  obtain ⟨h2, h3⟩ := getFlds_good _ hg hw ha
  obtain ⟨_, _, _, h5⟩ := RS.num_good (n := 1) hq h2
  have hl : d.length = min n 7 := by have := getFlds_len (min n 7) r; rw [hg] at this; exact this
  have hn : n = d.length := by omega
  dsimp only at h5
  unfold tupB
  rw [← hn, h5, h3, hx, List.append_nil]

theorem askedB_parts {x : Fld} (h : askedB x = true) : (1 ≤ x.kind ∧ x.kind ≤ 5) ∧ (x.kind ≠ 1 → x.n = 0) ∧ (x.kind ≠ 2 → x.s = []) ∧ x.s.length ≤ 40 := by
  obtain ⟨k, n, s⟩ := x
  rw [← field_asked] at h
  unfold fieldB at h
  simp only [Bool.and_eq_true, decide_eq_true_eq, Bool.or_eq_true, beq_iff_eq, List.isEmpty_iff] at h
  obtain ⟨h1, h2, h3, h4, h5⟩ := h
  refine ⟨⟨h1, h2⟩, fun h => ?_, fun h => ?_, h5⟩
  · rcases h3 with h3 | h3
    · exact absurd h3 h
    · exact h3
  · rcases h4 with h4 | h4
    · exact absurd h4 h
    · exact h4
theorem getFld_wrote {x : Fld} (ha : askedB x = true) (hok : x.ok) (rest : List UInt8) : getFld ⟨fldB x ++ rest, false⟩ = (x, ⟨rest, false⟩) := by
  obtain ⟨⟨h1, h5⟩, hn, hs, hl⟩ := askedB_parts ha
  obtain ⟨k, n, s⟩ := x
  obtain ⟨_, hnr, _⟩ := hok
  dsimp only at h1 h5 hn hs hl hnr
  obtain ⟨k, rfl⟩ := Int.eq_ofNat_of_zero_le (show 0 ≤ k by omega)
  unfold getFld fldB
  dsimp only
  simp only [Int.toNat_natCast, List.append_assoc]
  have h := fun (rest : List UInt8) => RS.num_wrote k 1 rest (by omega) (by omega)
  rw [show ((1 : Nat) : Int) = 1 from rfl] at h
  rw [h, show k % 256 ^ 1 = k by omega]
  dsimp only
  by_cases hk1 : k = 1
  · rw [if_pos hk1, if_pos (c := ((k : Int) = 1)) (by omega)]
    have h8 := RS.num_wrote (u64N n) 8 rest (by omega) (by omega)
    rw [show ((8 : Nat) : Int) = 8 from rfl] at h8
    rw [h8]
    dsimp only
    have hu : u64N n < 18446744073709551616 := by
      unfold u64N
      have : IntKind.u64.wrap n = n % 18446744073709551616 := rfl
      omega
    rw [Nat.mod_eq_of_lt (show u64N n < 256 ^ 8 from hu), wrap64_u64 hnr, hs (by omega), show (k : Int) = 1 by omega]
  · by_cases hk2 : k = 2
    · rw [if_neg hk1, if_pos hk2, if_neg (c := ((k : Int) = 1)) (by omega), if_pos (c := ((k : Int) = 2)) (by omega), RS.text_wrote s rest 40 (by omega), if_pos (by omega)]
      dsimp only
      rw [hn (by omega), show (k : Int) = 2 by omega]
    · rw [if_neg hk1, if_neg hk2, if_neg (c := ((k : Int) = 1)) (by omega), if_neg (c := ((k : Int) = 2)) (by omega), hn (by omega), hs (by omega), List.nil_append]
theorem getFlds_wrote (l : List Fld) : (∀ x ∈ l, askedB x = true) → (∀ x ∈ l, x.ok) → ∀ rest, getFlds l.length ⟨l.flatMap fldB ++ rest, false⟩ = (l, ⟨rest, false⟩) := by
  induction l with
  | nil => intro _ _ rest; rfl
  | cons x l ih =>
    intro ha hok rest
    rw [List.flatMap_cons, List.append_assoc, List.length_cons]
    unfold getFlds
    rw [getFld_wrote (ha x (by simp)) (hok x (by simp))]
    dsimp only
    rw [ih (fun y hy => ha y (List.mem_cons_of_mem _ hy)) (fun y hy => hok y (List.mem_cons_of_mem _ hy)) rest]
/-- What was put is got, if nothing stands behind it. -/
theorem tupGet_wrote {l : List Fld} (hm : mayTB l = true) (hok : ∀ x ∈ l, x.ok) (rest : List UInt8) : tupGet (tupB l ++ rest) = if rest = [] then (l, true) else ([], false) := by
  obtain ⟨h1, h6, ha⟩ := mayTB_iff.1 hm
  unfold tupGet tupB
  rw [List.append_assoc]
  have h := RS.num_wrote l.length 1 (l.flatMap fldB ++ rest) (by omega) (by omega)
  rw [show ((1 : Nat) : Int) = 1 from rfl] at h
  rw [h, show l.length % 256 ^ 1 = l.length by omega]
  dsimp only
  rw [show min l.length 7 = l.length by omega, getFlds_wrote l ha hok rest]
  dsimp only
  by_cases hr : rest = []
  · subst hr
    rw [if_pos rfl, if_pos ⟨by simp [RS.fin], hm⟩]
  · rw [if_neg hr, if_neg]
    rintro ⟨hf, _⟩
    unfold RS.fin at hf
    rw [if_neg (by rintro ⟨_, h⟩; exact hr h)] at hf
    cases hf
theorem tupGet_put {l : List Fld} (hm : mayTB l = true) (hok : ∀ x ∈ l, x.ok) : tupGet (tupB l) = (l, true) := by
  have := tupGet_wrote hm hok []
  rw [List.append_nil, if_pos rfl] at this
  exact this
theorem tupGet_more {l : List Fld} (hm : mayTB l = true) (hok : ∀ x ∈ l, x.ok) (c : UInt8) : tupGet (tupB l ++ [c]) = ([], false) := by
  rw [tupGet_wrote hm hok, if_neg (by simp)]
theorem tupGet_ok (b : List UInt8) (hb : b.length ≤ 1000000000000) : ∀ x ∈ (tupGet b).1, x.ok := by
  unfold tupGet
  have key : ∀ (k : Nat) (r : RS), r.xs.length ≤ 1000000000000 → ∀ x ∈ (getFlds k r).1, x.ok := by
    intro k
    induction k with
    | zero => intro r _ x hx; simp [getFlds] at hx
    | succ k ih =>
      intro r hr x hx
      simp only [getFlds, List.mem_cons] at hx
      rcases hx with rfl | hx
      · exact getFld_ok r hr
      · exact ih _ (Nat.le_trans (getFld_le r) hr) x hx
  dsimp only
  split
  · exact key _ _ (Nat.le_trans (RS.num_le _ _) hb)
  · simp
theorem tupGet_false {b : List UInt8} (h : (tupGet b).2 = false) : tupGet b = ([], false) := by
  unfold tupGet at h ⊢
  dsimp only at h ⊢
  split
  · rename_i hc; rw [if_pos hc] at h; cases h
  · rfl
/-- Cut off, it is none. -/
theorem tupGet_cut {l : List Fld} (hm : mayTB l = true) (hok : ∀ x ∈ l, x.ok) {k : Nat} (hk : k < (tupB l).length) (hb : (tupB l).length ≤ 1000000000000) : tupGet ((tupB l).take k) = ([], false) := by
  cases h : (tupGet ((tupB l).take k)).2 with
  | false => exact tupGet_false h
  | true =>
    have h2 : tupGet ((tupB l).take k) = ((tupGet ((tupB l).take k)).1, true) := Prod.ext rfl h
    have hok2 := tupGet_ok ((tupB l).take k) (by rw [List.length_take]; omega)
    obtain ⟨hm2, hb2⟩ := tupGet_good h2
    generalize (tupGet ((tupB l).take k)).1 = q at *
    have h3 := tupGet_wrote hm2 hok2 ((tupB l).drop k)
    rw [hb2, List.take_append_drop, tupGet_put hm hok, if_neg] at h3
    · cases h3
    · intro e
      have := congrArg List.length e
      rw [List.length_drop] at this
      simp at this
      omega
theorem tupB_inj {p q : List Fld} (hp : mayTB p = true) (hop : ∀ x ∈ p, x.ok) (hq : mayTB q = true) (hoq : ∀ x ∈ q, x.ok) (h : tupB p = tupB q) : p = q := by
  have h1 := tupGet_put hp hop
  rw [h, tupGet_put hq hoq] at h1
  exact ((Prod.mk.inj h1).1).symm
theorem tupB_len {l : List Fld} (h : mayTB l = true) : 1 ≤ (tupB l).length ∧ (tupB l).length ≤ 301 := by
  obtain ⟨h1, h6, ha⟩ := mayTB_iff.1 h
  have := flds_len ha
  unfold tupB
  rw [List.length_append, numB_length]
  omega
theorem sameL_iff {a b : List Fld} : sameL a b = true ↔ a = b := all2_eq (fun x y => fdEq_iff x y) a b
end Go.Proofs.Ytladpckbajnbeaa
