/- Words for rows of structs: cells of elements, appends of whole slices, regions that read and call. -/
import Derived.Test.YtalihocoekplgaaLib2
import Derived.Lib.QuietBelow
set_option linter.unusedVariables false
namespace Go.Proofs.Ytalihocoekplgaa
open Go.RowKit

/-- These cells are those elements, one behind the other. -/
def Reps {α : Type} (K : Kd α) (w : World) (c : Col) (xs : List α) (cells : List Value) : Prop :=
  cells.length = xs.length * K.sz ∧ ∀ j x, xs[j]? = some x → K.rep w c x ((cells.drop (j * K.sz)).take K.sz)
section
variable {α : Type} {K : Kd α} {w w' : World} {c c' : Col} {xs ys : List α} {cells cells2 : List Value}
theorem Reps.nil (K : Kd α) (w : World) (c : Col) : Reps K w c [] [] := ⟨by simp, fun j x h => by simp at h⟩
theorem Reps.one {x : α} {cs : List Value} (h : K.rep w c x cs) : Reps K w c [x] cs := by
  refine ⟨by rw [K.len h]; simp, fun j y hj => ?_⟩
  cases j with
  | zero =>
    simp at hj
    subst hj
    rw [Nat.zero_mul, List.drop_zero, List.take_of_length_le (by rw [K.len h]; omega)]
    exact h
  | succ j => simp at hj
theorem Reps.keep (h : Reps K w c xs cells) (k : Kp c c' w w') : Reps K w' c' xs cells := ⟨h.1, fun j x hj => K.keep (h.2 j x hj) k⟩
theorem Reps.append (h : Reps K w c xs cells) (k : Reps K w c ys cells2) : Reps K w c (xs ++ ys) (cells ++ cells2) := by
  refine ⟨by rw [List.length_append, List.length_append, h.1, k.1, Nat.add_mul], fun j x hj => ?_⟩
  rcases Nat.lt_or_ge j xs.length with h1 | h1
  · rw [List.getElem?_append_left h1] at hj
    have h2 : j * K.sz + K.sz ≤ cells.length := by
      rw [h.1]
      have := Nat.mul_le_mul_right K.sz (show j + 1 ≤ xs.length by omega)
      rw [Nat.add_mul, Nat.one_mul] at this
      exact this
    rw [List.drop_append_of_le_length (by omega), List.take_append_of_le_length (by rw [List.length_drop]; omega)]
    exact h.2 j x hj
  · rw [List.getElem?_append_right h1] at hj
    have h2 : cells.length ≤ j * K.sz := by rw [h.1]; exact Nat.mul_le_mul_right K.sz h1
    rw [List.drop_append, List.drop_of_length_le h2, List.nil_append, h.1, ← Nat.sub_mul]
    exact k.2 (j - xs.length) x hj
theorem Reps.oneCell (h : Reps K w c xs cells) : ∀ u ∈ cells, u.oneCell' = true := by
  intro u hu
  obtain ⟨i, hi⟩ := List.mem_iff_getElem?.1 hu
  have hil := (List.getElem?_eq_some_iff.1 hi).1
  have hp := K.pos
  have hj : i / K.sz < xs.length := by rw [Nat.div_lt_iff_lt_mul hp, ← h.1]; exact hil
  have hx : xs[i / K.sz]? = some (xs[i / K.sz]'hj) := List.getElem?_eq_getElem hj
  refine K.one (h.2 _ _ hx) u (List.mem_iff_getElem?.2 ⟨i % K.sz, ?_⟩)
  rw [List.getElem?_take, if_pos (Nat.mod_lt _ hp), List.getElem?_drop]
  have : i / K.sz * K.sz + i % K.sz = i := by rw [Nat.mul_comm]; exact Nat.div_add_mod i K.sz
  rw [this]
  exact hi
/-- The cells of a slice that is read. -/
theorem Rd.reps {b off n cp : Nat} (h : Rd K w c (some ⟨b, off, none⟩) n cp xs) : ∃ cells, Reps K w c xs cells ∧ ∀ j u, cells[j]? = some u → w.cell? ((⟨b, off, none⟩ : Addr).add j) = some u := by
  have key : ∀ k, k ≤ n → ∃ cells, Reps K w c (xs.take k) cells ∧ ∀ j u, cells[j]? = some u → w.cell? ⟨b, off + j, none⟩ = some u := by
    intro k
    induction k with
    | zero => exact fun _ => ⟨[], by rw [List.take_zero]; exact Reps.nil K w c, fun j u hj => by simp at hj⟩
    | succ k ih =>
      intro hk
      obtain ⟨cells, hr, hcs⟩ := ih (by omega)
      have hl := h.1
      have hx : xs[k]? = some (xs[k]'(by omega)) := List.getElem?_eq_getElem (by omega)
      obtain ⟨_, _, cs, hrep, hc⟩ := h.elem hx
      refine ⟨cells ++ cs, ?_, fun j u hj => ?_⟩
      · rw [take_snoc' hx]
        exact hr.append (Reps.one hrep)
      · rcases Nat.lt_or_ge j cells.length with h1 | h1
        · rw [List.getElem?_append_left h1] at hj
          exact hcs j u hj
        · rw [List.getElem?_append_right h1] at hj
          have := hc _ u hj
          have h2 : cells.length = k * K.sz := by rw [hr.1, List.length_take]; congr 1; omega
          rw [show off + j = off + (k * K.sz + (j - cells.length)) by omega]
          exact this
  obtain ⟨cells, hr, hcs⟩ := key n (Nat.le_refl _)
  rw [List.take_of_length_le (by rw [h.1]; omega)] at hr
  exact ⟨cells, hr, fun j u hj => by rw [addr_add]; exact hcs j u hj⟩
/-- An owned row of such cells reads. -/
theorem Reps.rd {b0 : Nat} {e : TypeId} {v : Value} {n : Nat} (hr : Reps K w c xs cells) (h : w.ownsRow b0 e K.sz v n cells) (hn : xs.length = n) (hf : ∀ k, v.ownBlock = some k → c k = none) : ∃ A cp, v = .slice A n cp ∧ Rd K w c A n cp xs :=
  Rd.of_own (K := K) h hn hf hr.2
end
section
variable {P : Program} {ops : Array Oper} {rest : List Oper} {o : Oper} {a : Act} {Q : Exit → Act → World → Prop}
/-- append(v, ys...) to a row of the call's own. -/
theorem app_rows {α : Type} {K : Kd α} {W : World} {c : Col} (s x : Operand) (t e : TypeId) (z : Value) (bytes : Nat) (hgd : o.guard = none)
    (ho : o.op = .call { callee := .builtin .append, args := #[s, x], argTypes := #[t, t] })
    (ht : P.underlying t = some (.slice e)) (hinfo : (P.info? e).map (fun i => (i.zero, i.size, i.bytes)) = some (some z, K.sz, bytes)) (hz : z.cells.size = K.sz)
    {A B : Option Addr} {n cp m cq : Nat} (cells : List Value) (ys : List α) (hs : a.eval s = .slice A n cp) (hx : a.eval x = .slice B m cq) (hm : 0 < m)
    {b0 : Nat} (hb0 : b0 ≤ W.heap.size) (HO : W.ownsRow b0 e K.sz (.slice A n cp) n cells) (HR : Rd K W c B m cq ys) (hl : (n + m) * bytes ≤ 140737488355328) (hb : 0 < bytes)
    (h : ∀ A1 cp1 w1 cells2, Reps K W c ys cells2 → w1.ownsRow b0 e K.sz (.slice A1 (n + m) cp1) (n + m) (cells ++ cells2) → W.grownBy w1 (Value.slice A n cp).ownBlock → wpList P ops Q rest (a.put o.dst (.slice A1 (n + m) cp1)) w1) :
    wpList P ops Q (o :: rest) a W := by
  obtain ⟨i0, hi, hzz⟩ := Option.map_eq_some_iff.1 hinfo
  simp only [Prod.mk.injEq] at hzz
  obtain ⟨hz0, hz1, hz2⟩ := hzz
  obtain ⟨bb, off, rfl⟩ := HR.addr hm
  obtain ⟨cells2, hr2, hc2⟩ := HR.reps
  have hlen : n + m ≤ 140737488355328 := Nat.le_trans (Nat.le_mul_of_pos_right _ hb) hl
  refine wpList_append_own_at W hgd s x t ho b0 e i0 z K.sz bytes ht hi hz0 hz1 hz2 hz K.pos (.slice A n cp) n cells hs HO ⟨bb, off, none⟩ m cq cells2 hx
    (by rw [hr2.1, HR.1]) hc2 hr2.oneCell (by simp only [maxLen]; omega) hl hb0 ?_
  intro v1 w1 hown hg _ hat
  obtain ⟨A1, cp1, rfl⟩ := own_form hown
  exact h A1 cp1 w1 cells2 hr2 hown hg
end
/-- Behind a store into a row of the call's own. -/
theorem Below.stored {B : Nat} {w W W' : World} {row : Option Nat} (h : Below B w W) (hg : W.grownBy W' row) (hB : B ≤ W.heap.size) (hr : ∀ k, row = some k → B ≤ k) : Below B w W' := h.grown hg hB hr
theorem grownBy_trans {w w1 w2 : World} {row : Option Nat} (h : w.grownBy w1 row) (k : w1.grownBy w2 row) : w.grownBy w2 row :=
  ⟨k.os.trans h.os, k.tape.trans h.tape, k.output.trans h.output, Nat.le_trans h.size k.size, fun i hi hr => (k.block i (Nat.lt_of_lt_of_le hi h.size) hr).trans (h.block i hi hr)⟩
/-- Three cells of a row of structs are stored. -/
theorem own_stored3 {w : World} {base : Nat} {e : TypeId} {size g n cap : Nat} {xs : List Value} (h : w.ownsRow base e size (.slice (some ⟨g, 0, none⟩) n cap) n xs) (j : Nat) (u v t : Value) :
    (((w.setCell ⟨g, j, none⟩ u).setCell ⟨g, j + 1, none⟩ v).setCell ⟨g, j + 2, none⟩ t).ownsRow base e size (.slice (some ⟨g, 0, none⟩) n cap) n (((xs.set j u).set (j + 1) v).set (j + 2) t) ∧
      w.grownBy (((w.setCell ⟨g, j, none⟩ u).setCell ⟨g, j + 1, none⟩ v).setCell ⟨g, j + 2, none⟩ t) (some g) := by
  have h1 := h.stored j u
  have h2 := h1.1.stored (j + 1) v
  have h3 := h2.1.stored (j + 2) t
  exact ⟨h3.1, grownBy_trans (grownBy_trans h1.2 h2.2) h3.2⟩
/-- A contract that tells a bool, in a world of the class of 'wp_region_quiet_below'. -/
theorem regrown_bool {P : Program} {f : FuncId} {args : Array Value} {w : World} {d : Nat} {os : Array Obj} {b : Bool}
    (h : Calls P f args (Sort.grow (redrawn w d) os) fun e w' => e = .returned (.bool b) ∧ Below (Sort.grow (redrawn w d) os).heap.size (Sort.grow (redrawn w d) os) w') :
    Calls P f args (Sort.grow (redrawn w d) os) fun e w'' => e = .returned (.bool b) ∧ ∃ p : Regrown, w'' = Sort.grow (redrawn w p.d) p.os := Calls.regrown_of h
theorem below_alloc_drew (w : World) (o : Obj) : Below w.heap.size w (w.alloc o).drew :=
  have h := below_alloc w o
  ⟨h.os, h.tape, h.output, h.size, h.block⟩
theorem below_drew {B : Nat} {w W : World} (h : Below B w W) : Below B w W.drew := ⟨h.os, h.tape, h.output, h.size, h.block⟩
end Go.Proofs.Ytalihocoekplgaa
