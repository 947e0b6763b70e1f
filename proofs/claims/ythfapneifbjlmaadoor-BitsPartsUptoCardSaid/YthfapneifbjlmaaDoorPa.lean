/- Plain: what Or, And, Without leave, in bits. -/
import Derived.Test.YthfapneifbjlmaaDoorO
namespace Go.Proofs.YthfapneifbjlmaaDoor
open Go.RowKit Go.Shelf
set_option linter.unusedVariables false
set_option linter.unusedSimpArgs false

theorem big_bit (a j : Nat) (ha : a < 18446744073709551616) (hj : 64 ≤ j) : a.testBit j = false := Nat.testBit_lt_two_pow (Nat.lt_of_lt_of_le ha (by
  have : (2 : Nat) ^ 64 ≤ 2 ^ j := Nat.pow_le_pow_right (by omega) hj
  simpa using this))
theorem wout_bit (a b j : Nat) (ha : a < 18446744073709551616) (hb : b < 18446744073709551616) : (wout a b).testBit j = (a.testBit j && !b.testBit j) := by
  unfold wout
  rw [Nat.testBit_and, show 18446744073709551615 - b = 2 ^ 64 - (b + 1) from by omega, Nat.testBit_two_pow_sub_succ (by omega)]
  by_cases hj : j < 64
  · simp [hj]
  · simp [big_bit a j ha (by omega)]
theorem wor_bit (a b j : Nat) : (wor a b).testBit j = (a.testBit j || b.testBit j) := Nat.testBit_or ..
theorem wand_bit (a b j : Nat) : (wand a b).testBit j = (a.testBit j && b.testBit j) := Nat.testBit_and ..
theorem zero_bits {a : Nat} (h : ∀ j, a.testBit j = false) : a = 0 := Nat.eq_of_testBit_eq fun j => by rw [h j]; simp
theorem l_none {a b : Nat} (ha : a < 18446744073709551616) (hb : b < 18446744073709551616) : wand (wout a b) (wand a b) = 0 := zero_bits fun j => by
  rw [wand_bit, wout_bit _ _ _ ha hb, wand_bit]; cases a.testBit j <;> cases b.testBit j <;> rfl
theorem l_both {a b : Nat} (ha : a < 18446744073709551616) (hb : b < 18446744073709551616) : wor (wout a b) (wand a b) = a := Nat.eq_of_testBit_eq fun j => by
  rw [wor_bit, wout_bit _ _ _ ha hb, wand_bit]; cases a.testBit j <;> cases b.testBit j <;> rfl
theorem l_w {a b : Nat} (ha : a < 18446744073709551616) (hb : b < 18446744073709551616) : wout (wout a b) a = 0 := zero_bits fun j => by
  rw [wout_bit _ _ _ (wout_lt ha hb) ha, wout_bit _ _ _ ha hb]; cases a.testBit j <;> cases b.testBit j <;> rfl
theorem l_u {a b : Nat} (ha : a < 18446744073709551616) (hb : b < 18446744073709551616) : wout (wand a b) b = 0 := zero_bits fun j => by
  rw [wout_bit _ _ _ (wand_lt ha hb) hb, wand_bit]; cases a.testBit j <;> cases b.testBit j <;> rfl
theorem l_s {a b : Nat} (ha : a < 18446744073709551616) (hb : b < 18446744073709551616) : wout a (wor a b) = 0 := zero_bits fun j => by
  rw [wout_bit _ _ _ ha (wor_lt ha hb), wor_bit]; cases a.testBit j <;> cases b.testBit j <;> rfl
theorem l_t {a b : Nat} (ha : a < 18446744073709551616) (hb : b < 18446744073709551616) : wout b (wor a b) = 0 := zero_bits fun j => by
  rw [wout_bit _ _ _ hb (wor_lt ha hb), wor_bit]; cases a.testBit j <;> cases b.testBit j <;> rfl
theorem filter_two (p q r : Nat → Bool) (h : ∀ j, p j = (q j || r j)) (hd : ∀ j, ¬ (q j = true ∧ r j = true)) : ∀ l : List Nat, (l.filter p).length = (l.filter q).length + (l.filter r).length
  | [] => rfl
  | x :: l => by
    have ih := filter_two p q r h hd l
    have h1 := h x
    have h2 := hd x
    cases hq : q x <;> cases hr : r x <;> simp [h1, hq, hr, ih] at h2 ⊢ <;> omega
theorem l_count {a b : Nat} (ha : a < 18446744073709551616) (hb : b < 18446744073709551616) : (wbits (wor a b)).length = (wbits (wout a b)).length + (wbits b).length := by
  unfold wbits
  refine filter_two _ _ _ (fun j => ?_) (fun j => ?_) _
  · rw [wor_bit, wout_bit _ _ _ ha hb]; cases a.testBit j <;> cases b.testBit j <;> rfl
  · rw [wout_bit _ _ _ ha hb]; cases a.testBit j <;> cases b.testBit j <;> simp
/-- .. and of rows of words. -/
def Words64 (ws : List Nat) : Prop := ∀ x, x ∈ ws → x < 18446744073709551616
theorem mems_count : ∀ (ws vs : List Nat) (i : Nat), vs.length = ws.length → Words64 ws → Words64 vs → (mems i (List.zipWith wor ws vs)).length = (mems i (List.zipWith wout ws vs)).length + (mems i vs).length
  | [], [], i, _, _, _ => rfl
  | a :: ws, b :: vs, i, h, h1, h2 => by
    have ih := mems_count ws vs (i + 1) (by simpa using h) (fun x hx => h1 x (List.mem_cons_of_mem _ hx)) (fun x hx => h2 x (List.mem_cons_of_mem _ hx))
    have hc := l_count (h1 a (by simp)) (h2 b (by simp))
    simp only [List.zipWith_cons_cons, mems, List.length_append, List.length_map, ih, hc]
    omega
theorem mems_none : ∀ (ws vs : List Nat) (i : Nat), Words64 ws → Words64 vs → mems i (List.zipWith wand (List.zipWith wout ws vs) (List.zipWith wand ws vs)) = []
  | [], vs, i, _, _ => by simp [mems]
  | a :: ws, [], i, _, _ => by simp [mems]
  | a :: ws, b :: vs, i, h1, h2 => by
    have ih := mems_none ws vs (i + 1) (fun x hx => h1 x (List.mem_cons_of_mem _ hx)) (fun x hx => h2 x (List.mem_cons_of_mem _ hx))
    simp only [List.zipWith_cons_cons, mems, ih, l_none (h1 a (by simp)) (h2 b (by simp)), wbits_zero]
    rfl
theorem zip_both : ∀ (ws vs : List Nat), vs.length = ws.length → Words64 ws → Words64 vs → List.zipWith wor (List.zipWith wout ws vs) (List.zipWith wand ws vs) = ws
  | [], [], _, _, _ => rfl
  | a :: ws, b :: vs, h, h1, h2 => by
    have ih := zip_both ws vs (by simpa using h) (fun x hx => h1 x (List.mem_cons_of_mem _ hx)) (fun x hx => h2 x (List.mem_cons_of_mem _ hx))
    simp only [List.zipWith_cons_cons, ih, l_both (h1 a (by simp)) (h2 b (by simp))]
theorem wd_zip (f : Nat → Nat → Nat) (ws vs : List Nat) (h : vs.length = ws.length) (j : Nat) (hj : j < ws.length) : wd (List.zipWith f ws vs) j = f (wd ws j) (wd vs j) := by
  simp [wd, List.getElem?_zipWith, List.getElem?_eq_getElem hj, List.getElem?_eq_getElem (show j < vs.length by omega)]
theorem wd_lt {ws : List Nat} (h : Words64 ws) (j : Nat) : wd ws j < 18446744073709551616 := by
  unfold wd
  rw [List.getD_eq_getElem?_getD]
  cases hj : ws[j]? with
  | none => simp
  | some x => exact h x (List.mem_of_getElem? hj)
end Go.Proofs.YthfapneifbjlmaaDoor
