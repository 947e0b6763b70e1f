/- Plain: the bits of a word, lowest first; the numbers of a row of words. -/
import Derived.Lib.TrailingZeros
namespace Go.Proofs.YthfapneifbjlmaaDoor
set_option linter.unusedVariables false
set_option linter.unusedSimpArgs false

theorem filter_first (p : Nat → Bool) (k : Nat) (hk : p k = true) (hlo : ∀ j, j < k → p j = false) : ∀ n, k < n → (List.range n).filter p = k :: (List.range n).filter (fun j => p j && decide (j ≠ k))
  | 0, h => by omega
  | n + 1, h => by
    rw [List.range_succ, List.filter_append, List.filter_append]
    by_cases hkn : k < n
    · rw [filter_first p k hk hlo n hkn]
      have : n ≠ k := by omega
      simp [List.filter_cons, this]
    · have e : k = n := by omega
      subst e
      have h1 : (List.range k).filter p = [] := by
        rw [List.filter_eq_nil_iff]; intro j hj; rw [hlo j (List.mem_range.1 hj)]; simp
      have h2 : (List.range k).filter (fun j => p j && decide (j ≠ k)) = [] := by
        rw [List.filter_eq_nil_iff]; intro j hj; rw [hlo j (List.mem_range.1 hj)]; simp
      rw [h1, h2]
      simp [List.filter_cons, hk]

/-- The bits of a word. -/
def wbits (w : Nat) : List Nat := (List.range 64).filter fun j => w.testBit j
theorem wbits_zero : wbits 0 = [] := by unfold wbits; rw [List.filter_eq_nil_iff]; intro j _; simp

theorem drop_bits (k m : Nat) : ∀ j, ((2 ^ k * (2 * m + 1)) &&& (2 ^ k * (2 * m + 1) - 1)).testBit j = ((2 ^ k * (2 * m + 1)).testBit j && decide (j ≠ k)) := by
  intro j
  have hp : 0 < 2 ^ k := Nat.two_pow_pos _
  have e : 2 ^ k * (2 * m + 1) - 1 = 2 ^ k * (2 * m) + (2 ^ k - 1) := by
    have : 2 ^ k * (2 * m + 1) = 2 ^ k * (2 * m) + 2 ^ k := by rw [Nat.mul_add]; omega
    omega
  rw [Nat.testBit_and, e]
  by_cases hj : j < k
  · rw [Nat.testBit_two_pow_mul]
    have : ¬ (k ≤ j) := by omega
    simp [this]
  · have hkj : k ≤ j := by omega
    have h1 : (2 ^ k * (2 * m) + (2 ^ k - 1)).testBit j = (2 * m).testBit (j - k) := by
      have hlt : 2 ^ k - 1 < 2 ^ k := by omega
      rw [Nat.testBit_two_pow_mul_add _ hlt, if_neg hj]
    rw [h1, Nat.testBit_two_pow_mul]
    by_cases hjk : j = k
    · subst hjk; simp
    · obtain ⟨d, hd⟩ : ∃ d, j - k = d + 1 := ⟨j - k - 1, by omega⟩
      rw [hd, Nat.testBit_succ, Nat.testBit_succ]
      have : (2 * m + 1) / 2 = m := by omega
      rw [this]
      simp [hkj, hjk]

theorem wbits_step (w : Nat) (h0 : w ≠ 0) (h : w < 18446744073709551616) : wbits w = Lib.ctz 64 w :: wbits (w &&& (w - 1)) ∧ Lib.ctz 64 w < 64 := by
  obtain ⟨m, hm, hk⟩ := Lib.ctzFrom_spec 64 w (by omega) (by simpa using h)
  have hc : Lib.ctz 64 w = Lib.ctzFrom 64 w := by simp [Lib.ctz, h0]
  rw [hc]
  refine ⟨?_, hk⟩
  generalize Lib.ctzFrom 64 w = k at *
  subst hm
  unfold wbits
  rw [filter_first _ k (by rw [Nat.testBit_two_pow_mul]; simp) (fun j hj => by rw [Nat.testBit_two_pow_mul]; simp; omega) 64 hk]
  congr 1
  apply List.filter_congr
  intro j _
  rw [drop_bits]
theorem step_lt (w : Nat) (h0 : w ≠ 0) : w &&& (w - 1) < w := by
  have := Nat.and_le_right (n := w) (m := w - 1)
  omega

/-- The numbers of a row of words, the first of which is word i. -/
def mems : Nat → List Nat → List Nat
  | _, [] => []
  | i, w :: ws => (wbits w).map (fun j => 64 * i + j) ++ mems (i + 1) ws
theorem mems_snoc (w : Nat) : ∀ (ws : List Nat) (i : Nat), mems i (ws ++ [w]) = mems i ws ++ (wbits w).map (fun j => 64 * (i + ws.length) + j)
  | [], i => by simp [mems]
  | v :: ws, i => by
    simp only [List.cons_append, mems, List.length_cons]
    rw [mems_snoc w ws (i + 1), List.append_assoc, show i + 1 + ws.length = i + (ws.length + 1) from by omega]
theorem mems_append (us : List Nat) : ∀ (ws : List Nat) (i : Nat), mems i (ws ++ us) = mems i ws ++ mems (i + ws.length) us
  | [], i => by simp [mems]
  | v :: ws, i => by
    simp only [List.cons_append, mems, List.length_cons]
    rw [mems_append us ws (i + 1), List.append_assoc, show i + 1 + ws.length = i + (ws.length + 1) from by omega]
theorem mems_take (ws : List Nat) (k : Nat) : mems 0 (ws.take k) <+: mems 0 ws := by
  have h := mems_append (ws.drop k) (ws.take k) 0
  rw [List.take_append_drop] at h
  exact ⟨_, h.symm⟩
theorem mems_lt : ∀ (ws : List Nat) (i x : Nat), x ∈ mems i ws → x < 64 * (i + ws.length)
  | [], i, x, h => by simp [mems] at h
  | w :: ws, i, x, h => by
    simp only [mems, List.mem_append, List.mem_map] at h
    rcases h with ⟨j, hj, rfl⟩ | h
    · have := List.mem_range.1 (List.mem_filter.1 hj).1
      simp only [List.length_cons]; omega
    · have := mems_lt ws (i + 1) x h
      simp only [List.length_cons]; omega
end Go.Proofs.YthfapneifbjlmaaDoor
