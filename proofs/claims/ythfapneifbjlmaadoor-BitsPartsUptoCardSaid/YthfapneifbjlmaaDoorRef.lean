/- Plain: the reference's Subsets is subsL; ints compares. -/
import Derived.Test.YthfapneifbjlmaaDoorPBitsSubsetsx1
import Derived.Test.YthfapneifbjlmaaDoorG
namespace Go.Proofs.YthfapneifbjlmaaDoor
open Go.RowKit Go.Proofs.YthfapneifbjlmaaDoor.PBitsSubsets Go.Proofs.YthfapneifbjlmaaDoorW.PrintWords
set_option linter.unusedVariables false
set_option linter.unusedSimpArgs false

theorem w64 {n : Int} (h1 : -9223372036854775808 ≤ n) (h2 : n ≤ 9223372036854775807) : wrap64 n = n := by unfold wrap64; omega

theorem rowsL_len (N : Nat) (hN : N ≤ 10) : ∀ k f, (rowsL N k f).length ≤ 10 ^ k
  | 0, f => by simp [rowsL]
  | k + 1, f => by
    rw [rowsL, List.length_flatMap]
    have h : ∀ (l : List Nat), l.length ≤ 10 → (l.map fun i => ((rowsL N k (i + 1)).map (i :: ·)).length).sum ≤ l.length * 10 ^ k := by
      intro l
      induction l with
      | nil => intro _; simp
      | cons a l ih =>
        intro hl
        have := ih (by simp at hl; omega)
        have h2 := rowsL_len N hN k (a + 1)
        simp only [List.map_cons, List.sum_cons, List.length_map, List.length_cons] at this ⊢
        rw [Nat.succ_mul]
        omega
    have := h (List.range' f (N - k - f)) (by simp; omega)
    have h3 : (List.range' f (N - k - f)).length * 10 ^ k ≤ 10 * 10 ^ k := Nat.mul_le_mul_right _ (by simp; omega)
    rw [Nat.pow_succ]
    omega
theorem rowsL_each (N : Nat) : ∀ k f r, r ∈ rowsL N k f → r.length = k
  | 0, f, r, h => by simp [rowsL] at h; simp [h]
  | k + 1, f, r, h => by
    rw [rowsL, List.mem_flatMap] at h
    obtain ⟨i, _, h⟩ := h
    obtain ⟨q, hq, rfl⟩ := List.mem_map.1 h
    simp [rowsL_each N k (i + 1) q hq]
theorem pow10 {k : Nat} (h : k ≤ 10) : (10 : Nat) ^ k ≤ 10000000000 := Nat.le_trans (Nat.pow_le_pow_right (by omega) h) (by decide)

/-- The inner loop: the item is laid ahead of each row of the rest. -/
theorem l1_pure (l : List Int) (a1 : Int) (i : Nat) (hi : i < l.length) (t : List (List Int)) (ht : ∀ r ∈ t, r.length ≤ 10) (R : List (List Int)) : ∀ (d j : Nat) (acc : List (List Int)), j + d = t.length → t.length ≤ 10000000000 → acc.length + d ≤ 2000000000000 →
    Ev (fun k => sextantref03_rows.l0 k l a1 (acc ++ (t.drop j).map (nd l i :: ·)) (wrap64 ((i : Int) + 1))) R → Ev (fun k => sextantref03_rows.l1 k l a1 acc i t j) R
  | 0, j, acc, hj, htl, hacc, h => by
    refine Ev.step (f := fun k => sextantref03_rows.l0 k l a1 acc (wrap64 ((i : Int) + 1))) (fun k => ?_) ?_
    · simp only [sextantref03_rows.l1]; rw [if_neg (by omega)]
    · have e : t.drop j = [] := List.drop_eq_nil_of_le (by omega)
      simpa [e] using h
  | d + 1, j, acc, hj, htl, hacc, h => by
    have hjt : j < t.length := by omega
    have hr : rd_L1 t j = t[j] := by simp [rd_L1, List.getElem?_eq_getElem hjt]
    have hrl : (rd_L1 t j).length ≤ 10 := by rw [hr]; exact ht _ (List.getElem_mem hjt)
    have hrd : rd l i = nd l i := by simp [rd, nd]
    refine Ev.step (f := fun k => sextantref03_rows.l1 k l a1 (acc ++ [nd l i :: t[j]]) i t ((j + 1 : Nat) : Int)) (fun k => ?_) ?_
    · simp only [sextantref03_rows.l1, Option.bind_some]
      rw [if_pos (by omega), if_pos (by omega), if_pos (by omega), if_pos (by omega), if_pos (by simp only [List.length_cons, List.length_nil]; omega), if_pos (by omega), w64 (n := (j : Int) + 1) (by omega) (by omega), hr, hrd]
      simp
    · refine l1_pure l a1 i hi t ht R d (j + 1) _ (by omega) htl (by simp; omega) ?_
      rw [List.drop_eq_getElem_cons hjt, List.map_cons] at h
      rw [List.append_assoc, List.singleton_append]
      exact h

theorem rows_pure (l : List Int) (hl : l.length ≤ 10) : ∀ (n f : Nat), f ≤ 20 → n ≤ 10 → Ev (fun k => sextantref03_rows.f k l n f) ((rowsL l.length n f).map (pick l))
  | 0, f, hf, hn => by
    refine Ev.step (f := fun _ => some [[]]) (fun k => ?_) ?_
    · simp [sextantref03_rows.f]
    · simpa [rowsL, pick] using Ev.now [[]]
  | n + 1, f, hf, hn => by
    refine Ev.step (f := fun k => sextantref03_rows.l0 k l ((n + 1 : Nat) : Int) [] f) (fun k => ?_) ?_
    · simp only [sextantref03_rows.f]; rw [if_neg (by omega)]
    · have loop : ∀ (d i : Nat) (acc : List (List Int)), i ≤ 20 → l.length - n - i = d → acc.length + d * 10000000000 ≤ 200000000000 →
          Ev (fun k => sextantref03_rows.l0 k l ((n + 1 : Nat) : Int) acc i) (acc ++ ((List.range' i d).flatMap fun i => (rowsL l.length n (i + 1)).map (i :: ·)).map (pick l)) := by
        intro d
        induction d with
        | zero =>
          intro i acc hi hd hacc
          refine Ev.step (f := fun _ => some acc) (fun k => ?_) (by simpa using Ev.now acc)
          simp only [sextantref03_rows.l0]; rw [w64 (by omega) (by omega), if_neg (by omega)]
        | succ d ih =>
          intro i acc hi hd hacc
          have hil : i < l.length := by omega
          refine Ev.step (f := fun k => (sextantref03_rows.f k l (n : Int) ((i + 1 : Nat) : Int)).bind fun t => sextantref03_rows.l1 k l ((n + 1 : Nat) : Int) acc i t 0) (fun k => ?_) ?_
          · simp only [sextantref03_rows.l0]
            rw [w64 (n := (i : Int) + ((n + 1 : Nat) : Int)) (by omega) (by omega), if_pos (by omega), w64 (n := ((n + 1 : Nat) : Int) - 1) (by omega) (by omega), w64 (n := (i : Int) + 1) (by omega) (by omega), show ((n + 1 : Nat) : Int) - 1 = (n : Int) from by omega, show (i : Int) + 1 = ((i + 1 : Nat) : Int) from by omega]
          · have hle := rowsL_len l.length hl n (i + 1)
            have hp := pow10 (k := n) (by omega)
            refine Ev.bind (rows_pure l hl n (i + 1) (by omega) (by omega)) ?_
            refine l1_pure l _ i hil _ (fun r hr => ?_) _ ((rowsL l.length n (i + 1)).map (pick l)).length 0 acc (Nat.zero_add _) (by simp; omega) (by simp; omega) ?_
            · obtain ⟨q, hq, rfl⟩ := List.mem_map.1 hr
              have := rowsL_each _ _ _ _ hq
              simp [pick]; omega
            · rw [w64 (n := (i : Int) + 1) (by omega) (by omega), show (i : Int) + 1 = ((i + 1 : Nat) : Int) from by omega, List.drop_zero]
              have := ih (i + 1) (acc ++ ((rowsL l.length n (i + 1)).map (pick l)).map (nd l i :: ·)) (by omega) (by omega) (by simp; omega)
              rw [List.range'_succ, List.flatMap_cons, List.map_append]
              rw [List.append_assoc] at this
              have e : ((rowsL l.length n (i + 1)).map (i :: ·)).map (pick l) = ((rowsL l.length n (i + 1)).map (pick l)).map (nd l i :: ·) := by
                rw [List.map_map, List.map_map]; exact List.map_congr_left fun r _ => by simp [pick]
              rw [e]
              exact this
      have := loop (l.length - n - f) f [] hf rfl (by simp; omega)
      rw [rowsL]
      simpa using this

theorem subs_pure (l : List Int) : ∃ k, sextantref03_Subsets.f k l = some (subsL l) := by
  unfold sextantref03_Subsets.f subsL
  by_cases hl : 10 < l.length
  · exact ⟨0, by rw [if_pos (by omega), if_pos hl]⟩
  · rw [if_neg hl]
    simp only [if_neg (show ¬ ((l.length : Int) > 10) by omega)]
    have loop : ∀ (d m : Nat) (acc : List (List Int)), 1 ≤ m → l.length + 1 - m = d → acc.length + d * 10000000000 ≤ 200000000000 →
        Ev (fun k => sextantref03_Subsets.l0 k l acc m) (acc ++ ((List.range' m d).flatMap fun k => rowsL l.length k 0).map (pick l)) := by
      intro d
      induction d with
      | zero =>
        intro m acc hm hd hacc
        refine Ev.step (f := fun _ => some acc) (fun k => ?_) (by simpa using Ev.now acc)
        simp only [sextantref03_Subsets.l0]; rw [if_neg (by omega)]
      | succ d ih =>
        intro m acc hm hd hacc
        have hml : m ≤ l.length := by omega
        have hle := rowsL_len l.length (by omega) m 0
        have hp := pow10 (k := m) (by omega)
        refine Ev.step (f := fun k => (sextantref03_rows.f k l (m : Int) ((0 : Nat) : Int)).bind fun t => if acc.length + t.length < 5864062014805 then sextantref03_Subsets.l0 k l (acc ++ t) ((m + 1 : Nat) : Int) else none) (fun k => ?_) ?_
        · simp only [sextantref03_Subsets.l0]
          rw [if_pos (by omega), w64 (n := (m : Int) + 1) (by omega) (by omega), show (m : Int) + 1 = ((m + 1 : Nat) : Int) from by omega]
          rfl
        · refine Ev.bind (rows_pure l (by omega) m 0 (by omega) (by omega)) ?_
          simp only [if_pos (show acc.length + ((rowsL l.length m 0).map (pick l)).length < 5864062014805 by simp; omega)]
          have := ih (m + 1) (acc ++ (rowsL l.length m 0).map (pick l)) (by omega) (by omega) (by simp; omega)
          rw [List.range'_succ, List.flatMap_cons, List.map_append]
          rwa [List.append_assoc] at this
    have := (loop l.length 1 [] (Nat.le_refl _) (by omega) (by simp; omega)).rounds
    simpa [subsTo] using this
end Go.Proofs.YthfapneifbjlmaaDoor
