/- Plain: what widths, heights and pairs of a past keep to one another. -/
import Derived.Test.YtofinglgnkdflaaKXN
import Derived.Test.YtofinglgnkdflaaKOi
namespace Go.Proofs.Ytofinglgnkdflaa
open Go.RowKit
open Go.Proofs.Ytofinglgnkdflaa.PHistoryChecks Go.Proofs.YtofinglgnkdflaaW.PrintWords Go.Proofs.YtofinglgnkdflaaW.PrintLast Go.Proofs.YtofinglgnkdflaaW.PrintMore
set_option linter.unusedVariables false
set_option linter.unusedSimpArgs false
def sumN (f : Nat → Int) : Nat → Int
  | 0 => 0
  | n + 1 => sumN f n + f n
theorem sumN_shift (f : Nat → Int) : ∀ n : Nat, sumN f (n + 1) = f 0 + sumN (fun i => f (i + 1)) n
  | 0 => by simp [sumN]
  | n + 1 => by
    rw [show sumN f (n + 1 + 1) = sumN f (n + 1) + f (n + 1) from rfl, sumN_shift f n]
    simp only [sumN]; omega
def sgn (e : S47) : Int := if e.f0 = 1 then 1 else if e.f0 = 2 then -1 else 0
def Sg (xs : List S47) (l : List Int) : Prop := l.length = xs.length ∧ ∀ j : Nat, j < xs.length → rd l (j : Int) = sgn (rd_T47 xs (j : Int))
theorem rd47_set (xs : List S47) (i j : Nat) (v : S47) (hj : j < xs.length) : rd_T47 (xs.set i v) (j : Int) = if i = j then v else rd_T47 xs (j : Int) := by
  unfold rd_T47
  rw [Int.toNat_natCast, List.getD_eq_getElem?_getD, List.getD_eq_getElem?_getD, List.getElem?_set]
  by_cases e : i = j
  · rw [if_pos e, if_pos e, if_pos (by omega)]; rfl
  · rw [if_neg e, if_neg e]
theorem putB_iff {xs : List S47} {a : Int} (h : putB xs a = true) : 0 ≤ a ∧ a.toNat < xs.length ∧ (rd_T47 xs (a.toNat : Int)).f0 = 0 := by
  unfold putB at h
  simp only [Bool.and_eq_true, decide_eq_true_eq] at h
  rw [Int.toNat_of_nonneg h.1]
  exact ⟨h.1, by omega, h.2.2⟩
theorem Sg.put {xs : List S47} {l : List Int} (h : Sg xs l) {a : Int} (hp : putB xs a = true) (e : S47) (v : Int) (hv : sgn e = v) :
    Sg (putL xs a e) (l.set a.toNat v) ∧ rd l (a.toNat : Int) = 0 ∧ a.toNat < l.length := by
  obtain ⟨h0, h1, h2⟩ := putB_iff hp
  unfold putL
  rw [if_pos hp]
  refine ⟨⟨by rw [List.length_set, List.length_set]; exact h.1, fun j hj => ?_⟩, ?_, by rw [h.1]; exact h1⟩
  · rw [List.length_set] at hj
    rw [rd_set', rd47_set _ _ _ _ hj]
    by_cases e1 : a.toNat = j
    · rw [if_pos ⟨e1, by rw [h.1]; exact hj⟩, if_pos e1, hv]
    · rw [if_neg (fun hh => e1 hh.1), if_neg e1]; exact h.2 j hj
  · rw [h.2 _ h1]; unfold sgn; rw [h2]; rfl
theorem mkGo_right (l : List S47) : ∀ (t : Int) (s r : St), mkGo l t s = .go r → ∀ e ∈ l, rightE e = true := by
  induction l with
  | nil => intro t s r _ e he; cases he
  | cons x l ih =>
    intro t s r hg e he
    simp only [mkGo] at hg
    rcases hs : mkStep s t x with ⟨a, c⟩ | s2
    · rw [hs] at hg; cases hg
    · rw [hs] at hg
      rcases List.mem_cons.1 he with rfl | he
      · unfold mkStep at hs
        split at hs
        · cases hs
        · rename_i h; cases hr : rightE e
          · exact absurd hr h
          · rfl
      · exact ih _ _ _ hg e he
theorem mkStep_bad {s : St} {t a c : Int} {x : S47} (h : mkStep s t x = .bad a c) : c ≠ 0 := by
  unfold mkStep at h
  repeat' split at h
  all_goals (first | cases h | skip)
  all_goals (first | decide | skip)
theorem mkGo_bad (l : List S47) : ∀ (t : Int) (s : St) (a c : Int), mkGo l t s = .bad a c → c ≠ 0 := by
  induction l with
  | nil => intro t s a c h; cases h
  | cons x l ih =>
    intro t s a c hg
    simp only [mkGo] at hg
    rcases hs : mkStep s t x with ⟨a', c'⟩ | s2
    · rw [hs] at hg; cases hg; exact mkStep_bad hs
    · rw [hs] at hg; exact ih _ _ _ _ hg
theorem make_right (E : List S47) (hc : (makeF E).2.2 = 0) : ∀ e ∈ E, rightE e = true := by
  unfold makeF at hc
  rcases hg : mkGo E 0 st0 with ⟨a, c⟩ | r
  · rw [hg] at hc; exact absurd hc (mkGo_bad E _ _ _ _ hg)
  · exact mkGo_right E _ _ _ hg
structure CallsOk (cl : List S50) (T : Nat) : Prop where
  a : ∀ i : Nat, i < cl.length → 0 ≤ (rd_T50 cl (i : Int)).f4 ∧ (rd_T50 cl (i : Int)).f4 < T ∧ (rd_T50 cl (i : Int)).f5 < T ∧ ((rd_T50 cl (i : Int)).f5 = -1 ∨ (rd_T50 cl (i : Int)).f4 < (rd_T50 cl (i : Int)).f5)
  b : ∀ i j : Nat, i < j → j < cl.length → (rd_T50 cl (i : Int)).f4 < (rd_T50 cl (j : Int)).f4
  c : ∀ i j : Nat, i < cl.length → j < cl.length → 0 ≤ (rd_T50 cl (i : Int)).f5 → (rd_T50 cl (i : Int)).f5.toNat ≠ (rd_T50 cl (j : Int)).f4.toNat
theorem inGo_other (cl : List S50) (b : Nat) (k : Nat) : ∀ (a : Nat) (s : List Int × Int) (j : Nat), j ≠ b → rd (inGo cl b k a s).1 (j : Int) = rd s.1 (j : Int) := by
  induction k with
  | zero => intros; rfl
  | succ k ih =>
    intro a s j hj
    simp only [inGo]
    rw [ih _ _ _ hj]
    unfold inStep
    split
    · rw [rd_set', if_neg (fun h => hj h.1.symm)]
    · rfl
theorem inGo_own (cl : List S50) (b : Nat) (k : Nat) : ∀ (a : Nat) (s : List Int × Int), a + k ≤ b → b < s.1.length → rd s.1 (b : Int) ≤ rd (inGo cl b k a s).1 (b : Int) ∧ ∀ j : Nat, a ≤ j → j < a + k → befB cl j b = true → rd s.1 (j : Int) + 1 ≤ rd (inGo cl b k a s).1 (b : Int) := by
  induction k with
  | zero => intro a s _ _; exact ⟨Int.le_refl _, fun j h1 h2 => by omega⟩
  | succ k ih =>
    intro a s hk hb
    simp only [inGo]
    have hl : b < (inStep cl b a s).1.length := by unfold inStep; split <;> simpa using hb
    obtain ⟨h1, h2⟩ := ih (a + 1) (inStep cl b a s) (by omega) hl
    have h3 : rd s.1 (b : Int) ≤ rd (inStep cl b a s).1 (b : Int) ∧ (befB cl a b = true → rd s.1 (a : Int) + 1 ≤ rd (inStep cl b a s).1 (b : Int)) := by
      unfold inStep
      split
      · rw [rd_set', if_pos ⟨rfl, hb⟩]; exact ⟨by omega, fun _ => by omega⟩
      · rename_i h; exact ⟨Int.le_refl _, fun h2 => absurd h2 h⟩
    have h4 : ∀ j : Nat, j ≠ b → rd (inStep cl b a s).1 (j : Int) = rd s.1 (j : Int) := fun j hj => inGo_other cl b 1 a s j hj
    refine ⟨by omega, fun j hj1 hj2 hbf => ?_⟩
    by_cases e : j = a
    · subst e; have := h3.2 hbf; omega
    · have := h2 j (by omega) (by omega) hbf
      rw [h4 j (by omega)] at this; exact this
theorem inGo_pairs (cl : List S50) (b : Nat) (k : Nat) : ∀ (a : Nat) (s : List Int × Int), (inGo cl b k a s).2 = s.2 + sumN (fun i => if befB cl ((a + i : Nat) : Int) b then 0 else 1) k := by
  induction k with
  | zero => intro a s; simp [inGo, sumN]
  | succ k ih =>
    intro a s
    simp only [inGo]
    rw [ih, sumN_shift]
    have e : (fun i => if befB cl ((a + 1 + i : Nat) : Int) b then (0 : Int) else 1) = (fun i => if befB cl ((a + (i + 1) : Nat) : Int) b then (0 : Int) else 1) := by
      funext i; rw [show a + 1 + i = a + (i + 1) by omega]
    rw [e, Nat.add_zero]
    unfold inStep
    by_cases h : befB cl a b = true
    · rw [if_pos h, if_pos h]; omega
    · rw [if_neg h, if_neg h]; omega
structure OfInv (cl : List S50) (b : Nat) (s : OfS) : Prop where
  len : s.h.length = cl.length
  lo : ∀ j : Nat, j < b → 1 ≤ rd s.h (j : Int) ∧ rd s.h (j : Int) ≤ s.ht
  up : ∀ i j : Nat, i < j → j < b → befB cl i j = true → rd s.h (i : Int) < rd s.h (j : Int)
  pa : s.pa = sumN (fun j => sumN (fun i => if befB cl (i : Int) (j : Int) then 0 else 1) j) b
  p : s.p = sumN (fun j => if (rd_T50 cl (j : Int)).f5 < 0 then 1 else 0) b
  h0 : 0 ≤ s.ht
  hb : HtB s.h ∧ s.ht ≤ (b : Int)
theorem inGo_ht (cl : List S50) (b : Nat) (k : Nat) : ∀ (a : Nat) (s : List Int × Int), a + k ≤ b → HtB s.1 → HtB (inGo cl b k a s).1 := by
  induction k with
  | zero => intro a s _ h; exact h
  | succ k ih =>
    intro a s hk h
    simp only [inGo]
    refine ih _ _ (by omega) ?_
    unfold inStep
    split
    · have h1 := h a
      have h2 := h b
      exact h.set b _ (by omega) (by omega)
    · exact h
theorem OfInv.step {cl : List S50} {b : Nat} {s : OfS} (h : OfInv cl b s) (hb : b < cl.length) : OfInv cl (b + 1) (ofStep cl b s) := by
  have hl : b < (s.h.set b 1).length := by rw [List.length_set, h.len]; exact hb
  obtain ⟨h1, h2⟩ := inGo_own cl b b 0 (s.h.set b 1, s.pa) (by omega) hl
  have h3 := inGo_other cl b b 0 (s.h.set b 1, s.pa)
  have h4 := inGo_pairs cl b b 0 (s.h.set b 1, s.pa)
  have h5 := inGo_ht cl b b 0 (s.h.set b 1, s.pa) (by omega) (h.hb.1.set b 1 (by omega) (by omega))
  have h6 := inGo_length cl b b 0 (s.h.set b 1, s.pa)
  unfold ofStep
  obtain ⟨r, hr⟩ : ∃ r, r = inGo cl b b 0 (s.h.set b 1, s.pa) := ⟨_, rfl⟩
  rw [← hr] at h1 h2 h3 h4 h5 h6 ⊢
  simp only at h1 h2 h3 h4 h6 ⊢
  have e1 : ∀ j : Nat, j ≠ b → rd r.1 (j : Int) = rd s.h (j : Int) := fun j hj => by rw [h3 j hj, rd_set', if_neg (fun h => hj h.1.symm)]
  have e2 : 1 ≤ rd r.1 (b : Int) := by
    rw [rd_set', if_pos ⟨rfl, by rw [h.len]; exact hb⟩] at h1; exact h1
  refine ⟨by rw [h6, List.length_set]; exact h.len, fun j hj => ?_, fun i j hij hj hbf => ?_, ?_, ?_, ?_, ?_, ?_⟩
  · show 1 ≤ rd r.1 (j : Int) ∧ rd r.1 (j : Int) ≤ max s.ht (rd r.1 (b : Int))
    by_cases e : j = b
    · subst e; omega
    · rw [e1 j e]; have := h.lo j (by omega); omega
  · show rd r.1 (i : Int) < rd r.1 (j : Int)
    rw [e1 i (by omega)]
    by_cases e : j = b
    · subst e
      have h7 := h2 i (by omega) (by omega) hbf
      rw [rd_set', if_neg (by omega)] at h7
      omega
    · rw [e1 j e]; exact h.up i j hij (by omega) hbf
  · show r.2 = _
    rw [h4, h.pa]
    simp only [sumN, Nat.zero_add]
  · show (if (rd_T50 cl (b : Int)).f5 < 0 then s.p + 1 else s.p) = _
    simp only [sumN]
    rw [← h.p]
    split <;> omega
  · show 0 ≤ max s.ht (rd r.1 (b : Int))
    have := h.h0; omega
  · exact h5
  · show max s.ht (rd r.1 (b : Int)) ≤ ((b + 1 : Nat) : Int)
    have h7 := h5 b
    have h8 := h.hb.2
    omega
end Go.Proofs.Ytofinglgnkdflaa
