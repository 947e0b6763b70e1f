/- Plain: of values in their form both orders are one; texts of a size that can be gone through. -/
import Derived.Test.YtofinglgnkdflaaLQf
namespace Go.Proofs.Ytofinglgnkdflaa
open Go.RowKit
open Go.Proofs.Ytofinglgnkdflaa.PHistoryChecks Go.Proofs.YtofinglgnkdflaaW.PrintWords Go.Proofs.YtofinglgnkdflaaW.PrintLast Go.Proofs.YtofinglgnkdflaaW.PrintMore
set_option linter.unusedVariables false
set_option linter.unusedSimpArgs false
mutual
def okT2 : S43 → Prop
  | ⟨_, _, _, t, l⟩ => t.size ≤ 1000000000 ∧ okTL2 l
def okTL2 : List S43 → Prop
  | [] => True
  | x :: l => okT2 x ∧ okTL2 l
end
theorem okT2_eq (v : S43) : okT2 v = (v.f3.size ≤ 1000000000 ∧ okTL2 v.f4) := by cases v; rfl
theorem okTL2_mem (l : List S43) (h : okTL2 l) (x : S43) (hx : x ∈ l) : okT2 x := by
  induction l with
  | nil => cases hx
  | cons y l ih =>
    simp only [okTL2] at h
    rcases List.mem_cons.1 hx with rfl | hx
    · exact h.1
    · exact ih h.2 hx
theorem ba_ext {s t : ByteArray} (h : s.toList = t.toList) : s = t := by
  rw [ByteArray.toList_eq, ByteArray.toList_eq] at h
  have h2 : s.data = t.data := by
    have := congrArg List.toArray h
    simpa using this
  cases hx : s; cases hy : t; rw [hx, hy] at h2; cases h2; rfl
theorem cmp_less : ∀ x y : List UInt8, Lib.compareBytes x y = if Op.bytesLess x y then -1 else if x = y then 0 else 1
  | [], [] => rfl
  | [], _ :: _ => rfl
  | _ :: _, [] => by simp [Lib.compareBytes, Op.bytesLess]
  | a :: x, b :: y => by
    unfold Lib.compareBytes Op.bytesLess
    rw [cmp_less x y]
    by_cases h1 : a < b
    · rw [if_pos h1, decide_eq_true h1]; rfl
    · by_cases h2 : b < a
      · have hne : (a == b) = false := by rw [beq_eq_false_iff_ne]; intro h; subst h; exact h1 h2
        rw [if_neg h1, if_pos h2, decide_eq_false h1, hne]
        simp only [Bool.false_and, Bool.or_false, Bool.false_eq_true, if_false]
        rw [if_neg]
        intro h; injection h with h _; subst h; exact h1 h2
      · have he : a = b := by
          have h3 : ¬ a.toNat < b.toNat := fun h => h1 (UInt8.lt_iff_toNat_lt.2 h)
          have h4 : ¬ b.toNat < a.toNat := fun h => h2 (UInt8.lt_iff_toNat_lt.2 h)
          exact UInt8.toNat_inj.1 (by omega)
        subst he
        rw [if_neg h1, if_neg h2, decide_eq_false h1]
        simp
theorem cmpS_eq (s t : ByteArray) : cmpS s t = if ltS s t then -1 else if s = t then 0 else 1 := by
  unfold cmpS ltS
  rw [cmp_less, ← ByteArray.toList_eq, ← ByteArray.toList_eq]
  by_cases h : s = t
  · subst h; rw [if_pos rfl, if_pos rfl]
  · rw [if_neg (c := s.toList = t.toList) (fun hh => h (ba_ext hh)), if_neg h]
theorem ltS_irr (s : ByteArray) : ltS s s = false := by
  unfold ltS
  generalize s.toList = l
  induction l with
  | nil => rfl
  | cons a l ih => unfold Op.bytesLess; rw [ih]; simp
theorem sg2_zero (x y : Int) : sg2 x y = 0 ↔ x = y := by
  unfold sg2 sg
  by_cases h1 : x < y
  · rw [decide_eq_true h1]; simp; omega
  · by_cases h2 : y < x
    · rw [decide_eq_false h1, decide_eq_true h2]; simp; omega
    · rw [decide_eq_false h1, decide_eq_false h2]; simp; omega
theorem formL_all (s : Bool) : ∀ (l : List S43) (p : Option S43), formL s p l = true → ∀ x ∈ l, formV x = true
  | [], _, _, x, hx => by cases hx
  | y :: l, p, h, x, hx => by
    simp only [formL, Bool.and_eq_true] at h
    rcases List.mem_cons.1 hx with rfl | hx
    · exact h.1.1
    · exact formL_all s l (some y) h.2 x hx
theorem emB_eq {s t : ByteArray} (h : emB s = true) (h2 : emB t = true) : s = t := by
  unfold emB at h h2
  rw [List.isEmpty_iff] at h h2
  exact ba_ext (by rw [h, h2])
theorem form_parts {a b : S43} (ha : formV a = true) (hb : formV b = true) (h0 : a.f0 = b.f0) : (a.f4.length ≠ b.f4.length → a.f1 = b.f1 ∧ a.f2 = b.f2 ∧ a.f3 = b.f3) ∧ ∀ x ∈ a.f4, formV x = true := by
  rw [formV_eq] at ha hb
  by_cases k1 : a.f0 = 1
  · rw [if_pos k1] at ha
    rw [if_pos (by omega)] at hb
    simp only [plainB, Bool.and_eq_true, List.isEmpty_iff] at ha hb
    rw [ha.1.1.2, hb.1.1.2]
    exact ⟨fun h => absurd rfl h, fun x hx => by cases hx⟩
  · rw [if_neg k1] at ha
    rw [if_neg (by omega)] at hb
    by_cases k2 : a.f0 = 2
    · rw [if_pos k2] at ha
      rw [if_pos (by omega)] at hb
      simp only [plainB, Bool.and_eq_true, List.isEmpty_iff] at ha hb
      rw [ha.1.2, hb.1.2]
      exact ⟨fun h => absurd rfl h, fun x hx => by cases hx⟩
    · rw [if_neg k2] at ha
      rw [if_neg (by omega)] at hb
      by_cases k3 : a.f0 = 3
      · rw [if_pos k3] at ha
        rw [if_pos (by omega)] at hb
        simp only [plainB, Bool.and_eq_true, List.isEmpty_iff] at ha hb
        rw [ha.1.1.2, hb.1.1.2]
        exact ⟨fun h => absurd rfl h, fun x hx => by cases hx⟩
      · rw [if_neg k3] at ha
        rw [if_neg (by omega)] at hb
        by_cases k4 : a.f0 = 4
        · rw [if_pos k4] at ha
          rw [if_pos (by omega)] at hb
          simp only [Bool.and_eq_true, List.isEmpty_iff] at ha hb
          rw [ha.1.2, hb.1.2]
          exact ⟨fun h => absurd rfl h, fun x hx => by cases hx⟩
        · rw [if_neg k4] at ha
          rw [if_neg (by omega)] at hb
          by_cases k5 : a.f0 = 5 ∨ a.f0 = 6 ∨ a.f0 = 7
          · rw [if_pos k5] at ha
            rw [if_pos (by omega)] at hb
            simp only [Bool.and_eq_true, decide_eq_true_eq] at ha hb
            exact ⟨fun _ => ⟨by omega, by omega, emB_eq ha.1.2 hb.1.2⟩, formL_all _ _ _ ha.2⟩
          · rw [if_neg k5] at ha; cases ha
theorem sg_ne {p q r : Bool} (h : p = false → q = true) : sg p q = sg p true := by
  unfold sg; cases p
  · rw [h rfl]
  · rfl
theorem ord_form (k : Nat) : ∀ a b : S43, nd a ≤ k → formV a = true → formV b = true → rordV a b = ordV a b := by
  induction k with
  | zero => intro a; intros; have := nd_pos a; omega
  | succ k ih =>
    intro a b hk ha hb
    rw [rordV_eq, ordV_eq]
    unfold rHead ordHead
    by_cases h0 : a.f0 = b.f0
    · obtain ⟨hP, hIa⟩ := form_parts ha hb h0
      have hIb := (form_parts hb ha h0.symm).2
      have n0 : ¬ (a.f0 ≠ b.f0) := fun h => h h0
      rw [if_neg n0, if_neg n0]
      by_cases h4 : a.f4.length = b.f4.length
      · have n4 : ¬ (a.f4.length ≠ b.f4.length) := fun h => h h4
        rw [if_neg n4, if_neg n4]
        have hL : rordL a.f4 b.f4 = ordL a.f4 b.f4 := by
          have hle : ndL a.f4 ≤ k := by have := nd_eq a; omega
          clear hP n4
          generalize a.f4 = l at hle hIa h4
          generalize b.f4 = m at hIb h4
          induction l generalizing m with
          | nil => cases m <;> rfl
          | cons x l ihl =>
            cases m with
            | nil => rfl
            | cons y m =>
              simp only [ndL] at hle
              simp only [rordL, ordL]
              rw [ih x y (by omega) (hIa x (List.mem_cons_self ..)) (hIb y (List.mem_cons_self ..)), ihl (by omega) (fun z hz => hIa z (List.mem_cons_of_mem _ hz)) m (fun z hz => hIb z (List.mem_cons_of_mem _ hz)) (by simpa using h4)]
        by_cases h1 : a.f1 = b.f1
        · have s1 : ¬ (sg2 a.f1 b.f1 ≠ 0) := fun h => h ((sg2_zero a.f1 b.f1).2 h1)
          have n1 : ¬ (a.f1 ≠ b.f1) := fun h => h h1
          rw [if_neg n1, if_neg s1]
          by_cases h2 : a.f2 = b.f2
          · have s2 : ¬ (sg2 a.f2 b.f2 ≠ 0) := fun h => h ((sg2_zero a.f2 b.f2).2 h2)
            have n2 : ¬ (a.f2 ≠ b.f2) := fun h => h h2
            rw [if_neg n2, if_neg s2]
            by_cases h3 : a.f3 = b.f3
            · have s3 : ¬ (cmpS a.f3 b.f3 ≠ 0) := fun h => h (by rw [cmpS_eq, h3, ltS_irr]; simp)
              have n3 : ¬ (a.f3 ≠ b.f3) := fun h => h h3
              rw [if_neg n3, if_neg s3]; exact hL
            · have s3 : cmpS a.f3 b.f3 = sg (ltS a.f3 b.f3) (!ltS a.f3 b.f3) := by
                rw [cmpS_eq, if_neg h3]; unfold sg; cases ltS a.f3 b.f3 <;> rfl
              have s4 : cmpS a.f3 b.f3 ≠ 0 := by rw [s3]; unfold sg; cases ltS a.f3 b.f3 <;> simp
              have n3 : a.f3 ≠ b.f3 := h3
              rw [if_pos n3, if_pos s4, s3]; rfl
          · have s2 : sg2 a.f2 b.f2 ≠ 0 := fun h => h2 ((sg2_zero _ _).1 h)
            have n2 : a.f2 ≠ b.f2 := h2
            rw [if_pos n2, if_pos s2]; rfl
        · have s1 : sg2 a.f1 b.f1 ≠ 0 := fun h => h1 ((sg2_zero _ _).1 h)
          have n1 : a.f1 ≠ b.f1 := h1
          rw [if_pos n1, if_pos s1]; rfl
      · obtain ⟨e1, e2, e3⟩ := hP h4
        have n1 : ¬ (a.f1 ≠ b.f1) := fun h => h e1
        have n2 : ¬ (a.f2 ≠ b.f2) := fun h => h e2
        have n3 : ¬ (a.f3 ≠ b.f3) := fun h => h e3
        have n4 : a.f4.length ≠ b.f4.length := h4
        rw [if_neg n1, if_neg n2, if_neg n3, if_pos n4, if_pos n4]
        simp only [Option.getD_some]
        exact sg_ne (r := true) (fun h => by rw [decide_eq_false_iff_not] at h; rw [decide_eq_true_eq]; omega)
    · have n0 : a.f0 ≠ b.f0 := h0
      rw [if_pos n0, if_pos n0]
      simp only [Option.getD_some]
      exact sg_ne (r := true) (fun h => by rw [decide_eq_false_iff_not] at h; rw [decide_eq_true_eq]; omega)
end Go.Proofs.Ytofinglgnkdflaa
