/- Plain: the events of what Make made are the events that Make was given. -/
import Derived.Test.YtofinglgnkdflaaKTe
import Derived.Test.YtofinglgnkdflaaKQt
namespace Go.Proofs.Ytofinglgnkdflaa
open Go.RowKit
open Go.Proofs.Ytofinglgnkdflaa.PHistoryChecks Go.Proofs.YtofinglgnkdflaaW.PrintWords Go.Proofs.YtofinglgnkdflaaW.PrintLast Go.Proofs.YtofinglgnkdflaaW.PrintMore
set_option linter.unusedVariables false
set_option linter.unusedSimpArgs false
def clean (e : S47) : S47 := if e.f0 = 1 then ⟨1, e.f1, e.f2, e.f3, e.f4, z45⟩ else ⟨2, e.f1, ⟨#[]⟩, ⟨#[]⟩, e.f4, z45⟩
theorem right_kind {e : S47} (h : rightE e = true) : e.f0 = 1 ∨ (e.f0 = 2 ∧ e.f2.toList = [] ∧ e.f3.toList = []) := by
  unfold rightE tailE at h
  by_cases h1 : e.f0 = 1
  · exact .inl h1
  · by_cases h2 : e.f0 = 2
    · rw [if_neg h1, if_pos h2] at h
      simp only [Bool.and_eq_true, emB, List.isEmpty_iff] at h
      exact .inr ⟨h2, h.2.2.1, h.2.2.2⟩
    · rw [if_neg h1, if_neg h2] at h; simp at h
theorem nil_toList : (⟨#[]⟩ : ByteArray).toList = [] := by decide +kernel
theorem clean_same {e : S47} (h : rightE e = true) : sameE (clean e) e = true := by
  unfold clean
  rcases right_kind h with h1 | ⟨h1, h2, h3⟩
  · rw [if_pos h1]
    unfold sameE
    simp [h1, sameV_self]
  · rw [if_neg (by omega)]
    unfold sameE
    simp [h1, h2, h3, sameV_self, nil_toList]
theorem clean_step {e : S47} (h : rightE e = true) (s : St) (t : Int) : mkStep s t (clean e) = mkStep s t e := by
  unfold clean
  rcases right_kind h with h1 | ⟨h1, h2, h3⟩
  · rw [if_pos h1]
    obtain ⟨f0, f1, f2, f3, f4, f5⟩ := e
    simp only at h1 ⊢
    subst h1
    rfl
  · rw [if_neg (by omega)]
    obtain ⟨f0, f1, f2, f3, f4, f5⟩ := e
    simp only at h1 h2 h3 ⊢
    subst h1
    have hr : rightE ⟨2, f1, ⟨#[]⟩, ⟨#[]⟩, f4, z45⟩ = true := by
      unfold rightE tailE at h ⊢
      simp only [Bool.and_eq_true] at h ⊢
      exact ⟨h.1, h.2.1, by decide +kernel⟩
    unfold mkStep
    rw [h, hr]
    rfl
theorem clean_go (l : List S47) : ∀ (t : Int) (s : St), (∀ e ∈ l, rightE e = true) → mkGo (l.map clean) t s = mkGo l t s := by
  induction l with
  | nil => intro t s _; rfl
  | cons e l ih =>
    intro t s h
    simp only [List.map_cons, mkGo]
    rw [clean_step (h e List.mem_cons_self)]
    rcases mkStep s t e with ⟨a, c⟩ | s2
    · rfl
    · exact ih _ _ (fun x hx => h x (List.mem_cons_of_mem _ hx))
theorem clean_make {E : List S47} (h : ∀ e ∈ E, rightE e = true) : makeF (E.map clean) = makeF E := by unfold makeF; rw [clean_go E 0 st0 h]
theorem clean_sameL : ∀ {E : List S47}, (∀ e ∈ E, rightE e = true) → sameEL (E.map clean) E = true
  | [], _ => rfl
  | e :: l, h => by
    simp only [List.map_cons, sameEL]
    rw [clean_same (h e List.mem_cons_self), clean_sameL (fun x hx => h x (List.mem_cons_of_mem _ hx))]; rfl
theorem sameC_refl (x : S50) : sameC x x = true := by unfold sameC; simp [sameV_self]
theorem sameCL_refl : ∀ l : List S50, sameCL l l = true
  | [] => rfl
  | x :: l => by simp only [sameCL]; rw [sameC_refl, sameCL_refl l]; rfl
theorem eqS_refl : ∀ l : List ByteArray, eqS l l = true
  | [] => rfl
  | x :: l => by simp only [eqS]; rw [eqS_refl l]; simp
theorem sameP_refl (P : PastL) : sameP P P = true := by unfold sameP; rw [eqS_refl, eqS_refl, sameCL_refl]; rfl
theorem cntR_snoc (l : List S50) (x : S50) : cntR (l ++ [x]) = cntR l + if 0 ≤ x.f5 then 1 else 0 := by
  unfold cntR
  rw [List.filter_append, List.length_append]
  by_cases h : 0 ≤ x.f5
  · rw [if_pos h, List.filter_cons_of_pos (by unfold hasRes; exact decide_eq_true h)]; rfl
  · rw [if_neg h, List.filter_cons_of_neg (by unfold hasRes; simpa using h)]; rfl
theorem cntR_set : ∀ (l : List S50) (k : Nat) (c d : S50), l[k]? = some c → c.f5 < 0 → 0 ≤ d.f5 → cntR (l.set k d) = cntR l + 1
  | [], k, c, d, h, _, _ => by simp at h
  | x :: l, 0, c, d, h, h1, h2 => by
    simp only [List.getElem?_cons_zero, Option.some.injEq] at h
    subst h
    unfold cntR
    rw [List.set_cons_zero, List.filter_cons_of_pos (by unfold hasRes; exact decide_eq_true h2), List.filter_cons_of_neg (by unfold hasRes; simp; omega)]; rfl
  | x :: l, k + 1, c, d, h, h1, h2 => by
    have ih := cntR_set l k c d (by simpa using h) h1 h2
    unfold cntR at ih ⊢
    rw [List.set_cons_succ]
    by_cases hx : hasRes x = true
    · rw [List.filter_cons_of_pos hx, List.filter_cons_of_pos hx, List.length_cons, List.length_cons, ih]
    · rw [List.filter_cons_of_neg hx, List.filter_cons_of_neg hx, ih]
structure Inv3 (D : List S47) (s : St) : Prop where
  ca : ∀ (i : Nat) c, s.cl[i]? = some c → ∃ e, D[c.f4.toNat]? = some e ∧ e.f0 = 1 ∧ idxS s.pr e.f1 = some c.f0 ∧ idxS s.ob e.f2 = some c.f1 ∧ c.f2 = e.f3 ∧ c.f3 = e.f4
  cr : ∀ (i : Nat) c, s.cl[i]? = some c → 0 ≤ c.f5 → ∃ e, D[c.f5.toNat]? = some e ∧ e.f0 = 2 ∧ idxS s.pr e.f1 = some c.f0 ∧ c.f6 = e.f4
  un : ∀ (i j : Nat) c d, s.cl[i]? = some c → s.cl[j]? = some d → 0 ≤ c.f5 → c.f5 = d.f5 → i = j
  ex : ∀ j : Nat, j < D.length → ∃ (i : Nat) (c : S50), s.cl[i]? = some c ∧ (c.f4 = (j : Int) ∨ c.f5 = (j : Int))
  n : sizeL s.cl = D.length
theorem inv3_0 : Inv3 [] st0 := ⟨fun i c h => by simp [st0] at h, fun i c h => by simp [st0] at h, fun i j c d h => by simp [st0] at h, fun j hj => by simp at hj, rfl⟩
theorem old_get {D : List S47} {e x : S47} {j : Nat} (h : D[j]? = some x) : (D ++ [e])[j]? = some x := by
  rw [List.getElem?_append_left (List.getElem?_eq_some_iff.1 h).1]; exact h
theorem new_get (D : List S47) (e : S47) : (D ++ [e])[D.length]? = some e := by simp
theorem inv3_inv {D : List S47} {s : St} {e : S47} (h : Inv s D.length) (h3 : Inv3 D s) (he : e.f0 = 1) : Inv3 (D ++ [e]) (stInv s D.length e) := by
  have hcl : (stInv s D.length e).cl = s.cl ++ [newCall s D.length e] := rfl
  have hpr : (stInv s D.length e).pr = numL s.pr e.f1 := rfl
  have hob : (stInv s D.length e).ob = numL s.ob e.f2 := rfl
  refine ⟨fun i c hc => ?_, fun i c hc h5 => ?_, fun i j c d hc hd h5 he5 => ?_, fun j hj => ?_, ?_⟩
  · rw [hcl] at hc
    rw [hpr, hob]
    rcases snoc_get hc with hc | ⟨_, rfl⟩
    · obtain ⟨x, hx, k1, k2, k3, k4, k5⟩ := h3.ca i c hc
      exact ⟨x, old_get hx, k1, numL_keep k2, numL_keep k3, k4, k5⟩
    · refine ⟨e, ?_, he, numL_self _ _, numL_self _ _, rfl, rfl⟩
      show (D ++ [e])[((D.length : Int)).toNat]? = some e
      rw [Int.toNat_natCast]; exact new_get D e
  · rw [hcl] at hc
    rw [hpr]
    rcases snoc_get hc with hc | ⟨_, rfl⟩
    · obtain ⟨x, hx, k1, k2, k3⟩ := h3.cr i c hc h5
      exact ⟨x, old_get hx, k1, numL_keep k2, k3⟩
    · exact absurd h5 (by show ¬ (0 : Int) ≤ -1; omega)
  · rw [hcl] at hc hd
    rcases snoc_get hc with hc | ⟨_, rfl⟩
    · rcases snoc_get hd with hd | ⟨_, rfl⟩
      · exact h3.un i j c d hc hd h5 he5
      · exact absurd h5 (by rw [he5]; show ¬ (0 : Int) ≤ -1; omega)
    · exact absurd h5 (by show ¬ (0 : Int) ≤ -1; omega)
  · rw [hcl]
    rw [List.length_append, List.length_singleton] at hj
    by_cases h1 : j < D.length
    · obtain ⟨i, c, hc, k⟩ := h3.ex j h1
      refine ⟨i, c, ?_, k⟩
      rw [List.getElem?_append_left (List.getElem?_eq_some_iff.1 hc).1]; exact hc
    · refine ⟨s.cl.length, newCall s D.length e, by simp, .inl ?_⟩
      show (D.length : Int) = _
      omega
  · rw [hcl, List.length_append, List.length_singleton]
    have := h3.n
    unfold sizeL at this ⊢
    rw [cntR_snoc, List.length_append, List.length_singleton, if_neg (by show ¬ (0 : Int) ≤ -1; omega)]
    omega
theorem inv3_res {D : List S47} {s : St} {e : S47} {k : Int} (h : Inv s D.length) (h3 : Inv3 D s) (ho : s.op e.f1 = some k) (he : e.f0 = 2) : Inv3 (D ++ [e]) (stRes s D.length e k) := by
  obtain ⟨c0, hk0, hk, h5, hi⟩ := h.c e.f1 k ho
  have hrd : rd_T50 s.cl k = c0 := by unfold rd_T50; rw [List.getD_eq_getElem?_getD, hk]; rfl
  obtain ⟨c1, hc1⟩ : ∃ c1 : S50, c1 = { c0 with f5 := (D.length : Int), f6 := e.f4 } := ⟨_, rfl⟩
  have e0 : c1.f0 = c0.f0 := by rw [hc1]
  have e1 : c1.f1 = c0.f1 := by rw [hc1]
  have e2 : c1.f2 = c0.f2 := by rw [hc1]
  have e3 : c1.f3 = c0.f3 := by rw [hc1]
  have e4 : c1.f4 = c0.f4 := by rw [hc1]
  have e5 : c1.f5 = (D.length : Int) := by rw [hc1]
  have e6 : c1.f6 = e.f4 := by rw [hc1]
  have hcl : (stRes s D.length e k).cl = s.cl.set k.toNat c1 := by show setRes s.cl k D.length e.f4 = _; unfold setRes; rw [hrd, hc1]
  have hlt := (List.getElem?_eq_some_iff.1 hk).1
  have hold : ∀ {i : Nat} {c : S50}, s.cl[i]? = some c → c.f5 < (D.length : Int) := fun {i c} hc => by have h1 := h.a i c hc; have h2 := h.t0; omega
  refine ⟨fun i c hc => ?_, fun i c hc h5c => ?_, fun i j c d hc hd h5c he5 => ?_, fun j hj => ?_, ?_⟩
  · rw [hcl] at hc
    show ∃ x, _ ∧ _ ∧ idxS s.pr _ = _ ∧ idxS s.ob _ = _ ∧ _
    rcases set_get hlt hc with ⟨_, rfl⟩ | ⟨_, hc⟩
    · obtain ⟨x, hx, k1, k2, k3, k4, k5⟩ := h3.ca _ _ hk
      exact ⟨x, by rw [e4]; exact old_get hx, k1, by rw [e0]; exact k2, by rw [e1]; exact k3, by rw [e2]; exact k4, by rw [e3]; exact k5⟩
    · obtain ⟨x, hx, k1, k2, k3, k4, k5⟩ := h3.ca i c hc
      exact ⟨x, old_get hx, k1, k2, k3, k4, k5⟩
  · rw [hcl] at hc
    show ∃ x, _ ∧ _ ∧ idxS s.pr _ = _ ∧ _
    rcases set_get hlt hc with ⟨_, rfl⟩ | ⟨_, hc⟩
    · exact ⟨e, by rw [e5, Int.toNat_natCast]; exact new_get D e, he, by rw [e0]; exact hi, e6⟩
    · obtain ⟨x, hx, k1, k2, k3⟩ := h3.cr i c hc h5c
      exact ⟨x, old_get hx, k1, k2, k3⟩
  · rw [hcl] at hc hd
    rcases set_get hlt hc with ⟨i1, q1⟩ | ⟨_, q1⟩
    · rcases set_get hlt hd with ⟨i2, q2⟩ | ⟨_, q2⟩
      · rw [i1, i2]
      · have := hold q2; rw [q1] at he5; omega
    · rcases set_get hlt hd with ⟨i2, q2⟩ | ⟨_, q2⟩
      · have := hold q1; rw [q2] at he5; omega
      · exact h3.un i j c d q1 q2 h5c he5
  · rw [hcl]
    rw [List.length_append, List.length_singleton] at hj
    by_cases h1 : j < D.length
    · obtain ⟨i, c, hc, k1⟩ := h3.ex j h1
      by_cases ei : i = k.toNat
      · subst ei
        rw [hk] at hc
        cases hc
        refine ⟨k.toNat, c1, by rw [List.getElem?_set, if_pos rfl, if_pos hlt], .inl ?_⟩
        rw [e4]
        rcases k1 with k1 | k1
        · exact k1
        · omega
      · exact ⟨i, c, by rw [List.getElem?_set, if_neg (fun h => ei h.symm)]; exact hc, k1⟩
    · exact ⟨k.toNat, c1, by rw [List.getElem?_set, if_pos rfl, if_pos hlt], .inr (by rw [e5]; omega)⟩
  · rw [hcl, List.length_append, List.length_singleton]
    have := h3.n
    unfold sizeL at this ⊢
    rw [List.length_set, cntR_set s.cl k.toNat c0 c1 hk (by omega) (by rw [e5]; omega)]
    omega
theorem inv3_go (l : List S47) : ∀ (D : List S47) (s r : St), Inv s D.length → Inv3 D s → mkGo l D.length s = .go r → Inv r ((D ++ l).length : Nat) ∧ Inv3 (D ++ l) r := by
  induction l with
  | nil => intro D s r h h3 hg; cases hg; rw [List.append_nil]; exact ⟨h, h3⟩
  | cons e l ih =>
    intro D s r h h3 hg
    simp only [mkGo] at hg
    rcases hs : mkStep s D.length e with ⟨a, c⟩ | s2
    · rw [hs] at hg; cases hg
    · rw [hs] at hg
      have hr := hs
      unfold mkStep at hs
      split at hs
      · cases hs
      · rename_i hre
        have hre' : rightE e = true := by cases hq : rightE e; exact absurd hq hre; rfl
        have hlen : ((D ++ [e]).length : Int) = (D.length : Int) + 1 := by simp
        have key : Inv s2 ((D ++ [e]).length : Nat) ∧ Inv3 (D ++ [e]) s2 := by
          rw [hlen]
          split at hs
          · rename_i k ho
            split at hs
            · cases hs
            · rename_i h1
              cases hs
              have h2 : e.f0 = 2 := by rcases right_kind hre' with h4 | h4; exact absurd h4 h1; exact h4.1
              exact ⟨inv_res h ho, inv3_res h h3 ho h2⟩
          · rename_i ho
            split at hs
            · cases hs
            · rename_i h1
              cases hs
              have h2 : e.f0 = 1 := by rcases right_kind hre' with h4 | h4; exact h4; exact absurd h4.1 h1
              exact ⟨inv_inv h ho, inv3_inv h h3 h2⟩
        rw [← hlen] at hg
        have := ih (D ++ [e]) s2 r key.1 key.2 hg
        rw [List.append_assoc] at this
        exact this
theorem idx_get {L : List ByteArray} {s : ByteArray} {k : Int} (h : idxS L s = some k) : rdB L k = s := by
  have h1 := idxF_at s L 0 k h
  unfold rdB rdOf
  rw [List.getD_eq_getElem?_getD, show k.toNat = (k - 0).toNat by omega, h1.2.2]; rfl
def Cov (cl : List S50) (i j : Nat) : Prop := ∃ (i' : Nat) (c : S50), i' < i ∧ cl[i']? = some c ∧ (c.f4 = (j : Int) ∨ c.f5 = (j : Int))
theorem set_at47 {xs : List S47} {j m : Nat} {x : S47} (hm : m < xs.length) : (xs.set m x)[j]? = if m = j then some x else xs[j]? := by
  rw [List.getElem?_set]
  by_cases h : m = j
  · rw [if_pos h, if_pos h, if_pos hm]
  · rw [if_neg h, if_neg h]
theorem ev_back {D : List S47} {s : St} (h : Inv s D.length) (h3 : Inv3 D s) (k : Nat) : ∀ (i : Nat) (xs : List S47), i + k = s.cl.length → xs.length = D.length →
    (∀ (j : Nat) (e : S47), D[j]? = some e → (Cov s.cl i j → xs[j]? = some (clean e)) ∧ (¬ Cov s.cl i j → xs[j]? = some z47)) →
    ∃ ys, evFrom ⟨s.pr, s.ob, s.cl⟩ xs (s.cl.drop i) = some ys ∧ ys.length = D.length ∧ ∀ (j : Nat) (e : S47), D[j]? = some e → ys[j]? = some (clean e) := by
  induction k with
  | zero =>
    intro i xs hi hl hx
    rw [List.drop_eq_nil_of_le (by omega)]
    refine ⟨xs, rfl, hl, fun j e he => (hx j e he).1 ?_⟩
    obtain ⟨i', c, hc, hj⟩ := h3.ex j (List.getElem?_eq_some_iff.1 he).1
    exact ⟨i', c, by have := (List.getElem?_eq_some_iff.1 hc).1; omega, hc, hj⟩
  | succ k ih =>
    intro i xs hi hl hx
    have hlt : i < s.cl.length := by omega
    rw [List.drop_eq_getElem_cons hlt]
    simp only [evFrom]
    obtain ⟨c, hcq⟩ : ∃ c, c = s.cl[i] := ⟨_, rfl⟩
    have hc : s.cl[i]? = some c := by rw [hcq]; exact List.getElem?_eq_getElem hlt
    rw [← hcq]
    have ha := h.a i c hc
    obtain ⟨e, he, k1, k2, k3, k4, k5⟩ := h3.ca i c hc
    have hb0 := idxS_lt k2
    have hb1 := idxS_lt k3
    have hin : evIn ⟨s.pr, s.ob, s.cl⟩ c = true := by
      unfold evIn
      simp only [Bool.and_eq_true, decide_eq_true_eq]
      omega
    have hn4 : ¬ Cov s.cl i c.f4.toNat := by
      rintro ⟨i', d, hi', hd, hj⟩
      have hb := h.b i' i d c hi' hd hc
      rcases hj with hj | hj
      · omega
      · have h0 : 0 ≤ d.f5 := by omega
        obtain ⟨e', he', m1, _⟩ := h3.cr i' d hd h0
        rw [hj, Int.toNat_natCast, he] at he'
        cases he'
        omega
    have x4 := (hx _ e he).2 hn4
    have hl4 : c.f4.toNat < xs.length := by have := (List.getElem?_eq_some_iff.1 he).1; omega
    have hp4 : putB xs c.f4 = true := by
      unfold putB
      simp only [Bool.and_eq_true, decide_eq_true_eq]
      refine ⟨ha.1, by omega, ?_⟩
      unfold rd_T47
      rw [List.getD_eq_getElem?_getD, x4]; rfl
    have hcl4 : evCall ⟨s.pr, s.ob, s.cl⟩ c = clean e := by
      unfold evCall clean
      rw [if_pos k1, idx_get k2, idx_get k3, k4, k5]
    unfold evStep
    rw [if_pos hin, if_pos hp4]
    have hset : putL xs c.f4 (evCall ⟨s.pr, s.ob, s.cl⟩ c) = xs.set c.f4.toNat (clean e) := by unfold putL; rw [if_pos hp4, hcl4]
    rw [hset]
    have hcov : ∀ j : Nat, Cov s.cl (i + 1) j ↔ Cov s.cl i j ∨ c.f4 = (j : Int) ∨ c.f5 = (j : Int) := by
      intro j
      constructor
      · rintro ⟨i', d, hi', hd, hj⟩
        by_cases e1 : i' = i
        · subst e1; rw [hc] at hd; cases hd; exact .inr hj
        · exact .inl ⟨i', d, by omega, hd, hj⟩
      · rintro (⟨i', d, hi', hd, hj⟩ | hj)
        · exact ⟨i', d, by omega, hd, hj⟩
        · exact ⟨i, c, by omega, hc, hj⟩
    by_cases h5 : 0 ≤ c.f5
    · rw [if_pos h5]
      obtain ⟨e5, he5, m1, m2, m3⟩ := h3.cr i c hc h5
      have hne : c.f4.toNat ≠ c.f5.toNat := by
        intro hq
        rw [hq, he5] at he
        cases he
        omega
      have hn5 : ¬ Cov s.cl i c.f5.toNat := by
        rintro ⟨i', d, hi', hd, hj⟩
        rcases hj with hj | hj
        · obtain ⟨e', he', q1, _⟩ := h3.ca i' d hd
          rw [hj, Int.toNat_natCast, he5] at he'
          cases he'
          omega
        · have := h3.un i' i d c hd hc (by omega) (by omega)
          omega
      have x5 := (hx _ e5 he5).2 hn5
      have hl5 : c.f5.toNat < xs.length := by have := (List.getElem?_eq_some_iff.1 he5).1; omega
      have hp5 : putB (xs.set c.f4.toNat (clean e)) c.f5 = true := by
        unfold putB
        simp only [Bool.and_eq_true, decide_eq_true_eq]
        refine ⟨h5, by rw [List.length_set]; omega, ?_⟩
        unfold rd_T47
        rw [List.getD_eq_getElem?_getD, set_at47 hl4, if_neg hne, x5]; rfl
      have hcl5 : evRet ⟨s.pr, s.ob, s.cl⟩ c = clean e5 := by
        unfold evRet clean
        rw [if_neg (by omega), idx_get m2, m3]
      rw [if_pos hp5]
      have hset5 : putL (xs.set c.f4.toNat (clean e)) c.f5 (evRet ⟨s.pr, s.ob, s.cl⟩ c) = (xs.set c.f4.toNat (clean e)).set c.f5.toNat (clean e5) := by unfold putL; rw [if_pos hp5, hcl5]
      rw [hset5]
      refine ih (i + 1) _ (by omega) (by rw [List.length_set, List.length_set]; exact hl) (fun j e' he' => ?_)
      rw [set_at47 (by rw [List.length_set]; exact hl5), set_at47 hl4]
      by_cases q5 : c.f5.toNat = j
      · subst q5
        rw [if_pos rfl]
        rw [he5] at he'
        cases he'
        exact ⟨fun _ => rfl, fun hq => absurd ((hcov _).2 (.inr (.inr (by omega)))) hq⟩
      · rw [if_neg q5]
        by_cases q4 : c.f4.toNat = j
        · subst q4
          rw [if_pos rfl]
          rw [he] at he'
          cases he'
          exact ⟨fun _ => rfl, fun hq => absurd ((hcov _).2 (.inr (.inl (by omega)))) hq⟩
        · rw [if_neg q4]
          refine ⟨fun hq => (hx j e' he').1 ?_, fun hq => (hx j e' he').2 (fun hw => hq ((hcov j).2 (.inl hw)))⟩
          rcases (hcov j).1 hq with hq | hq | hq
          · exact hq
          · omega
          · omega
    · rw [if_neg h5]
      refine ih (i + 1) _ (by omega) (by rw [List.length_set]; exact hl) (fun j e' he' => ?_)
      rw [set_at47 hl4]
      by_cases q4 : c.f4.toNat = j
      · subst q4
        rw [if_pos rfl]
        rw [he] at he'
        cases he'
        exact ⟨fun _ => rfl, fun hq => absurd ((hcov _).2 (.inr (.inl (by omega)))) hq⟩
      · rw [if_neg q4]
        refine ⟨fun hq => (hx j e' he').1 ?_, fun hq => (hx j e' he').2 (fun hw => hq ((hcov j).2 (.inl hw)))⟩
        rcases (hcov j).1 hq with hq | hq | hq
        · exact hq
        · omega
        · omega
theorem there_back (E : List S47) (hc : (makeF E).2.2 = 0) : eventsF (makeF E).1 = some (E.map clean) := by
  have hr := make_right E hc
  have hm := clean_make hr
  have hE : eventsL (makeF E).1 = some (E.map clean) := by
    unfold makeF at hc ⊢
    rcases hg : mkGo E 0 st0 with ⟨a, c⟩ | r
    · rw [hg] at hc; exact absurd hc (mkGo_bad E _ _ _ _ hg)
    · rw [hg] at hc
      have hp : mkEnd (.go r) = (⟨r.pr, r.ob, r.cl⟩, 0, 0) := by
        simp only [mkEnd] at hc ⊢
        split at hc
        · exact absurd hc (show ¬ (72 : Int) = 0 by decide)
        · rename_i h; rw [if_neg h]
      rw [hp]
      have hi := inv3_go E [] st0 r inv0 inv3_0 hg
      rw [List.nil_append] at hi
      obtain ⟨h1, h3⟩ := hi
      obtain ⟨ys, h4, h5, h6⟩ := ev_back h1 h3 r.cl.length 0 (List.replicate (sizeL r.cl) z47) (by omega) (by rw [List.length_replicate]; exact h3.n) (fun j e he => ⟨fun ⟨i', _, hi', _⟩ => absurd hi' (Nat.not_lt_zero _), fun _ => by
        rw [List.getElem?_replicate, if_pos (by rw [h3.n]; exact (List.getElem?_eq_some_iff.1 he).1)]⟩)
      show evFrom ⟨r.pr, r.ob, r.cl⟩ (List.replicate (sizeL r.cl) z47) r.cl = _
      rw [List.drop_zero] at h4
      rw [h4]
      congr 1
      apply List.ext_getElem?
      intro j
      rw [List.getElem?_map]
      by_cases hj : j < E.length
      · rw [h6 j E[j] (List.getElem?_eq_getElem hj), List.getElem?_eq_getElem hj]; rfl
      · rw [List.getElem?_eq_none (by omega), List.getElem?_eq_none (by omega)]; rfl
  unfold eventsF
  rw [hE]
  simp only
  rw [hm, if_pos hc, if_pos (sameP_refl _)]
end Go.Proofs.Ytofinglgnkdflaa
