/- Plain: what holds of a past that Make made: who comes before whom. -/
import Derived.Test.YtofinglgnkdflaaLXH
namespace Go.Proofs.Ytofinglgnkdflaa
open Go.RowKit
open Go.Proofs.Ytofinglgnkdflaa.PHistoryChecks
set_option linter.unusedVariables false
structure Inv (s : St) (t : Int) : Prop where
  t0 : 0 ≤ t
  a : ∀ (i : Nat) c, s.cl[i]? = some c → 0 ≤ c.f4 ∧ c.f4 < t ∧ (c.f5 = -1 ∨ (c.f4 < c.f5 ∧ c.f5 < t))
  b : ∀ (i j : Nat) c d, i < j → s.cl[i]? = some c → s.cl[j]? = some d → c.f4 < d.f4 ∧ (c.f0 = d.f0 → 0 ≤ c.f5 ∧ c.f5 < d.f4)
  c : ∀ n k, s.op n = some k → ∃ c, 0 ≤ k ∧ s.cl[k.toNat]? = some c ∧ c.f5 = -1 ∧ idxS s.pr n = some c.f0
  d : ∀ (i : Nat) c, s.cl[i]? = some c → c.f5 = -1 → ∃ n, idxS s.pr n = some c.f0 ∧ s.op n = some (i : Int)
theorem inv0 : Inv st0 0 := ⟨Int.le_refl _, fun i c h => by simp [st0] at h, fun i j c d _ h => by simp [st0] at h, fun n k h => by simp [st0] at h, fun i c h => by simp [st0] at h⟩
theorem idxF_at (s : ByteArray) : ∀ (L : List ByteArray) (n k : Int), idxF s n L = some k → n ≤ k ∧ k < n + L.length ∧ L[(k - n).toNat]? = some s
  | [], n, k, h => by simp [idxF] at h
  | x :: L, n, k, h => by
    simp only [idxF] at h
    by_cases e : x = s
    · rw [if_pos e] at h
      cases h
      exact ⟨Int.le_refl _, by simp only [List.length_cons]; omega, by rw [show (n - n).toNat = 0 by omega, e]; rfl⟩
    · rw [if_neg e] at h
      obtain ⟨h1, h2, h3⟩ := idxF_at s L (n + 1) k h
      refine ⟨by omega, by simp only [List.length_cons]; omega, ?_⟩
      rw [show (k - n).toNat = (k - (n + 1)).toNat + 1 by omega]; exact h3
theorem idxS_lt {L : List ByteArray} {s : ByteArray} {k : Int} (h : idxS L s = some k) : 0 ≤ k ∧ k < (L.length : Int) := by
  obtain ⟨h1, h2, _⟩ := idxF_at s L 0 k h; omega
theorem idxS_inj {L : List ByteArray} {s t : ByteArray} {k : Int} (h : idxS L s = some k) (h2 : idxS L t = some k) : s = t := by
  have h3 := (idxF_at s L 0 k h).2.2
  rw [(idxF_at t L 0 k h2).2.2] at h3
  cases h3; rfl
theorem numL_keep {L : List ByteArray} {k n : ByteArray} {v : Int} (h : idxS L n = some v) : idxS (numL L k) n = some v := by
  unfold numL
  split
  · exact h
  · unfold idxS at h ⊢
    rw [idxF_app, h]
theorem numL_self (L : List ByteArray) (k : ByteArray) : idxS (numL L k) k = some (numI L k) := by
  unfold numL numI
  rcases h : idxS L k with _ | v
  · simp only [Option.isSome_none, Bool.false_eq_true, if_false]
    rw [idxS_snoc h]; simp
  · simp [h]
theorem numI_eq {L : List ByteArray} {k n : ByteArray} {v : Int} (h : idxS L n = some v) (he : v = numI L k) : n = k := by
  unfold numI at he
  rcases hk : idxS L k with _ | u
  · rw [hk] at he
    have := idxS_lt h
    simp at he; omega
  · rw [hk] at he
    simp at he
    subst he
    exact idxS_inj h hk
theorem snoc_get {l : List S50} {x c : S50} {i : Nat} (h : (l ++ [x])[i]? = some c) : l[i]? = some c ∨ (i = l.length ∧ c = x) := by
  rcases Nat.lt_trichotomy i l.length with h1 | h1 | h1
  · rw [List.getElem?_append_left h1] at h; exact .inl h
  · subst h1; rw [List.getElem?_append_right (Nat.le_refl _)] at h; simp at h; exact .inr ⟨rfl, h.symm⟩
  · rw [List.getElem?_append_right (by omega), List.getElem?_eq_none (by simp; omega)] at h; cases h
theorem inv_inv {s : St} {t : Int} {e : S47} (h : Inv s t) (ho : s.op e.f1 = none) : Inv (stInv s t e) (t + 1) := by
  refine ⟨by have := h.t0; omega, fun i c hc => ?_, fun i j c d hij hc hd => ?_, fun n k hk => ?_, fun i c hc h5 => ?_⟩
  · rcases snoc_get hc with h1 | ⟨_, rfl⟩
    · have := h.a i c h1; omega
    · have := h.t0; exact ⟨h.t0, by show t < t + 1; omega, .inl rfl⟩
  · rcases snoc_get hd with h1 | ⟨h1, rfl⟩
    · rcases snoc_get hc with h2 | ⟨h2, _⟩
      · exact h.b i j c d hij h2 h1
      · have := (List.getElem?_eq_some_iff.1 h1).1; omega
    · rcases snoc_get hc with h2 | ⟨h2, _⟩
      · have ha := h.a i c h2
        refine ⟨ha.2.1, fun he => ?_⟩
        rcases ha.2.2 with h5 | h5
        · obtain ⟨n, hn, hop⟩ := h.d i c h2 h5
          have := numI_eq hn he
          subst this
          rw [ho] at hop; cases hop
        · exact ⟨by omega, h5.2⟩
      · omega
  · simp only [stInv] at hk ⊢
    by_cases hn : n = e.f1
    · rw [if_pos hn] at hk
      cases hk
      refine ⟨newCall s t e, by omega, ?_, rfl, ?_⟩
      · rw [Int.toNat_natCast, List.getElem?_append_right (Nat.le_refl _)]; simp
      · rw [hn]; exact numL_self _ _
    · rw [if_neg hn] at hk
      obtain ⟨c, h1, h2, h3, h4⟩ := h.c n k hk
      exact ⟨c, h1, by rw [List.getElem?_append_left (List.getElem?_eq_some_iff.1 h2).1]; exact h2, h3, numL_keep h4⟩
  · rcases snoc_get hc with h1 | ⟨rfl, rfl⟩
    · obtain ⟨n, hn, hop⟩ := h.d i c h1 h5
      refine ⟨n, numL_keep hn, ?_⟩
      show (if n = e.f1 then _ else s.op n) = _
      rw [if_neg (fun hh => by rw [hh, ho] at hop; cases hop)]; exact hop
    · exact ⟨e.f1, numL_self _ _, by simp [stInv]⟩
theorem set_get {l : List S50} {x c : S50} {i k : Nat} (hk : k < l.length) (h : (l.set k x)[i]? = some c) : (i = k ∧ c = x) ∨ (i ≠ k ∧ l[i]? = some c) := by
  rw [List.getElem?_set] at h
  by_cases e : k = i
  · rw [if_pos e, if_pos (by omega)] at h; cases h; exact .inl ⟨e.symm, rfl⟩
  · rw [if_neg e] at h; exact .inr ⟨fun hh => e hh.symm, h⟩
theorem inv_res {s : St} {t : Int} {e : S47} {k : Int} (h : Inv s t) (ho : s.op e.f1 = some k) : Inv (stRes s t e k) (t + 1) := by
  obtain ⟨c0, hk0, hk, h5, hi⟩ := h.c e.f1 k ho
  have hkl : k.toNat < s.cl.length := (List.getElem?_eq_some_iff.1 hk).1
  have hrd : rd_T50 s.cl k = c0 := by unfold rd_T50; rw [List.getD_eq_getElem?_getD, hk]; rfl
  have hcl : (stRes s t e k).cl = s.cl.set k.toNat { c0 with f5 := t, f6 := e.f4 } := by show setRes s.cl k t e.f4 = _; unfold setRes; rw [hrd]
  have ht := h.t0
  refine ⟨by omega, fun i c hc => ?_, fun i j c d hij hc hd => ?_, fun n m hm => ?_, fun i c hc hc5 => ?_⟩
  · rw [hcl] at hc
    rcases set_get hkl hc with ⟨_, rfl⟩ | ⟨_, h1⟩
    · have := h.a _ c0 hk
      exact ⟨this.1, by show c0.f4 < t + 1; omega, .inr ⟨this.2.1, by show t < t + 1; omega⟩⟩
    · have := h.a i c h1; omega
  · rw [hcl] at hc hd
    rcases set_get hkl hc with ⟨e1, rfl⟩ | ⟨e1, h1⟩
    · rcases set_get hkl hd with ⟨e2, _⟩ | ⟨e2, h2⟩
      · omega
      · have hb := h.b k.toNat j c0 d (by omega) hk h2
        exact ⟨hb.1, fun he => by have := (hb.2 he).1; omega⟩
    · rcases set_get hkl hd with ⟨e2, rfl⟩ | ⟨e2, h2⟩
      · exact h.b i k.toNat c c0 (by omega) h1 hk
      · exact h.b i j c d hij h1 h2
  · have hm2 : (if n = e.f1 then none else s.op n) = some m := hm
    by_cases hn : n = e.f1
    · rw [if_pos hn] at hm2; cases hm2
    · rw [if_neg hn] at hm2
      obtain ⟨c, h1, h2, h3, h4⟩ := h.c n m hm2
      refine ⟨c, h1, ?_, h3, h4⟩
      rw [hcl, List.getElem?_set, if_neg]
      · exact h2
      · intro hh
        rw [← hh, hk] at h2
        cases h2
        exact hn (idxS_inj h4 hi)
  · rw [hcl] at hc
    rcases set_get hkl hc with ⟨_, rfl⟩ | ⟨e1, h1⟩
    · have : t = -1 := hc5
      omega
    · obtain ⟨n, hn, hop⟩ := h.d i c h1 hc5
      refine ⟨n, hn, ?_⟩
      show (if n = e.f1 then none else s.op n) = _
      rw [if_neg (fun hh => by rw [hh, ho] at hop; injection hop with hop; exact e1 (by omega))]
      exact hop
theorem inv_go (l : List S47) : ∀ (t : Int) (s r : St), Inv s t → mkGo l t s = .go r → ∃ u, Inv r u := by
  induction l with
  | nil => intro t s r h hg; simp only [mkGo] at hg; cases hg; exact ⟨t, h⟩
  | cons e l ih =>
    intro t s r h hg
    simp only [mkGo] at hg
    rcases hs : mkStep s t e with ⟨a, c⟩ | s2
    · rw [hs] at hg; cases hg
    · rw [hs] at hg
      refine ih (t + 1) s2 r ?_ hg
      unfold mkStep at hs
      split at hs
      · cases hs
      · rcases ho : s.op e.f1 with _ | k
        · rw [ho] at hs
          simp only at hs
          split at hs
          · cases hs
          · cases hs; exact inv_inv h ho
        · rw [ho] at hs
          simp only at hs
          split at hs
          · cases hs
          · cases hs; exact inv_res h ho
theorem make_calls (E : List S47) (hc : (makeF E).2.2 = 0) (hl : (makeF E).1.cl ≠ []) :
    ∃ t, (∀ (i : Nat) c, (makeF E).1.cl[i]? = some c → 0 ≤ c.f4 ∧ c.f4 < t ∧ (c.f5 = -1 ∨ (c.f4 < c.f5 ∧ c.f5 < t))) ∧ (∀ (i j : Nat) c d, i < j → (makeF E).1.cl[i]? = some c → (makeF E).1.cl[j]? = some d → c.f4 < d.f4 ∧ (c.f0 = d.f0 → 0 ≤ c.f5 ∧ c.f5 < d.f4)) := by
  unfold makeF at hc hl ⊢
  rcases hg : mkGo E 0 st0 with ⟨a, c⟩ | r
  · rw [hg] at hl; exact absurd rfl hl
  · rw [hg] at hl
    obtain ⟨u, hI⟩ := inv_go E 0 st0 r inv0 hg
    simp only [mkEnd] at hl ⊢
    split at hl
    · exact absurd rfl hl
    · rename_i hlg
      rw [if_neg hlg]
      exact ⟨u, hI.a, hI.b⟩
end Go.Proofs.Ytofinglgnkdflaa
