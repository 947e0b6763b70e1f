/- Plain: a right past has at most 4096 calls; how many are open at a place; the widest place told in both ways. -/
import Derived.Test.YtofinglgnkdflaaJSp
namespace Go.Proofs.Ytofinglgnkdflaa
open Go.RowKit
open Go.Proofs.Ytofinglgnkdflaa.PHistoryChecks Go.Proofs.YtofinglgnkdflaaW.PrintWords Go.Proofs.YtofinglgnkdflaaW.PrintLast Go.Proofs.YtofinglgnkdflaaW.PrintMore
set_option linter.unusedVariables false
set_option linter.unusedSimpArgs false
theorem mkStep_len {s s2 : St} {t : Int} {e : S47} (ht : 0 ≤ t) (h : 0 ≤ s.lg ∨ s.cl.length ≤ 4096) (hs : mkStep s t e = .go s2) : 0 ≤ s2.lg ∨ s2.cl.length ≤ 4096 := by
  unfold mkStep at hs
  split at hs
  · cases hs
  · split at hs
    · split at hs
      · cases hs
      · cases hs
        simp only [stRes, setRes, List.length_set]; exact h
    · split at hs
      · cases hs
      · cases hs
        simp only [stInv]
        rw [List.length_append, List.length_singleton]
        split
        · exact .inl ht
        · rename_i h1
          rcases (show s.lg < 0 ∨ 0 ≤ s.lg by omega) with h2 | h2
          · right
            apply Classical.byContradiction
            intro h3
            exact h1 ⟨h2, .inr (.inl (by omega))⟩
          · exact .inl h2
theorem mkGo_len (l : List S47) : ∀ (t : Int) (s r : St), 0 ≤ t → (0 ≤ s.lg ∨ s.cl.length ≤ 4096) → mkGo l t s = .go r → 0 ≤ r.lg ∨ r.cl.length ≤ 4096 := by
  induction l with
  | nil => intro t s r _ h hg; cases hg; exact h
  | cons x l ih =>
    intro t s r ht h hg
    simp only [mkGo] at hg
    rcases hs : mkStep s t x with ⟨a, c⟩ | s2
    · rw [hs] at hg; cases hg
    · rw [hs] at hg; exact ih _ _ _ (by omega) (mkStep_len ht h hs) hg
theorem make_len (E : List S47) : (makeF E).1.cl.length ≤ 4096 := by
  unfold makeF
  rcases hg : mkGo E 0 st0 with ⟨a, c⟩ | r
  · simp [mkEnd, past0]
  · have h := mkGo_len E 0 st0 r (Int.le_refl _) (.inr (by simp [st0])) hg
    simp only [mkEnd]
    split
    · simp [past0]
    · rename_i h1
      rcases h with h | h
      · exact absurd h h1
      · exact h
theorem past_len {P : PastL} (h : (eventsF P).isSome = true) : P.cl.length ≤ 4096 := by
  rcases hx : eventsF P with _ | xs
  · rw [hx] at h; cases h
  · obtain ⟨_, _, h3⟩ := eventsF_some hx
    unfold sameP at h3
    simp only [Bool.and_eq_true] at h3
    rw [(sameCL_get _ _ h3.2.2).1]
    exact make_len xs
theorem opn_opB {c : S50} {t : Nat} (h0 : 0 ≤ c.f4) (h5 : c.f5 = -1 ∨ c.f4 < c.f5) : opn c t = if opB (t : Int) c then 1 else 0 := by
  unfold opn opB
  rcases h5 with h5 | h5
  · rw [h5]
    by_cases h1 : c.f4.toNat < t
    · rw [if_pos h1, if_neg (by omega), if_pos (by simp; omega)]; rfl
    · rw [if_neg h1, if_neg (by omega), if_neg (by simp; omega)]; rfl
  · by_cases h1 : c.f4.toNat < t
    · by_cases h2 : c.f5.toNat < t
      · rw [if_pos h1, if_pos ⟨by omega, h2⟩, if_neg (by simp; omega)]; rfl
      · rw [if_pos h1, if_neg (fun h => h2 h.2), if_pos (by simp; omega)]; rfl
    · rw [if_neg h1, if_neg (fun h => by omega), if_neg (by simp; omega)]; rfl
theorem openGo_len (t : Nat) : ∀ (cs : List S50) (i : Int) (js : List Int), (∀ c ∈ cs, 0 ≤ c.f4 ∧ (c.f5 = -1 ∨ c.f4 < c.f5)) → ((openGo (t : Int) cs i js).length : Int) = js.length + opL cs t
  | [], i, js, _ => by simp [openGo, opL]
  | c :: cs, i, js, h => by
    have h1 := h c List.mem_cons_self
    have h2 := fun d hd => h d (List.mem_cons_of_mem _ hd)
    have h3 := opn_opB (t := t) h1.1 h1.2
    simp only [openGo, opL]
    rw [h3]
    cases hb : opB (t : Int) c
    · rw [openGo_len t cs _ _ h2]; simp
    · rw [openGo_len t cs _ _ h2]; simp; omega
theorem open_psum {P : PastL} {xs : List S47} (h : eventsF P = some xs) (t : Nat) : ((openGo (t : Int) P.cl 0 []).length : Int) = psum (chF P) t := by
  have hc := calls_ok h
  rw [openGo_len t P.cl 0 [] (fun c hm => by
    obtain ⟨a, ha, hg⟩ := List.getElem_of_mem hm
    have h1 := hc.a a ha
    have e : rd_T50 P.cl (a : Int) = c := by unfold rd_T50; rw [Int.toNat_natCast, List.getD_eq_getElem?_getD, List.getElem?_eq_getElem ha, hg]; rfl
    rw [e] at h1
    exact ⟨h1.1, h1.2.2.2⟩), widths_open h t, opL_sum]
  simp
def mxQ (l : List Int) : Nat → Int
  | 0 => 0
  | t + 1 => max (mxQ l t) (psum l t)
theorem widGo_mx {P : PastL} {xs : List S47} (h : eventsF P = some xs) (k : Nat) : ∀ j : Nat, j + k = xs.length → widGo (xs.drop j) (psum (chF P) j) (mxQ (chF P) (j + 1)) = mxQ (chF P) (xs.length + 1) := by
  obtain ⟨h1, h2, _⟩ := eventsF_some h
  have hl : xs.length = sizeL P.cl := by unfold eventsL at h1; rw [evFrom_length P.cl h1, List.length_replicate]
  have hs : Sg xs (chF P) := by unfold eventsL at h1; exact (sg_from P.cl (sg_zero (sizeL P.cl)) h1).1
  have hr := make_right xs h2
  induction k with
  | zero => intro j hj; rw [List.drop_eq_nil_of_le (by omega), show j = xs.length by omega]; rfl
  | succ k ih =>
    intro j hj
    have hlt : j < xs.length := by omega
    rw [List.drop_eq_getElem_cons hlt]
    have e : rd_T47 xs (j : Int) = xs[j] := by unfold rd_T47; rw [Int.toNat_natCast, List.getD_eq_getElem?_getD, List.getElem?_eq_getElem hlt]; rfl
    have hw : widNow xs[j] (psum (chF P) j) = psum (chF P) (j + 1) := by
      show _ = psum (chF P) j + rd (chF P) (j : Int)
      rw [hs.2 j hlt, e]
      have := sgn_right (hr _ (List.getElem_mem hlt))
      unfold sgn at this ⊢
      unfold widNow
      by_cases h3 : xs[j].f0 = 1
      · rw [if_pos h3, if_pos h3]
      · rw [if_neg h3] at this ⊢
        rw [if_neg h3]
        by_cases h4 : xs[j].f0 = 2
        · rw [if_pos h4]; omega
        · rw [if_neg h4] at this; omega
    show widGo (xs.drop (j + 1)) (widNow xs[j] (psum (chF P) j)) (max (mxQ (chF P) (j + 1)) (widNow xs[j] (psum (chF P) j))) = _
    rw [hw]
    exact ih (j + 1) (by omega)
theorem wid_mx {P : PastL} {xs : List S47} (h : eventsF P = some xs) : widGo xs 0 0 = mxQ (chF P) (xs.length + 1) := widGo_mx h xs.length 0 (by omega)
end Go.Proofs.Ytofinglgnkdflaa
