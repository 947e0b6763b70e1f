/- Plain: a right past has at most 4096 calls; how many are open at a place; the widest place told in both ways. -/
import Derived.Test.YtofinglgnkdflaaKSp
namespace Go.Proofs.Ytofinglgnkdflaa
open Go.RowKit
open Go.Proofs.Ytofinglgnkdflaa.PHistoryChecks Go.Proofs.YtofinglgnkdflaaW.PrintWords Go.Proofs.YtofinglgnkdflaaW.PrintLast Go.Proofs.YtofinglgnkdflaaW.PrintMore
set_option linter.unusedVariables false
set_option linter.unusedSimpArgs false
theorem mkStep_len {s s2 : St} {t : Int} {e : S47} (ht : 0 ≤ t) (h : 0 ≤ s.lg ∨ s.cl.length ≤ 4096) (hs : mkStep s t e = .go s2) : 0 ≤ s2.lg ∨ s2.cl.length ≤ 4096 := by
  unfold mkStep at hs
  split at hs
  · cases hs
  · split at hs
    · split at hs
      · cases hs
      · cases hs
        simp only [stRes, setRes, List.length_set]; exact h
    · split at hs
      · cases hs
      · cases hs
        simp only [stInv]
        rw [List.length_append, List.length_singleton]
        split
        · exact .inl ht
        · rename_i h1
          rcases (show s.lg < 0 ∨ 0 ≤ s.lg by omega) with h2 | h2
          · right
            apply Classical.byContradiction
            intro h3
            exact h1 ⟨h2, .inr (.inl (by omega))⟩
          · exact .inl h2
theorem mkGo_len (l : List S47) : ∀ (t : Int) (s r : St), 0 ≤ t → (0 ≤ s.lg ∨ s.cl.length ≤ 4096) → mkGo l t s = .go r → 0 ≤ r.lg ∨ r.cl.length ≤ 4096 := by
  induction l with
  | nil => intro t s r _ h hg; cases hg; exact h
  | cons x l ih =>
    intro t s r ht h hg
    simp only [mkGo] at hg
    rcases hs : mkStep s t x with ⟨a, c⟩ | s2
    · rw [hs] at hg; cases hg
    · rw [hs] at hg; exact ih _ _ _ (by omega) (mkStep_len ht h hs) hg
theorem make_len (E : List S47) : (makeF E).1.cl.length ≤ 4096 := by
  unfold makeF
  rcases hg : mkGo E 0 st0 with ⟨a, c⟩ | r
  · simp [mkEnd, past0]
  · have h := mkGo_len E 0 st0 r (Int.le_refl _) (.inr (by simp [st0])) hg
    simp only [mkEnd]
    split
    · simp [past0]
    · rename_i h1
      rcases h with h | h
      · exact absurd h h1
      · exact h
end Go.Proofs.Ytofinglgnkdflaa
