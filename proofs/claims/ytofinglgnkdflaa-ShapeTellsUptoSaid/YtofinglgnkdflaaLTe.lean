/- Plain: a right past has at most 4096 calls; how many are open at a place; the widest place told in both ways. -/
import Derived.Test.YtofinglgnkdflaaLSp
namespace Go.Proofs.Ytofinglgnkdflaa
open Go.RowKit
open Go.Proofs.Ytofinglgnkdflaa.PHistoryChecks Go.Proofs.YtofinglgnkdflaaW.PrintWords Go.Proofs.YtofinglgnkdflaaW.PrintLast Go.Proofs.YtofinglgnkdflaaW.PrintMore
set_option linter.unusedVariables false
set_option linter.unusedSimpArgs false
theorem opn_opB {c : S50} {t : Nat} (h0 : 0 ≤ c.f4) (h5 : c.f5 = -1 ∨ c.f4 < c.f5) : opn c t = if opB (t : Int) c then 1 else 0 := by
  unfold opn opB
  rcases h5 with h5 | h5
  · rw [h5]
    by_cases h1 : c.f4.toNat < t
    · rw [if_pos h1, if_neg (by omega), if_pos (by simp; omega)]; rfl
    · rw [if_neg h1, if_neg (by omega), if_neg (by simp; omega)]; rfl
  · by_cases h1 : c.f4.toNat < t
    · by_cases h2 : c.f5.toNat < t
      · rw [if_pos h1, if_pos ⟨by omega, h2⟩, if_neg (by simp; omega)]; rfl
      · rw [if_pos h1, if_neg (fun h => h2 h.2), if_pos (by simp; omega)]; rfl
    · rw [if_neg h1, if_neg (fun h => by omega), if_neg (by simp; omega)]; rfl
end Go.Proofs.Ytofinglgnkdflaa
