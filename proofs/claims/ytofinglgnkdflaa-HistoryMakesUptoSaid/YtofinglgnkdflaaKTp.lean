/- Opening: a past that came in. -/
import Derived.Test.YtofinglgnkdflaaKXT
import Derived.Test.YtofinglgnkdflaaKXG
namespace Go.Proofs.Ytofinglgnkdflaa
open Go.RowKit Go.ChangeShapes Go.WideShapes
open Go.Proofs.Ytofinglgnkdflaa.PHistoryChecks Go.Proofs.YtofinglgnkdflaaW.PrintWords
set_option linter.unusedVariables false
set_option linter.unusedSimpArgs false
section
variable {H : Type} {enc : TypeId × Value → H} {w : World} {sp : Nat → Bool} {held : Bool}
theorem bulk_sum2 : ∀ (l : List S43) (D : Nat → DataW H), (∀ i x, l[i]? = some x → 2 * nd x ≤ Rows.uptoBulk (D i)) → 2 * ndL l ≤ Rows.uptoBulkAll ((List.range l.length).map D)
  | [], _, _ => by simp [ndL]
  | x :: l, D, h => by
    have h0 := h 0 x rfl
    have h1 := bulk_sum2 l (fun i => D (i + 1)) (fun i y hy => h (i + 1) y hy)
    rw [List.length_cons, List.range_succ_eq_map, List.map_cons, List.map_map]
    simp only [ndL, Rows.uptoBulkAll]
    have h2 : List.map (D ∘ Nat.succ) (List.range l.length) = (List.range l.length).map (fun i => D (i + 1)) := rfl
    rw [h2]
    omega
end
end Go.Proofs.Ytofinglgnkdflaa
