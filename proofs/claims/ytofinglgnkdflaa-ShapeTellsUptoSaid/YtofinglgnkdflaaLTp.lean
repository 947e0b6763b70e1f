/- Opening: a past that came in. -/
import Derived.Test.YtofinglgnkdflaaLXT
import Derived.Test.YtofinglgnkdflaaLXG
namespace Go.Proofs.Ytofinglgnkdflaa
open Go.RowKit Go.ChangeShapes Go.WideShapes
open Go.Proofs.Ytofinglgnkdflaa.PHistoryChecks Go.Proofs.YtofinglgnkdflaaW.PrintWords
set_option linter.unusedVariables false
set_option linter.unusedSimpArgs false
theorem cells50 : Try.prog.cellsOf 50 = 15 := by kernel_rfl
theorem cells30 : Try.prog.cellsOf 30 = 3 := by kernel_rfl
theorem cells27 : Try.prog.cellsOf 27 = 1 := by kernel_rfl
theorem cells28 : Try.prog.cellsOf 28 = 1 := by kernel_rfl
theorem list7 {α : Type} {l : List α} (h : l.length = 7) : ∃ c0 c1 c2 c3 c4 c5 c6, l = [c0, c1, c2, c3, c4, c5, c6] := by
  match l, h with
  | [a, b, c, d, e, f, g], _ => exact ⟨a, b, c, d, e, f, g, rfl⟩
theorem list15 {α : Type} {l : List α} (h : l.length = 15) : ∃ c0 c1 c2 c3 c4 c5 c6 c7 c8 c9 c10 c11 c12 c13 c14, l = [c0, c1, c2, c3, c4, c5, c6, c7, c8, c9, c10, c11, c12, c13, c14] := by
  match l, h with
  | [a, b, c, d, e, f, g, h, i, j, k, l, m, n, o], _ => exact ⟨a, b, c, d, e, f, g, h, i, j, k, l, m, n, o, rfl⟩
section
variable {H : Type} {enc : TypeId × Value → H} {w : World} {sp : Nat → Bool} {held : Bool}
theorem bulk_sum2 : ∀ (l : List S43) (D : Nat → DataW H), (∀ i x, l[i]? = some x → 2 * nd x ≤ Rows.uptoBulk (D i)) → 2 * ndL l ≤ Rows.uptoBulkAll ((List.range l.length).map D)
  | [], _, _ => by simp [ndL]
  | x :: l, D, h => by
    have h0 := h 0 x rfl
    have h1 := bulk_sum2 l (fun i => D (i + 1)) (fun i y hy => h (i + 1) y hy)
    rw [List.length_cons, List.range_succ_eq_map, List.map_cons, List.map_map]
    simp only [ndL, Rows.uptoBulkAll]
    have h2 : List.map (D ∘ Nat.succ) (List.range l.length) = (List.range l.length).map (fun i => D (i + 1)) := rfl
    rw [h2]
    omega
end
end Go.Proofs.Ytofinglgnkdflaa
