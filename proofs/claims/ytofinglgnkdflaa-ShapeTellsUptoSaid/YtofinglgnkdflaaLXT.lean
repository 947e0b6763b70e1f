/- Opening: whole numbers and values that came in. -/
import Derived.Test.YtofinglgnkdflaaLXC
import Derived.Test.YtofinglgnkdflaaRows
import Derived.Deep.Slices
section
namespace Go.Proofs.Ytofinglgnkdflaa
open Go.RowKit Go.ChangeShapes Go.WideShapes
open Go.Proofs.Ytofinglgnkdflaa.PHistoryChecks Go.Proofs.YtofinglgnkdflaaW.PrintWords
set_option linter.unusedVariables false
set_option linter.unusedSimpArgs false
theorem cells43 : Try.prog.cellsOf 43 = 5 := by kernel_rfl
theorem cells41 : Try.prog.cellsOf 41 = 1 := by kernel_rfl
theorem cells40 : Try.prog.cellsOf 40 = 1 := by kernel_rfl
theorem cells9 : Try.prog.cellsOf 9 = 1 := by kernel_rfl
theorem cells2 : Try.prog.cellsOf 2 = 1 := by kernel_rfl
theorem cells3 : Try.prog.cellsOf 3 = 1 := by kernel_rfl
theorem list3 {α : Type} {l : List α} (h : l.length = 3) : ∃ c0 c1 c2, l = [c0, c1, c2] := by
  match l, h with
  | [c0, c1, c2], _ => exact ⟨c0, c1, c2, rfl⟩
theorem list5 {α : Type} {l : List α} (h : l.length = 5) : ∃ c0 c1 c2 c3 c4, l = [c0, c1, c2, c3, c4] := by
  match l, h with
  | [c0, c1, c2, c3, c4], _ => exact ⟨c0, c1, c2, c3, c4, rfl⟩
theorem list_of {α : Type} {n : Nat} {p : Nat → α → Prop} (h : ∀ i, i < n → ∃ x, p i x) : ∃ l : List α, l.length = n ∧ ∀ i x, l[i]? = some x → p i x := by
  induction n with
  | zero => exact ⟨[], rfl, fun i x hx => by simp at hx⟩
  | succ n ih =>
    obtain ⟨l, hl, hp⟩ := ih (fun i hi => h i (Nat.lt_succ_of_lt hi))
    obtain ⟨y, hy⟩ := h n (Nat.lt_succ_self n)
    refine ⟨l ++ [y], by simp [hl], fun i x hx => ?_⟩
    by_cases hi : i < n
    · rw [List.getElem?_append_left (by omega)] at hx; exact hp i x hx
    · by_cases hi2 : i = n
      · subst hi2
        rw [List.getElem?_append_right (by omega), hl, Nat.sub_self] at hx
        simp at hx; subst hx; exact hy
      · rw [List.getElem?_eq_none (by simp [hl]; omega)] at hx; cases hx
section
variable {H : Type} {enc : TypeId × Value → H} {w : World} {sp : Nat → Bool} {held : Bool}
theorem bulk_pos (d : DataW H) : 1 ≤ Rows.uptoBulk d := by
  cases d with
  | lit l => cases l <;> simp [Rows.uptoBulk]
  | _ => simp [Rows.uptoBulk]
theorem bulk_mem (l : List (DataW H)) (d : DataW H) (h : d ∈ l) : Rows.uptoBulk d ≤ Rows.uptoBulkAll l := by
  induction l with
  | nil => cases h
  | cons x l ih =>
    simp only [Rows.uptoBulkAll]
    rcases List.mem_cons.1 h with rfl | h
    · omega
    · have := ih h; omega
theorem bulk_len2 (n : Nat) (l : List (DataW H)) (h : ∀ d ∈ l, n ≤ Rows.uptoBulk d) : n * l.length ≤ Rows.uptoBulkAll l := by
  induction l with
  | nil => exact Nat.zero_le _
  | cons x l ih =>
    have h1 := h x (List.mem_cons_self ..)
    have h2 := ih (fun d hd => h d (List.mem_cons_of_mem _ hd))
    simp only [List.length_cons, Rows.uptoBulkAll, Nat.mul_add, Nat.mul_one]; omega
theorem bulk_slice (D D' : Nat → DataW H) (n m i : Nat) (h : i < n) : Rows.uptoBulk (D i) + 1 ≤ Rows.uptoBulk (.slice ((List.range n).map D) ((List.range m).map D')) := by
  simp only [Rows.uptoBulk]
  have := bulk_mem ((List.range n).map D) (D i) (List.mem_map.2 ⟨i, List.mem_range.2 h, rfl⟩)
  omega
theorem row_of_cells {α : Type} {d : Kd α} {a : Addr} {l : List α} {len : Nat} (hl : l.length = len) (hm : len ≤ maxLen)
    (h : ∀ i x, l[i]? = some x → ∃ cs, w.cells? 0 (a.add (i * d.sz)) d.sz = some cs ∧ d.K w x cs) : Kd.C d w (some a) l.length l := by
  refine ⟨rfl, by unfold maxLen at hm; omega, fun _ => ⟨a, rfl, fun j p hj => ?_⟩⟩
  obtain ⟨cs, hc, hK⟩ := h j p hj
  obtain ⟨_, hlen, hcell⟩ := World.cells?_some hc
  refine ⟨cs, hlen, hK, fun i u hu => ?_⟩
  have hi : i < d.sz := by rw [← hlen]; exact (List.getElem?_eq_some_iff.1 hu).1
  have := hcell i hi
  rw [Go.Deep.add_add] at this
  exact this.trans hu
end
end Go.Proofs.Ytofinglgnkdflaa
end
section
namespace Go.Proofs.Ytofinglgnkdflaa
open Go.RowKit Go.ChangeShapes Go.WideShapes
open Go.Proofs.Ytofinglgnkdflaa.PHistoryChecks Go.Proofs.YtofinglgnkdflaaW.PrintWords
set_option linter.unusedVariables false
set_option linter.unusedSimpArgs false
section
variable {H : Type} {enc : TypeId × Value → H} {w : World} {sp : Nat → Bool}
end
end Go.Proofs.Ytofinglgnkdflaa
end
