/- Ints of the reference of layer 26: two rows of whole numbers are the same. -/
import Derived.Test.YtofinglgnkdflaaKXH
section
namespace Go.Proofs.Ytofinglgnkdflaa
open Go.RowKit
open Go.Proofs.Ytofinglgnkdflaa.PHistoryChecks Go.Proofs.YtofinglgnkdflaaW.PrintWords Go.Proofs.YtofinglgnkdflaaW.PrintLast Go.Proofs.YtofinglgnkdflaaW.PrintMore
set_option linter.unusedVariables false
set_option linter.unusedSimpArgs false
def intCs (xs : List Int) : Array Value := (xs.map (Value.int .i64)).toArray
def IntR (w : World) (g : Nat) (xs : List Int) : Prop := w.heap[g]? = some (.cells (intCs xs) 3 (0, 0))
section
variable {w w1 : World} {g base : Nat} {xs : List Int} {ok : Nat → Prop}
theorem IntR.cell (h : IntR w g xs) (i : Int) (h0 : 0 ≤ i) (h1 : i < (xs.length : Int)) : w.cell? ⟨g, i.toNat, none⟩ = some (.int .i64 (rd xs i)) := by
  have hn : i.toNat < xs.length := by omega
  refine (blk_cell h i.toNat).trans ?_
  unfold intCs
  rw [List.getElem?_toArray, List.getElem?_map, List.getElem?_eq_getElem hn]
  unfold rd
  rw [List.getD_eq_getElem?_getD, List.getElem?_eq_getElem hn]; rfl
theorem IntR.set (h : IntR w g xs) (i : Nat) (v : Int) : IntR (w.setCell ⟨g, i, none⟩ (.int .i64 v)) g (xs.set i v) := by
  have := blk_set h i (.int .i64 v)
  unfold IntR intCs at *
  rw [this, List.map_set]
  simp
theorem IntR.lt (h : IntR w g xs) : g < w.heap.size := blk_lt h
theorem IntR.frozen (h : IntR w g xs) (i : Nat) : w.frozen? ⟨g, i, none⟩ = false := blk_frozen h i
theorem IntR.below (h : IntR w g xs) (hb : Below w.heap.size w w1) : IntR w1 g xs := (hb.block g (blk_lt h)).trans h
theorem intCs_at (xs : List Int) (j : Nat) (hj : j < xs.length) : (intCs xs)[j]? = some (.int .i64 xs[j]) := by
  unfold intCs
  rw [List.getElem?_toArray, List.getElem?_map, List.getElem?_eq_getElem hj]; rfl
theorem IntR.R (h : IntR w g xs) (hb : base ≤ g) (hok : ok g) (hm : xs.length ≤ maxLen) : (Kd.int .i64).R 3 w base ok (.slice (some ⟨g, 0, none⟩) xs.length xs.length) xs := by
  refine R_of_blk (d := Kd.int .i64) (n := xs.length) ?_ rfl hb hok
  refine ⟨intCs xs, h, Nat.le_refl _, hm, ?_, fun j hj => ⟨[.int .i64 xs[j]], ⟨rfl, fun o u hu => ?_⟩, xs[j], List.getElem?_eq_getElem hj, rfl⟩⟩
  · show (intCs xs).size = xs.length * 1
    simp [intCs]
  · cases o with
    | zero => simp at hu; subst hu; show (intCs xs)[j * 1 + 0]? = _; rw [Nat.mul_one, Nat.add_zero]; exact intCs_at xs j hj
    | succ o => simp at hu
end
theorem IntR.made (w : World) (n : Nat) : IntR (w.alloc (.cells (madeCells #[.int .i64 0] (n * 1)) 3)) w.heap.size (List.replicate n 0) := by
  refine (heap_alloc_new w _).trans ?_
  have : madeCells #[.int .i64 0] (n * 1) = intCs (List.replicate n 0) := by
    unfold madeCells intCs
    apply Array.ext'
    simp [Nat.mod_one]
    rw [List.map_const', List.length_range]
  rw [this]
end Go.Proofs.Ytofinglgnkdflaa
end
section
namespace Go.Proofs.Ytofinglgnkdflaa
open Go.RowKit
open Go.Proofs.Ytofinglgnkdflaa.PHistoryChecks Go.Proofs.YtofinglgnkdflaaW.PrintWords Go.Proofs.YtofinglgnkdflaaW.PrintLast Go.Proofs.YtofinglgnkdflaaW.PrintMore
set_option linter.unusedVariables false
set_option linter.unusedSimpArgs false
def Unit1 (l : List Int) : Prop := ∀ x ∈ l, -1 ≤ x ∧ x ≤ 1
theorem Unit1.set {l : List Int} (h : Unit1 l) (i : Nat) (v : Int) (hv : -1 ≤ v ∧ v ≤ 1) : Unit1 (l.set i v) := by
  intro x hx
  rcases List.mem_or_eq_of_mem_set hx with h1 | rfl
  · exact h x h1
  · exact hv
theorem Unit1.rd {l : List Int} (h : Unit1 l) (i : Int) : -1 ≤ rd l i ∧ rd l i ≤ 1 := by
  unfold YtofinglgnkdflaaW.PrintWords.rd
  rw [List.getD_eq_getElem?_getD]
  rcases hx : l[i.toNat]? with _ | x
  · exact ⟨by decide, by decide⟩
  · exact h x (List.mem_of_getElem? hx)
theorem eventsF_L {P : PastL} {xs : List S47} (h : eventsF P = some xs) : eventsL P = some xs := by
  unfold eventsF at h
  rcases h2 : eventsL P with _ | ys
  · rw [h2] at h; cases h
  · rw [h2] at h
    simp only at h
    repeat' split at h
    all_goals (first | (cases h; rfl) | cases h)
theorem rd_set {l : List Int} (i j : Nat) (v : Int) (hj : j < l.length) : rd (l.set i v) (j : Int) = if i = j then v else rd l (j : Int) := by
  unfold YtofinglgnkdflaaW.PrintWords.rd
  rw [Int.toNat_natCast, List.getD_eq_getElem?_getD, List.getD_eq_getElem?_getD, List.getElem?_set]
  by_cases e : i = j
  · rw [if_pos e, if_pos e, if_pos (by omega)]; rfl
  · rw [if_neg e, if_neg e]
theorem ag_add {ag : Addr} {g : Nat} (h : ag = ⟨g, 0, none⟩) (k : Nat) : ag.add k = ⟨g, k, none⟩ := by
  subst h; unfold Addr.add; split <;> simp_all
end Go.Proofs.Ytofinglgnkdflaa
end
section
namespace Go.Proofs.Ytofinglgnkdflaa
open Go.RowKit
open Go.Proofs.Ytofinglgnkdflaa.PHistoryChecks Go.Proofs.YtofinglgnkdflaaW.PrintWords Go.Proofs.YtofinglgnkdflaaW.PrintLast Go.Proofs.YtofinglgnkdflaaW.PrintMore
set_option linter.unusedVariables false
set_option linter.unusedSimpArgs false
theorem rd_set' (l : List Int) (i j : Nat) (v : Int) : rd (l.set i v) (j : Int) = if i = j ∧ j < l.length then v else rd l (j : Int) := by
  by_cases hj : j < l.length
  · rw [rd_set i j v hj]
    by_cases e : i = j
    · rw [if_pos e, if_pos ⟨e, hj⟩]
    · rw [if_neg e, if_neg (fun h => e h.1)]
  · rw [if_neg (fun h => hj h.2)]
    unfold YtofinglgnkdflaaW.PrintWords.rd
    rw [Int.toNat_natCast, List.getD_eq_getElem?_getD, List.getD_eq_getElem?_getD, List.getElem?_eq_none (by rw [List.length_set]; omega), List.getElem?_eq_none (by omega)]
end Go.Proofs.Ytofinglgnkdflaa
end
section
namespace Go.Proofs.Ytofinglgnkdflaa
open Go.RowKit
open Go.Proofs.Ytofinglgnkdflaa.PHistoryChecks Go.Proofs.YtofinglgnkdflaaW.PrintWords Go.Proofs.YtofinglgnkdflaaW.PrintLast Go.Proofs.YtofinglgnkdflaaW.PrintMore
set_option linter.unusedVariables false
set_option linter.unusedSimpArgs false
def IntA (w : World) (g : Nat) (xs : List Int) : Prop := w.heap[g]? = some (.cells (intCs xs) 120 (0, 0))
section
variable {w w1 : World} {g : Nat} {xs : List Int}
theorem IntA.cell (h : IntA w g xs) (i : Int) (h0 : 0 ≤ i) (h1 : i < (xs.length : Int)) : w.cell? ⟨g, i.toNat, none⟩ = some (.int .i64 (rd xs i)) := by
  have hn : i.toNat < xs.length := by omega
  refine (blk_cell h i.toNat).trans ?_
  rw [intCs_at xs _ hn]
  unfold YtofinglgnkdflaaW.PrintWords.rd
  rw [List.getD_eq_getElem?_getD, List.getElem?_eq_getElem hn]; rfl
theorem IntA.set (h : IntA w g xs) (i : Nat) (v : Int) : IntA (w.setCell ⟨g, i, none⟩ (.int .i64 v)) g (xs.set i v) := by
  have := blk_set h i (.int .i64 v)
  unfold IntA intCs at *
  rw [this, List.map_set]
  simp
theorem IntA.lt (h : IntA w g xs) : g < w.heap.size := blk_lt h
theorem IntA.frozen (h : IntA w g xs) (i : Nat) : w.frozen? ⟨g, i, none⟩ = false := blk_frozen h i
theorem IntA.C (h : IntA w g xs) (hm : xs.length ≤ 9223372036854775807) : (Kd.int .i64).C w (some ⟨g, 0, none⟩) xs.length xs := by
  refine ⟨rfl, hm, fun _ => ⟨_, rfl, fun j p hj => ⟨[.int .i64 p], rfl, rfl, fun i u hu => ?_⟩⟩⟩
  have hj2 : j < xs.length := (List.getElem?_eq_some_iff.1 hj).1
  have hp : xs[j] = p := (List.getElem?_eq_some_iff.1 hj).2
  cases i with
  | zero =>
    simp at hu; subst hu
    show w.cell? ((⟨g, 0, none⟩ : Addr).add (j * 1 + 0)) = _
    rw [ag_add rfl, Nat.mul_one, Nat.add_zero, ← hp]
    exact (blk_cell h j).trans (intCs_at xs j hj2)
  | succ i => simp at hu
end
end Go.Proofs.Ytofinglgnkdflaa
end
section
namespace Go.Proofs.Ytofinglgnkdflaa
open Go.RowKit
open Go.Proofs.Ytofinglgnkdflaa.PHistoryChecks Go.Proofs.YtofinglgnkdflaaW.PrintWords Go.Proofs.YtofinglgnkdflaaW.PrintLast Go.Proofs.YtofinglgnkdflaaW.PrintMore
set_option linter.unusedVariables false
set_option linter.unusedSimpArgs false
end Go.Proofs.Ytofinglgnkdflaa
end
