/- The set of layer 3 in memory: New, Put, Words (turned from the Bits laws' texts). -/
import Derived.Test.YtofinglgnkdflaaLXC
import Derived.WalkSpells
import Derived.WalkLawsBesides
import Derived.Lib.Hide
import Derived.StillTailTactics
import Derived.Maps.AppendAt
namespace Go.Proofs.Ytofinglgnkdflaa
namespace Bt
open Go.RowKit
set_option linter.unusedVariables false
def IsSet (W : World) (g h : Nat) (room : Nat) (ws : List Nat) : Prop :=
  ∃ cap cur, W.heap[g]? = some (.cells #[.int .i64 room, .slice (some ⟨h, 0, none⟩) ws.length cap, .bool true] 140 (0, 0)) ∧
    W.heap[h]? = some (.cells cur 58 (0, 0)) ∧ ws.length ≤ cap ∧ cap ≤ maxLen ∧ cur.size = cap ∧ cur.toList.take ws.length = ws.map (fun x : Nat => Value.int .u64 x) ∧
    ws.length = (room + 63) / 64 ∧ room ≤ 4096 ∧ ∀ x, x ∈ ws → x < 18446744073709551616
theorem IsSet.cells {W : World} {g h room : Nat} {ws : List Nat} (H : IsSet W g h room ws) :
    ∃ cap, W.cell? ⟨g, 0, none⟩ = some (.int .i64 room) ∧ W.cell? ⟨g, 1, none⟩ = some (.slice (some ⟨h, 0, none⟩) ws.length cap) ∧ W.cell? ⟨g, 2, none⟩ = some (.bool true) ∧ ws.length ≤ cap := by
  obtain ⟨cap, cur, hg, hh, hc, _⟩ := H
  exact ⟨cap, (cell_of_row W g 0 _ _ _ hg).trans rfl, (cell_of_row W g 1 _ _ _ hg).trans rfl, (cell_of_row W g 2 _ _ _ hg).trans rfl, hc⟩
def wd (ws : List Nat) (j : Nat) : Nat := ws.getD j 0
theorem IsSet.word {W : World} {g h room : Nat} {ws : List Nat} (H : IsSet W g h room ws) (j : Nat) (hj : j < ws.length) :
    W.cell? ⟨h, j, none⟩ = some (.int .u64 (wd ws j)) ∧ W.frozen? ⟨h, j, none⟩ = false := by
  obtain ⟨cap, cur, hg, hh, hc, hcm, hs, ht, _⟩ := H
  refine ⟨(cell_of_row W h j _ _ _ hh).trans ?_, by simp [World.frozen?, hh]⟩
  have h1 : (cur.toList.take ws.length)[j]? = some (.int .u64 (wd ws j)) := by
    unfold wd
    rw [ht, List.getElem?_map, List.getElem?_eq_getElem hj]; simp [List.getElem?_eq_getElem hj]
  rw [List.getElem?_take, if_pos hj, Array.getElem?_toList] at h1
  exact h1
theorem IsSet.len {W : World} {g h room : Nat} {ws : List Nat} (H : IsSet W g h room ws) : ws.length = (room + 63) / 64 ∧ room ≤ 4096 ∧ ∀ x, x ∈ ws → x < 18446744073709551616 := by
  obtain ⟨cap, cur, _, _, _, _, _, _, h⟩ := H; exact h
theorem IsSet.move {W W' : World} {g h room : Nat} {ws : List Nat} (H : IsSet W g h room ws) (hg : W'.heap[g]? = W.heap[g]?) (hh : W'.heap[h]? = W.heap[h]?) : IsSet W' g h room ws := by
  obtain ⟨cap, cur, a, b, r⟩ := H
  exact ⟨cap, cur, hg.trans a, hh.trans b, r⟩
theorem IsSet.lt {W : World} {g h room : Nat} {ws : List Nat} (H : IsSet W g h room ws) : g < W.heap.size ∧ h < W.heap.size ∧ g ≠ h := by
  obtain ⟨cap, cur, a, b, r⟩ := H
  refine ⟨(Array.getElem?_eq_some_iff.1 a).1, (Array.getElem?_eq_some_iff.1 b).1, ?_⟩
  rintro rfl
  rw [a] at b; injection b with b; injection b with _ b2 _; exact absurd b2 (by decide)
theorem IsSet.below {B : Nat} {W W' : World} {g h room : Nat} {ws : List Nat} (H : IsSet W g h room ws) (hb : Below B W W') (hg : g < B) (hh : h < B) : IsSet W' g h room ws :=
  H.move (hb.block g hg) (hb.block h hh)
theorem heap_set_same {w : World} {g : Nat} {t : TypeId} {cs : Array Value} {fr : Nat × Nat} (h : w.heap[g]? = some (.cells cs t fr)) (i : Nat) (u : Value) :
    (w.setCell ⟨g, i, none⟩ u).heap[g]? = some (.cells (cs.setIfInBounds i u) t fr) := by
  simp only [World.setCell, Array.getElem?_modify, if_true, h, Option.map_some]
  rfl
theorem IsSet.store {W : World} {g h room : Nat} {ws : List Nat} (H : IsSet W g h room ws) (j : Nat) (hj : j < ws.length) (x : Nat) (hx : x < 18446744073709551616) :
    IsSet (W.setCell ⟨h, j, none⟩ (.int .u64 x)) g h room (ws.set j x) := by
  have hne := H.lt.2.2
  obtain ⟨cap, cur, a, b, hc, hcm, hs, ht, hl, hr, hw⟩ := H
  refine ⟨cap, cur.setIfInBounds j (.int .u64 x), ?_, heap_set_same b j _, by simpa using hc, hcm, by simpa using hs, ?_, by simpa using hl, hr, fun y hy => ?_⟩
  · rw [Below.heap_setCell _ _ _ _ hne, List.length_set]; exact a
  · rw [List.length_set, Array.toList_setIfInBounds, List.take_set, ht, List.map_set]
  · rcases List.mem_or_eq_of_mem_set hy with h1 | rfl
    · exact hw y h1
    · exact hx
end Bt
end Go.Proofs.Ytofinglgnkdflaa
