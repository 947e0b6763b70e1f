/- Layer 3: Subsets. -/
import Derived.Test.YthfapneifbjlmaaDoorRows
import Derived.WalkKit
import Derived.ProofKit
import Derived.BigQuiet
import Derived.Deep.QuietTactic
import Derived.WalkSpells
import Derived.WalkLawsBesides
import Derived.Lib.Hide
import Derived.Deep.RegionHeld3
import Derived.StillTailTactics
import Derived.Maps.AppendAt
import Derived.Laws.CopyOwn
import Derived.RangeFuncNested
import Derived.RangeFuncLeaves
import Derived.RangeFuncCalls
import Derived.Deep.Draws
import Derived.Lib.TrailingZeros
import Derived.RangeFuncBound
import Derived.Shelf.Abstract
import Derived.Shelf.RegionOpen
import Derived.OwnWalkIn
import Derived.TacticsInMore
import Derived.LoopNIn
import Derived.LoopIn
import Derived.Laws.Bits64b
section
namespace Go.Proofs.YthfapneifbjlmaaDoor
open Go.RowKit
set_option linter.unusedVariables false

/-- Blocks g, h of the world are a set of a room: the struct, its words. -/
def IsSet (W : World) (g h : Nat) (room : Nat) (ws : List Nat) : Prop :=
  ∃ cap cur, W.heap[g]? = some (.cells #[.int .i64 room, .slice (some ⟨h, 0, none⟩) ws.length cap, .bool true] 55 (0, 0)) ∧
    W.heap[h]? = some (.cells cur 42 (0, 0)) ∧ ws.length ≤ cap ∧ cap ≤ maxLen ∧ cur.size = cap ∧ cur.toList.take ws.length = ws.map (fun x : Nat => Value.int .u64 x) ∧
    ws.length = (room + 63) / 64 ∧ room ≤ 4096 ∧ ∀ x, x ∈ ws → x < 18446744073709551616

/-- What the walk wants of a set: its three cells, none frozen. -/
theorem IsSet.cells {W : World} {g h room : Nat} {ws : List Nat} (H : IsSet W g h room ws) :
    ∃ cap, W.cell? ⟨g, 0, none⟩ = some (.int .i64 room) ∧ W.cell? ⟨g, 1, none⟩ = some (.slice (some ⟨h, 0, none⟩) ws.length cap) ∧ W.cell? ⟨g, 2, none⟩ = some (.bool true) ∧ ws.length ≤ cap := by
  obtain ⟨cap, cur, hg, hh, hc, _⟩ := H
  exact ⟨cap, (cell_of_row W g 0 _ _ _ hg).trans rfl, (cell_of_row W g 1 _ _ _ hg).trans rfl, (cell_of_row W g 2 _ _ _ hg).trans rfl, hc⟩

set_option maxHeartbeats 400000 in
theorem alive_set {W : World} {g h room : Nat} {ws : List Nat} (H : IsSet W g h room ws) :
    Calls Tryd.prog 42 #[.pointer (some ⟨g, 0, none⟩)] W fun e w' => e = .returned (.bool true) ∧ W = w' := by
  obtain ⟨cap, h0, h1, h2, _⟩ := H.cells
  go_enter Tryd.func42, Tryd.ntmps42
  go_wp2
  go_ret
  exact ⟨rfl, rfl⟩
/-- A set that no call made: nil, or zero. -/
def Dead (W : World) (v : Value) : Prop := v = .pointer none ∨ ∃ g, v = .pointer (some ⟨g, 0, none⟩) ∧ W.cell? ⟨g, 2, none⟩ = some (.bool false)
set_option maxHeartbeats 400000 in
theorem alive_dead {W : World} {v : Value} (H : Dead W v) :
    Calls Tryd.prog 42 #[v] W fun e w' => e = .returned (.bool false) ∧ W = w' := by
  rcases H with rfl | ⟨g, rfl, h2⟩
  · go_enter Tryd.func42, Tryd.ntmps42
    go_wp2
    go_ret
    exact ⟨rfl, rfl⟩
  · go_enter Tryd.func42, Tryd.ntmps42
    go_wp2
    go_ret
    exact ⟨rfl, rfl⟩

/-- Word j. -/
def wd (ws : List Nat) (j : Nat) : Nat := ws.getD j 0
/-- A word's cell. -/
theorem IsSet.word {W : World} {g h room : Nat} {ws : List Nat} (H : IsSet W g h room ws) (j : Nat) (hj : j < ws.length) :
    W.cell? ⟨h, j, none⟩ = some (.int .u64 (wd ws j)) ∧ W.frozen? ⟨h, j, none⟩ = false := by
  obtain ⟨cap, cur, hg, hh, hc, hcm, hs, ht, _⟩ := H
  refine ⟨(cell_of_row W h j _ _ _ hh).trans ?_, by simp [World.frozen?, hh]⟩
  have h1 : (cur.toList.take ws.length)[j]? = some (.int .u64 (wd ws j)) := by
    unfold wd
    rw [ht, List.getElem?_map, List.getElem?_eq_getElem hj]; simp [List.getElem?_eq_getElem hj]
  rw [List.getElem?_take, if_pos hj, Array.getElem?_toList] at h1
  exact h1

set_option maxHeartbeats 400000 in
theorem has_set {W : World} {g h room : Nat} {ws : List Nat} (H : IsSet W g h room ws) (i : Int) (b : Bool) (hb : (decide (0 ≤ i) && decide (i < room)) = b) :
    Calls Tryd.prog 55 #[.pointer (some ⟨g, 0, none⟩), .int .i64 i] W fun e w' => e = .returned (.bool b) ∧ W = w' := by
  obtain ⟨cap, h0, h1, h2, _⟩ := H.cells
  have al := Lib.hid (alive_set H)
  by_cases h3 : 0 ≤ i
  · go_enter Tryd.func55, Tryd.ntmps55
    go_wp2_with (go_at_call 42; refine al.out.mono ?_; rintro e w' ⟨rfl, rfl⟩)
    all_goals go_ret
    all_goals exact ⟨by subst hb; congr 2; simp; omega, rfl⟩
  · go_enter Tryd.func55, Tryd.ntmps55
    go_wp2_with (go_at_call 42; refine al.out.mono ?_; rintro e w' ⟨rfl, rfl⟩)
    all_goals go_ret
    all_goals exact ⟨by subst hb; congr 2; simp; omega, rfl⟩

set_option maxHeartbeats 400000 in
theorem Room_set {W : World} {g h room : Nat} {ws : List Nat} (H : IsSet W g h room ws) :
    Calls Tryd.prog 40 #[.pointer (some ⟨g, 0, none⟩)] W fun e w' => e = .returned (.int .i64 room) ∧ W = w' := by
  obtain ⟨cap, h0, h1, h2, _⟩ := H.cells
  have al := Lib.hid (alive_set H)
  go_enter Tryd.func40, Tryd.ntmps40
  go_wp2_with (go_at_call 42; refine al.out.mono ?_; rintro e w' ⟨rfl, rfl⟩)
  go_ret
  exact ⟨rfl, rfl⟩

/-- The bit of a number in its word. -/
def bitOf (i : Nat) : Nat := 2 ^ (i % 64)
theorem bitOf_lt (i : Nat) : bitOf i < 18446744073709551616 := by
  unfold bitOf
  have h : (2 : Nat) ^ (i % 64) < 2 ^ 64 := Nat.pow_lt_pow_right (by omega) (Nat.mod_lt _ (by omega))
  simpa using h
theorem wrap_bit (i : Nat) : IntKind.u64.wrap ((2 : Int) ^ (i % 64)) = (bitOf i : Int) := by
  have h := bitOf_lt i
  rw [IntKind.wrap_u64]
  have e : ((2 : Int) ^ (i % 64)) = ((bitOf i : Nat) : Int) := by unfold bitOf; push_cast; rfl
  rw [e]; omega
theorem IsSet.len {W : World} {g h room : Nat} {ws : List Nat} (H : IsSet W g h room ws) : ws.length = (room + 63) / 64 ∧ room ≤ 4096 ∧ ∀ x, x ∈ ws → x < 18446744073709551616 := by
  obtain ⟨cap, cur, _, _, _, _, _, _, h⟩ := H; exact h
theorem ret_tuple {a b : Array Value} (h : a = b) : Ending.returned (.tuple a) = .returned (.tuple b) := by rw [h]

set_option maxHeartbeats 400000 in
theorem at_set {W : World} {g h room : Nat} {ws : List Nat} (H : IsSet W g h room ws) (i : Int) (h0i : 0 ≤ i) (hi : i < room) :
    Calls Tryd.prog 41 #[.pointer (some ⟨g, 0, none⟩), .int .i64 i] W fun e w' => e = .returned (.tuple #[.pointer (some ⟨h, i.toNat / 64, none⟩), .int .u64 (bitOf i.toNat), .int .i64 0]) ∧ ∃ n, W.drewN n = w' := by
  obtain ⟨i, rfl⟩ := Int.eq_ofNat_of_zero_le h0i
  rw [Int.toNat_natCast]
  obtain ⟨cap, h0, h1, h2, hcap⟩ := H.cells
  have al := Lib.hid (alive_set H)
  have ha := Lib.hid (has_set H i true (by simp at hi ⊢; omega))
  obtain ⟨hlen, hroom, _⟩ := H.len
  have hlt : (i : Int) / 64 < ws.length := by omega
  have h64 : (i : Int) < 4096 := by omega
  have HL := Lib.hid hlen
  clear hlen
  go_enter Tryd.func41, Tryd.ntmps41
  go_wp2_with (first | (go_at_call 42; refine al.out.mono ?_; rintro e w' ⟨rfl, rfl⟩) | (go_at_call 55; refine ha.out.mono ?_; rintro e w' ⟨rfl, rfl⟩))
  go_quiet (fail)
  go_wp2
  go_ret3
  exact ⟨ret_tuple (by rw [wrap_bit]; rfl), nq, rfl⟩

set_option maxHeartbeats 400000 in
theorem at_out {W : World} {g h room : Nat} {ws : List Nat} (H : IsSet W g h room ws) (i : Int) (hi : ¬ (0 ≤ i ∧ i < room)) :
    Calls Tryd.prog 41 #[.pointer (some ⟨g, 0, none⟩), .int .i64 i] W fun e w' => e = .returned (.tuple #[.pointer none, .int .u64 0, .int .i64 30]) ∧ W = w' := by
  have al := Lib.hid (alive_set H)
  have ha := Lib.hid (has_set H i false (by simp; omega))
  clear hi
  go_enter Tryd.func41, Tryd.ntmps41
  go_wp2_with (first | (go_at_call 42; refine al.out.mono ?_; rintro e w' ⟨rfl, rfl⟩) | (go_at_call 55; refine ha.out.mono ?_; rintro e w' ⟨rfl, rfl⟩))
  go_ret3
  exact ⟨rfl, rfl⟩

set_option maxHeartbeats 400000 in
theorem at_dead {W : World} {v : Value} (H : Dead W v) (i : Int) :
    Calls Tryd.prog 41 #[v, .int .i64 i] W fun e w' => e = .returned (.tuple #[.pointer none, .int .u64 0, .int .i64 1]) ∧ W = w' := by
  have al := Lib.hid (alive_dead H)
  clear H
  go_enter Tryd.func41, Tryd.ntmps41
  go_wp2_with (go_at_call 42; refine al.out.mono ?_; rintro e w' ⟨rfl, rfl⟩)
  go_ret3
  exact ⟨rfl, rfl⟩

/-! ### A set in another world; a word stored -/
theorem IsSet.move {W W' : World} {g h room : Nat} {ws : List Nat} (H : IsSet W g h room ws) (hg : W'.heap[g]? = W.heap[g]?) (hh : W'.heap[h]? = W.heap[h]?) : IsSet W' g h room ws := by
  obtain ⟨cap, cur, a, b, r⟩ := H
  exact ⟨cap, cur, hg.trans a, hh.trans b, r⟩
theorem IsSet.lt {W : World} {g h room : Nat} {ws : List Nat} (H : IsSet W g h room ws) : g < W.heap.size ∧ h < W.heap.size ∧ g ≠ h := by
  obtain ⟨cap, cur, a, b, r⟩ := H
  refine ⟨(Array.getElem?_eq_some_iff.1 a).1, (Array.getElem?_eq_some_iff.1 b).1, ?_⟩
  rintro rfl
  rw [a] at b; injection b with b; injection b with _ b2 _; exact absurd b2 (by decide)
theorem IsSet.below {B : Nat} {W W' : World} {g h room : Nat} {ws : List Nat} (H : IsSet W g h room ws) (hb : Below B W W') (hg : g < B) (hh : h < B) : IsSet W' g h room ws :=
  H.move (hb.block g hg) (hb.block h hh)
theorem IsSet.drewN {W : World} {g h room : Nat} {ws : List Nat} (H : IsSet W g h room ws) (n : Nat) : IsSet (W.drewN n) g h room ws := H
theorem heap_set_same {w : World} {g : Nat} {t : TypeId} {cs : Array Value} {fr : Nat × Nat} (h : w.heap[g]? = some (.cells cs t fr)) (i : Nat) (u : Value) :
    (w.setCell ⟨g, i, none⟩ u).heap[g]? = some (.cells (cs.setIfInBounds i u) t fr) := by
  simp only [World.setCell, Array.getElem?_modify, if_true, h, Option.map_some]
  rfl
theorem IsSet.store {W : World} {g h room : Nat} {ws : List Nat} (H : IsSet W g h room ws) (j : Nat) (hj : j < ws.length) (x : Nat) (hx : x < 18446744073709551616) :
    IsSet (W.setCell ⟨h, j, none⟩ (.int .u64 x)) g h room (ws.set j x) := by
  have hne := H.lt.2.2
  obtain ⟨cap, cur, a, b, hc, hcm, hs, ht, hl, hr, hw⟩ := H
  refine ⟨cap, cur.setIfInBounds j (.int .u64 x), ?_, heap_set_same b j _, by simpa using hc, hcm, by simpa using hs, ?_, by simpa using hl, hr, fun y hy => ?_⟩
  · rw [Below.heap_setCell _ _ _ _ hne, List.length_set]; exact a
  · rw [List.length_set, Array.toList_setIfInBounds, List.take_set, ht, List.map_set]
  · rcases List.mem_or_eq_of_mem_set hy with h1 | rfl
    · exact hw y h1
    · exact hx
theorem grownBy_set {W : World} {p : Addr} {v : Value} (n : Nat) : W.grownBy ((W.drewN n).setCell p v) (some p.block) :=
  ⟨rfl, rfl, rfl, by simp [World.setCell, World.drewN], fun k _ hne => Below.heap_setCell (W.drewN n) p v k (fun e => hne (by rw [e]))⟩

/-- What Put and Drop leave. -/
def putBit (ws : List Nat) (i : Nat) : List Nat := ws.set (i / 64) (wd ws (i / 64) ||| bitOf i)
def dropBit (ws : List Nat) (i : Nat) : List Nat := ws.set (i / 64) (wd ws (i / 64) &&& (18446744073709551615 - bitOf i))
theorem IsSet.getD_lt {W : World} {g h room : Nat} {ws : List Nat} (H : IsSet W g h room ws) (j : Nat) : wd ws j < 18446744073709551616 := by
  unfold wd
  by_cases hj : j < ws.length
  · rw [List.getD_eq_getElem?_getD, List.getElem?_eq_getElem hj]; exact H.len.2.2 _ (List.getElem_mem hj)
  · rw [List.getD_eq_getElem?_getD, List.getElem?_eq_none (by omega)]; simp

theorem or_lt {a b : Nat} (ha : a < 18446744073709551616) (hb : b < 18446744073709551616) : a ||| b < 18446744073709551616 := by
  have := Nat.or_lt_two_pow (x := a) (y := b) (n := 64) (by simpa using ha) (by simpa using hb)
  simpa using this
theorem and_lt {a : Nat} (b : Nat) (ha : a < 18446744073709551616) : a &&& b < 18446744073709551616 := Nat.lt_of_le_of_lt Nat.and_le_left ha

set_option maxHeartbeats 400000 in
theorem Put_set {W : World} {g h room : Nat} {ws : List Nat} (H : IsSet W g h room ws) (i : Int) (h0i : 0 ≤ i) (hi : i < room) :
    Calls Tryd.prog 16 #[.pointer (some ⟨g, 0, none⟩), .int .i64 i] W fun e w' => e = .returned (.int .i64 0) ∧ IsSet w' g h room (putBit ws i.toNat) ∧ W.grownBy w' (some h) := by
  have ha := Lib.hid (at_set H i h0i hi)
  obtain ⟨i, rfl⟩ := Int.eq_ofNat_of_zero_le h0i
  rw [Int.toNat_natCast] at *
  obtain ⟨hlen, hroom, _⟩ := H.len
  have hj : i / 64 < ws.length := by omega
  obtain ⟨hc, hf⟩ := H.word (i / 64) hj
  have HS := Lib.hid ((fun n => (H.drewN n).store (i / 64) hj (wd ws (i / 64) ||| bitOf i) (or_lt (H.getD_lt _) (bitOf_lt i))))
  have hb := Lib.hid (u64_or_nat (wd ws (i / 64)) (bitOf i) (H.getD_lt _) (bitOf_lt i))
  clear hlen h0i hi hroom
  go_enter Tryd.func16, Tryd.ntmps16
  go_wp2_with (go_at_call 41; refine ha.out.mono ?_; rintro e w' ⟨rfl, n, rfl⟩)
  go_ret
  rw [hb.out]
  exact ⟨rfl, HS.out n, grownBy_set n⟩
set_option maxHeartbeats 400000 in
theorem Put_out {W : World} {g h room : Nat} {ws : List Nat} (H : IsSet W g h room ws) (i : Int) (hi : ¬ (0 ≤ i ∧ i < room)) :
    Calls Tryd.prog 16 #[.pointer (some ⟨g, 0, none⟩), .int .i64 i] W fun e w' => e = .returned (.int .i64 30) ∧ W = w' := by
  have ha := Lib.hid (at_out H i hi)
  clear H hi
  go_enter Tryd.func16, Tryd.ntmps16
  go_wp2_with (go_at_call 41; refine ha.out.mono ?_; rintro e w' ⟨rfl, rfl⟩)
  go_ret
  exact ⟨rfl, rfl⟩
set_option maxHeartbeats 400000 in
theorem Put_dead {W : World} {v : Value} (H : Dead W v) (i : Int) :
    Calls Tryd.prog 16 #[v, .int .i64 i] W fun e w' => e = .returned (.int .i64 1) ∧ W = w' := by
  have ha := Lib.hid (at_dead H i)
  clear H
  go_enter Tryd.func16, Tryd.ntmps16
  go_wp2_with (go_at_call 41; refine ha.out.mono ?_; rintro e w' ⟨rfl, rfl⟩)
  go_ret
  exact ⟨rfl, rfl⟩
set_option maxHeartbeats 400000 in
theorem Drop_set {W : World} {g h room : Nat} {ws : List Nat} (H : IsSet W g h room ws) (i : Int) (h0i : 0 ≤ i) (hi : i < room) :
    Calls Tryd.prog 35 #[.pointer (some ⟨g, 0, none⟩), .int .i64 i] W fun e w' => e = .returned (.int .i64 0) ∧ IsSet w' g h room (dropBit ws i.toNat) ∧ W.grownBy w' (some h) := by
  have ha := Lib.hid (at_set H i h0i hi)
  obtain ⟨i, rfl⟩ := Int.eq_ofNat_of_zero_le h0i
  rw [Int.toNat_natCast] at *
  obtain ⟨hlen, hroom, _⟩ := H.len
  have hj : i / 64 < ws.length := by omega
  obtain ⟨hc, hf⟩ := H.word (i / 64) hj
  have HS := Lib.hid ((fun n => (H.drewN n).store (i / 64) hj (wd ws (i / 64) &&& (18446744073709551615 - bitOf i)) (and_lt _ (H.getD_lt _))))
  have hb := Lib.hid (u64_andNot_nat (wd ws (i / 64)) (bitOf i) (H.getD_lt _) (bitOf_lt i))
  clear hlen h0i hi hroom
  go_enter Tryd.func35, Tryd.ntmps35
  go_wp2_with (go_at_call 41; refine ha.out.mono ?_; rintro e w' ⟨rfl, n, rfl⟩)
  go_ret
  rw [hb.out]
  exact ⟨rfl, HS.out n, grownBy_set n⟩
set_option maxHeartbeats 400000 in
theorem Drop_out {W : World} {g h room : Nat} {ws : List Nat} (H : IsSet W g h room ws) (i : Int) (hi : ¬ (0 ≤ i ∧ i < room)) :
    Calls Tryd.prog 35 #[.pointer (some ⟨g, 0, none⟩), .int .i64 i] W fun e w' => e = .returned (.int .i64 30) ∧ W = w' := by
  have ha := Lib.hid (at_out H i hi)
  clear H hi
  go_enter Tryd.func35, Tryd.ntmps35
  go_wp2_with (go_at_call 41; refine ha.out.mono ?_; rintro e w' ⟨rfl, rfl⟩)
  go_ret
  exact ⟨rfl, rfl⟩
set_option maxHeartbeats 400000 in
theorem Drop_dead {W : World} {v : Value} (H : Dead W v) (i : Int) :
    Calls Tryd.prog 35 #[v, .int .i64 i] W fun e w' => e = .returned (.int .i64 1) ∧ W = w' := by
  have ha := Lib.hid (at_dead H i)
  clear H
  go_enter Tryd.func35, Tryd.ntmps35
  go_wp2_with (go_at_call 41; refine ha.out.mono ?_; rintro e w' ⟨rfl, rfl⟩)
  go_ret
  exact ⟨rfl, rfl⟩

/-- Is a number in? -/
def memb (ws : List Nat) (i : Nat) : Bool := (wd ws (i / 64)).testBit (i % 64)
theorem and_bit_ne (x i : Nat) : (((x &&& bitOf i : Nat) : Int) != 0) = x.testBit (i % 64) := by
  have hp : 0 < 2 ^ (i % 64) := Nat.two_pow_pos _
  unfold bitOf
  rw [nat_bit, Nat.testBit_eq_decide_div_mod_eq]
  rcases Nat.mod_two_eq_zero_or_one (x / 2 ^ (i % 64)) with h | h
  · rw [h]; simp
  · rw [h]; simp only [Nat.one_mul, decide_true, bne_iff_ne]; omega

set_option maxHeartbeats 400000 in
theorem Has_set {W : World} {g h room : Nat} {ws : List Nat} (H : IsSet W g h room ws) (i : Int) (h0i : 0 ≤ i) (hi : i < room) :
    Calls Tryd.prog 38 #[.pointer (some ⟨g, 0, none⟩), .int .i64 i] W fun e w' => e = .returned (.bool (memb ws i.toNat)) ∧ ∃ n, W.drewN n = w' := by
  have ha := Lib.hid (at_set H i h0i hi)
  obtain ⟨i, rfl⟩ := Int.eq_ofNat_of_zero_le h0i
  rw [Int.toNat_natCast] at *
  obtain ⟨hlen, hroom, _⟩ := H.len
  have hj : i / 64 < ws.length := by omega
  obtain ⟨hc, hf⟩ := H.word (i / 64) hj
  have hb := Lib.hid (u64_and_nat (wd ws (i / 64)) (bitOf i) (H.getD_lt _) (bitOf_lt i))
  have hm := Lib.hid (and_bit_ne (wd ws (i / 64)) i)
  clear hlen h0i hi hroom
  go_enter Tryd.func38, Tryd.ntmps38
  go_wp2_with (go_at_call 41; refine ha.out.mono ?_; rintro e w' ⟨rfl, n, rfl⟩)
  go_ret
  rw [hb.out]
  refine ⟨congrArg (fun b => Ending.returned (.bool b)) hm.out, n, rfl⟩
set_option maxHeartbeats 400000 in
theorem Has_out {W : World} {g h room : Nat} {ws : List Nat} (H : IsSet W g h room ws) (i : Int) (hi : ¬ (0 ≤ i ∧ i < room)) :
    Calls Tryd.prog 38 #[.pointer (some ⟨g, 0, none⟩), .int .i64 i] W fun e w' => e = .returned (.bool false) ∧ W = w' := by
  have ha := Lib.hid (at_out H i hi)
  clear H hi
  go_enter Tryd.func38, Tryd.ntmps38
  go_wp2_with (go_at_call 41; refine ha.out.mono ?_; rintro e w' ⟨rfl, rfl⟩)
  go_ret
  exact ⟨rfl, rfl⟩
set_option maxHeartbeats 400000 in
theorem Has_dead {W : World} {v : Value} (H : Dead W v) (i : Int) :
    Calls Tryd.prog 38 #[v, .int .i64 i] W fun e w' => e = .returned (.bool false) ∧ W = w' := by
  have ha := Lib.hid (at_dead H i)
  clear H
  go_enter Tryd.func38, Tryd.ntmps38
  go_wp2_with (go_at_call 41; refine ha.out.mono ?_; rintro e w' ⟨rfl, rfl⟩)
  go_ret
  exact ⟨rfl, rfl⟩
set_option maxHeartbeats 400000 in
theorem Room_dead {W : World} {v : Value} (H : Dead W v) :
    Calls Tryd.prog 40 #[v] W fun e w' => e = .returned (.int .i64 0) ∧ W = w' := by
  have al := Lib.hid (alive_dead H)
  clear H
  go_enter Tryd.func40, Tryd.ntmps40
  go_wp2_with (go_at_call 42; refine al.out.mono ?_; rintro e w' ⟨rfl, rfl⟩)
  go_ret
  exact ⟨rfl, rfl⟩
end Go.Proofs.YthfapneifbjlmaaDoor
end

section
namespace Go.Proofs.YthfapneifbjlmaaDoor
open Go.RowKit
set_option linter.unusedVariables false

theorem info42 : (Tryd.prog.info? 42).map (fun i => (i.zero, i.size, i.bytes)) = some (some (.int .u64 0), 1, 8) := by kernel_rfl
theorem info3 : (Tryd.prog.info? 3).map (fun i => (i.zero, i.size, i.bytes)) = some (some (.int .i64 0), 1, 8) := by kernel_rfl

def u64s (ws : List Nat) : List Value := ws.map fun x : Nat => Value.int .u64 x
theorem u64s_one (ws : List Nat) : ∀ u ∈ u64s ws, u.oneCell' = true := by
  intro u hu; simp only [u64s, List.mem_map] at hu; obtain ⟨q, _, rfl⟩ := hu; rfl

theorem cell_al {w : World} {a : Addr} {v : Value} (o : Obj) (h : w.cell? a = some v) : (w.alloc o).cell? a = some v :=
  (((Below.refl w.heap.size w).alloc (Nat.le_refl _) o).cell (World.block_lt_of_cell? w a h)).trans h
theorem own_form {w : World} {base e n : Nat} {v : Value} {xs : List Value} (h : w.ownsRow base e 1 v n xs) (hn : v ≠ .slice none 0 0) : ∃ g cap, v = .slice (some ⟨g, 0, none⟩) n cap ∧ base ≤ g := by
  rcases h.2 with ⟨h1, _⟩ | ⟨g, cap, cur, rfl, hb, _⟩
  · exact absurd h1 hn
  · exact ⟨g, cap, rfl, hb⟩
/-- slices.Clone of words: a row of the call's own, never nil. -/
theorem clone_words (W : World) (ad : Addr) (ws : List Nat) (c : Nat) (hc : ∀ j u, (u64s ws)[j]? = some u → W.cell? (ad.add j) = some u) (hl : ws.length ≤ 17592186044416) :
    Calls Tryd.prog 43 #[.slice (some ad) ws.length c] W fun e w' => ∃ h cap, e = .returned (.slice (some ⟨h, 0, none⟩) ws.length cap) ∧ w'.ownsRow W.heap.size 42 1 (.slice (some ⟨h, 0, none⟩) ws.length cap) ws.length (u64s ws) ∧ Below W.heap.size W w' := by
  obtain ⟨i0, hi, hz0, hz1, hz2⟩ := info_parts info42
  have HC := Lib.hid hc
  clear hc
  have hlen : (u64s ws).length = ws.length * 1 := by simp [u64s]
  have HLN := Lib.hid hlen
  clear hlen
  have hq := fun wx => Lib.run_eql_slice_nil (P := Tryd.prog) wx 32 42 (some ad) ws.length c 0 0 Tryd.underlying32
  go_enter Tryd.func43, Tryd.ntmps43
  go_wp2_with (at_builtin; refine wpList_append_own _ rfl _ _ 32 rfl W.heap.size 42 i0 (.int .u64 0) 1 8 Tryd.underlying32 hi hz0 hz1 hz2 rfl (by decide) _ 0 [] rfl (World.ownsRow_made W #[] 0 (Nat.le_refl _) (by decide) rfl) ad ws.length c (u64s ws) rfl ?c1 ?c2 (u64s_one ws) ?c4 ?c5 ?c6 ?_)
  case c1 => exact HLN.out
  case c2 => exact fun j u hu => (cell_al _ (HC.out j u hu))
  case c4 => simp [maxLen]; omega
  case c5 => omega
  case c6 => simp
  intro v' w1 hown hgr hnil
  go_wp2
  go_ret
  obtain ⟨g, cap, rfl, hg⟩ := own_form hown hnil
  exact ⟨g, cap, rfl, hown, ((Below.refl W.heap.size W).alloc (Nat.le_refl _) _).grown hgr (by simp) (fun k hk => by simp [Value.ownBlock] at hk; omega)⟩

theorem own_made (W : World) (n : Nat) (hn : n ≤ 1000) : (W.alloc (.cells (u64s (List.replicate n 0)).toArray 42)).ownsRow W.heap.size 42 1 (.slice (some ⟨W.heap.size, 0, none⟩) n n) n (u64s (List.replicate n 0)) :=
  ⟨by simp [u64s], .inr ⟨W.heap.size, n, _, rfl, Nat.le_refl _, heap_alloc_new W _, Nat.le_refl _, by simp [maxLen]; omega, by simp [u64s], by simp [u64s]⟩⟩

/-- What a row of words says, as a set does. -/
theorem own_set {w : World} {base h n room cap : Nat} {ws : List Nat} (ho : w.ownsRow base 42 1 (.slice (some ⟨h, 0, none⟩) n cap) n (u64s ws)) (hn : ws.length = n) (hr : n = (room + 63) / 64) (hr2 : room ≤ 4096)
    (hw : ∀ x, x ∈ ws → x < 18446744073709551616) : IsSet (w.alloc (.cells #[.int .i64 room, .slice (some ⟨h, 0, none⟩) n cap, .bool true] 55)) w.heap.size h room ws := by
  subst hn
  rcases ho.2 with ⟨h1, _⟩ | ⟨g', cap', cur, h1, hb, hh, hc, hm, hs, ht⟩
  · cases h1
  · injection h1 with a b c
    injection a with a
    injection a with a1
    subst a1 c
    rw [Nat.mul_one] at hs ht
    exact ⟨cap, cur, heap_alloc_new w _, (Below.heap_alloc w _ _ (Array.getElem?_eq_some_iff.1 hh).1).trans hh, hc, hm, hs, ht, hr, hr2, hw⟩

theorem made_words (n : Nat) : madeCells (Value.int .u64 0).cells (n * 1) = (u64s (List.replicate n 0)).toArray := by
  apply Array.ext
  · simp [madeCells, u64s]
  · intro i h1 h2
    simp [madeCells, u64s, Value.cells, Nat.mod_one]

set_option maxHeartbeats 400000 in
theorem New_ok (W : World) (n : Nat) (hn : n ≤ 4096) :
    Calls Tryd.prog 15 #[.int .i64 n] W fun e w' => ∃ g h, e = .returned (.tuple #[.pointer (some ⟨g, 0, none⟩), .int .i64 0]) ∧ IsSet w' g h n (List.replicate ((n + 63) / 64) 0) ∧ W.heap.size ≤ g ∧ W.heap.size ≤ h ∧ Below W.heap.size W w' := by
  obtain ⟨i0, hi, hz0, hz1, hz2⟩ := info_parts info42
  have hmk := run_make (P := Tryd.prog) W 32 42 i0 (.int .u64 0) Tryd.underlying32 hi hz0 .i64 .i64 (((n : Int) + 63) / 64) (((n : Int) + 63) / 64) (by omega) (by omega) (by rw [hz2]; omega) (by omega)
  rw [hz1, show (((n : Int) + 63) / 64).toNat = (n + 63) / 64 from by omega, made_words] at hmk
  go_enter Tryd.func15, Tryd.ntmps15
  go_wp2
  go_ret2
  have ho := own_made W ((n + 63) / 64) (by omega)
  have hs := own_set ho (by simp) rfl hn (fun x hx => by rw [List.eq_of_mem_replicate hx]; decide)
  rw [World.size_alloc] at hs
  exact ⟨W.heap.size + 1, W.heap.size, rfl, hs, by omega, by omega, ((Below.refl _ _).alloc (Nat.le_refl _) _).alloc (by simp) _⟩

set_option maxHeartbeats 400000 in
theorem New_bad (W : World) (n : Int) (hn : n < 0 ∨ 4096 < n) :
    Calls Tryd.prog 15 #[.int .i64 n] W fun e w' => e = .returned (.tuple #[.pointer none, .int .i64 30]) ∧ W = w' := by
  rcases hn with hn | hn
  · go_enter Tryd.func15, Tryd.ntmps15
    go_wp2
    go_ret2
    exact ⟨rfl, rfl⟩
  · have h' : ¬ n < 0 := by omega
    go_enter Tryd.func15, Tryd.ntmps15
    go_wp2
    go_ret2
    exact ⟨rfl, rfl⟩

/-- The words' cells, for Clone. -/
theorem IsSet.wordCells {W : World} {g h room : Nat} {ws : List Nat} (H : IsSet W g h room ws) : ∀ j u, (u64s ws)[j]? = some u → W.cell? ((⟨h, 0, none⟩ : Addr).add j) = some u := by
  intro j u hu
  have hj : j < ws.length := by
    rcases Nat.lt_or_ge j ws.length with h | h
    · exact h
    · simp [u64s, List.getElem?_eq_none h] at hu
  have e : (⟨h, 0, none⟩ : Addr).add j = ⟨h, j, none⟩ := by unfold Addr.add; split <;> simp_all
  rw [e, (H.word j hj).1]
  simp only [u64s, List.getElem?_map, List.getElem?_eq_getElem hj, Option.map_some, Option.some.injEq] at hu
  rw [← hu]; unfold wd; simp [List.getElem?_eq_getElem hj]

set_option maxHeartbeats 400000 in
theorem Words_set {W : World} {g h room : Nat} {ws : List Nat} (H : IsSet W g h room ws) :
    Calls Tryd.prog 32 #[.pointer (some ⟨g, 0, none⟩)] W fun e w' => ∃ k cap, e = .returned (.slice (some ⟨k, 0, none⟩) ws.length cap) ∧ w'.ownsRow W.heap.size 42 1 (.slice (some ⟨k, 0, none⟩) ws.length cap) ws.length (u64s ws) ∧ Below W.heap.size W w' := by
  obtain ⟨cap, h0, h1, h2, _⟩ := H.cells
  have al := Lib.hid (alive_set H)
  have hl : ws.length ≤ 17592186044416 := by have := H.len; omega
  have hc := Lib.hid (clone_words W ⟨h, 0, none⟩ ws cap H.wordCells hl)
  go_enter Tryd.func32, Tryd.ntmps32
  go_wp2_with (first | (go_at_call 42; refine al.out.mono ?_; rintro e w' ⟨rfl, rfl⟩) | (go_at_call 43; refine hc.out.mono ?_; rintro e w' ⟨k, cap, rfl, ho, hb⟩))
  go_ret
  exact ⟨k, _, rfl, ho, hb⟩
set_option maxHeartbeats 400000 in
theorem Words_dead {W : World} {v : Value} (H : Dead W v) :
    Calls Tryd.prog 32 #[v] W fun e w' => e = .returned (.slice none 0 0) ∧ W = w' := by
  have al := Lib.hid (alive_dead H)
  clear H
  go_enter Tryd.func32, Tryd.ntmps32
  go_wp2_with (go_at_call 42; refine al.out.mono ?_; rintro e w' ⟨rfl, rfl⟩)
  go_ret
  exact ⟨rfl, rfl⟩
set_option maxHeartbeats 400000 in
theorem Copy_dead {W : World} {v : Value} (H : Dead W v) :
    Calls Tryd.prog 17 #[v] W fun e w' => e = .returned (.pointer none) ∧ W = w' := by
  have al := Lib.hid (alive_dead H)
  clear H
  go_enter Tryd.func17, Tryd.ntmps17
  go_wp2_with (go_at_call 42; refine al.out.mono ?_; rintro e w' ⟨rfl, rfl⟩)
  go_ret
  exact ⟨rfl, rfl⟩
theorem heldS {W w2 : World} {g h room cap : Nat} {ws : List Nat} (H : IsSet W g h room ws) (h0 : W.cell? ⟨g, 0, none⟩ = some (.int .i64 room)) (h1 : W.cell? ⟨g, 1, none⟩ = some (.slice (some ⟨h, 0, none⟩) ws.length cap)) (hb : Below W.heap.size W w2) :
    w2.cell? ⟨g, 0, none⟩ = some (.int .i64 room) ∧ w2.cell? ⟨g, 1, none⟩ = some (.slice (some ⟨h, 0, none⟩) ws.length cap) ∧ IsSet w2 g h room ws ∧ Below W.heap.size W w2 :=
  ⟨(hb.cell (p := ⟨g, 0, none⟩) H.lt.1).trans h0, (hb.cell (p := ⟨g, 1, none⟩) H.lt.1).trans h1, H.below hb H.lt.1 H.lt.2.1, hb⟩

set_option maxHeartbeats 400000 in
theorem Copy_set {W : World} {g h room : Nat} {ws : List Nat} (H : IsSet W g h room ws) :
    Calls Tryd.prog 17 #[.pointer (some ⟨g, 0, none⟩)] W fun e w' => ∃ g' h', e = .returned (.pointer (some ⟨g', 0, none⟩)) ∧ IsSet w' g' h' room ws ∧ W.heap.size ≤ g' ∧ W.heap.size ≤ h' ∧ Below W.heap.size W w' := by
  obtain ⟨cap, h0, h1, h2, _⟩ := H.cells
  have al := Lib.hid (alive_set H)
  have hl : ws.length ≤ 17592186044416 := by have := H.len; omega
  have hc := Lib.hid (fun w2 (hs : IsSet w2 g h room ws) => clone_words w2 ⟨h, 0, none⟩ ws cap hs.wordCells hl)
  have hst := Lib.hid (fun (w2 : World) (k n cap : Nat) (ho : w2.ownsRow W.heap.size 42 1 (.slice (some ⟨k, 0, none⟩) ws.length cap) ws.length (u64s ws)) => own_set ho rfl H.len.1 H.len.2.1 H.len.2.2)
  go_enter Tryd.func17, Tryd.ntmps17
  go_wp2_with (first | (go_at_call 42; refine al.out.mono ?_; rintro e w' ⟨rfl, rfl⟩))
  go_region_held3 (fun w' => w'.cell? ⟨g, 0, none⟩ = some (.int .i64 room) ∧ w'.cell? ⟨g, 1, none⟩ = some (.slice (some ⟨h, 0, none⟩) ws.length cap) ∧ IsSet w' g h room ws ∧ Below W.heap.size W w')
    (first | exact heldS H h0 h1 (Below.refl _ _).drew | exact heldS H h0 h1 ((Below.refl _ _).drew.trans hb) | exact heldS H h0 h1 (((Below.refl _ _).drew.trans hb).alloc hb.size _))
    ((go_at_call 43; refine (hc.out W.drew (show IsSet W.drew g h room ws from H)).mono ?_; rintro e w2 ⟨k, cap2, rfl, ho, hb⟩))
  go_wp2
  go_ret
  exact ⟨w2.heap.size, k, rfl, hst.out w2 k 0 cap2 ho, hb.size, (ho.lt k rfl).1, ((Below.refl W.heap.size W).drew.trans hb).alloc hb.size _⟩
end Go.Proofs.YthfapneifbjlmaaDoor
end

section
namespace Go.Proofs.YthfapneifbjlmaaDoor
open Go.RowKit
set_option linter.unusedVariables false

theorem size42 : (Tryd.prog.info? 42).map (·.size) = some 1 := by kernel_rfl
theorem IsSet.copied {W : World} {g h room : Nat} {vs ws : List Nat} (H : IsSet W g h room vs) (hl : ws.length = vs.length) (hw : ∀ x, x ∈ ws → x < 18446744073709551616) :
    ∃ cur : Array Value, W.heap[h]? = some (.cells cur 42 (0, 0)) ∧ 0 + (u64s ws).length ≤ cur.size ∧ IsSet (W.setRow h (cur.toList.take 0 ++ (u64s ws ++ cur.toList.drop (0 + (u64s ws).length))).toArray) g h room ws := by
  have hne := H.lt.2.2
  obtain ⟨cap, cur, a, b, hc, hcm, hs, ht, h1, h2, h3⟩ := H
  refine ⟨cur, b, by simp [u64s]; omega, cap, _, ?_, setRow_heap W h cur _ 42 _ b, by omega, hcm, ?_, ?_, by omega, h2, hw⟩
  · rw [setRow_other W h g _ hne, hl]; exact a
  · simp [u64s]; omega
  · simp [u64s]

set_option maxHeartbeats 400000 in
theorem Of_ok (W : World) (n : Nat) (ad : Addr) (ws : List Nat) (c : Nat) (hcs : ∀ j u, (u64s ws)[j]? = some u → W.cell? (ad.add j) = some u) (hw : ∀ x, x ∈ ws → x < 18446744073709551616)
    (hn : n ≤ 4096) (hl : ws.length = (n + 63) / 64) (hlast : n % 64 = 0 ∨ wd ws (n / 64) / 2 ^ (n % 64) = 0) :
    Calls Tryd.prog 12 #[.int .i64 n, .slice (some ad) ws.length c] W fun e w' => ∃ g h, e = .returned (.tuple #[.pointer (some ⟨g, 0, none⟩), .int .i64 0]) ∧ IsSet w' g h n ws ∧ W.heap.size ≤ g ∧ W.heap.size ≤ h ∧ Below W.heap.size W w' := by
  have hnew := Lib.hid (New_ok W n hn)
  have HL := Lib.hid hl
  have HC := Lib.hid hcs
  clear hcs
  have hlen : (u64s ws).length = ws.length := by simp [u64s]
  have HLN := Lib.hid hlen
  clear hlen
  by_cases h64 : (n : Int) % 64 = 0
  · clear hl
    go_enter Tryd.func12, Tryd.ntmps12
    go_wp2_with (first | (go_at_call 15; refine hnew.out.mono ?_; rintro e w1 ⟨g, h, rfl, HS, hg, hh, hb⟩; obtain ⟨cap, h0, h1, h2, hcap⟩ := HS.cells; rw [List.length_replicate, ← HL.out] at h1 hcap; obtain ⟨cur, hcur, hfit, HS'⟩ := HS.copied (ws := ws) (by rw [List.length_replicate]; exact HL.out) hw; have HQ := Lib.hid hcur; have HF := Lib.hid hfit; clear hcur hfit) | (with_reducible refine wpList_copy_own rfl (.tmp 43) (.tmp 44) 32 32 rfl 42 Tryd.underlying32 size42 h 0 ws.length cap ad ws.length c rfl rfl cur 42 HQ.out (u64s ws) ?c1 ?c2 HF.out (u64s_one ws) ?_))
    case c1 => rw [HLN.out]; simp
    case c2 => exact fun j v hv => (hb.cell (World.block_lt_of_cell? W _ (HC.out j v hv))).trans (HC.out j v hv)
    go_wp2
    go_ret2
    exact ⟨g, h, rfl, by simpa using HS', hg, hh, below_setRow hb hh _⟩
  · have h64' : 0 < (n : Int) % 64 := by omega
    have hsh : (((wd ws (n / 64) : Nat) : Int) / (2 : Int) ^ (n % 64) != 0) = false := by
      have h := hlast.resolve_left (by omega)
      rw [bne_eq_false_iff_eq]
      have e : ((wd ws (n / 64) / 2 ^ (n % 64) : Nat) : Int) = ((wd ws (n / 64) : Nat) : Int) / (2 : Int) ^ (n % 64) := by push_cast; rfl
      rw [← e, h]; rfl
    have hx : 0 < (ws.length : Int) := by omega
    have hx2 : (ws.length : Int) ≤ 64 := by omega
    have ha : ad.add (ws.length - 1) = ad.add (n / 64) := by congr 1; omega
    have hword : W.cell? (ad.add (n / 64)) = some (.int .u64 (wd ws (n / 64))) := HC.out (n / 64) _ (by
      have hj : n / 64 < ws.length := by omega
      simp [u64s, wd, List.getElem?_eq_getElem hj])
    have HA := Lib.hid ha
    have HW := Lib.hid hword
    clear hl ha hword
    go_enter Tryd.func12, Tryd.ntmps12
    go_wp2_with (first | (go_at_call 15; refine hnew.out.mono ?_; rintro e w1 ⟨g, h, rfl, HS, hg, hh, hb⟩; obtain ⟨cap, h0, h1, h2, hcap⟩ := HS.cells; rw [List.length_replicate, ← HL.out] at h1 hcap; obtain ⟨cur, hcur, hfit, HS'⟩ := HS.copied (ws := ws) (by rw [List.length_replicate]; exact HL.out) hw; have HQ := Lib.hid hcur; have HF := Lib.hid hfit; clear hcur hfit; have hcw : w1.cell? (ad.add (ws.length - 1)) = some (.int .u64 (wd ws (n / 64))) := by rw [HA.out]; exact (hb.cell (World.block_lt_of_cell? W _ HW.out)).trans HW.out) | (with_reducible refine wpList_copy_own rfl (.tmp 43) (.tmp 44) 32 32 rfl 42 Tryd.underlying32 size42 h 0 ws.length cap ad ws.length c rfl rfl cur 42 HQ.out (u64s ws) ?c1 ?c2 HF.out (u64s_one ws) ?_))
    case c1 => rw [HLN.out]; simp
    case c2 => exact fun j v hv => (hb.cell (World.block_lt_of_cell? W _ (HC.out j v hv))).trans (HC.out j v hv)
    go_wp2
    go_ret2
    exact ⟨g, h, rfl, by simpa using HS', hg, hh, below_setRow hb hh _⟩

set_option maxHeartbeats 400000 in
theorem Of_room (W : World) (n : Int) (A : Option Addr) (m c : Nat) (hn : n < 0 ∨ 4096 < n) :
    Calls Tryd.prog 12 #[.int .i64 n, .slice A m c] W fun e w' => e = .returned (.tuple #[.pointer none, .int .i64 30]) ∧ Below W.heap.size W w' := by
  have hnew := Lib.hid (New_bad W n hn)
  clear hn
  go_enter Tryd.func12, Tryd.ntmps12
  go_wp2_with (first | (go_at_call 15; refine hnew.out.mono ?_; rintro e w1 ⟨rfl, rfl⟩))
  go_ret2
  exact ⟨rfl, Below.refl _ _⟩
set_option maxHeartbeats 400000 in
theorem Of_length (W : World) (n : Nat) (A : Option Addr) (m c : Nat) (hn : n ≤ 4096) (hm : m ≠ (n + 63) / 64) :
    Calls Tryd.prog 12 #[.int .i64 n, .slice A m c] W fun e w' => e = .returned (.tuple #[.pointer none, .int .i64 30]) ∧ Below W.heap.size W w' := by
  have hnew := Lib.hid (New_ok W n hn)
  have hne : ((m : Int) != (((n + 63) / 64 : Nat) : Int)) = true := by rw [bne_iff_ne]; omega
  have hnz : ∃ L : Nat, L = (n + 63) / 64 := ⟨_, rfl⟩
  obtain ⟨L, hL⟩ := hnz
  rw [← hL] at hne
  have HL := Lib.hid hL
  clear hL hm
  go_enter Tryd.func12, Tryd.ntmps12
  go_wp2_with (first | (go_at_call 15; refine hnew.out.mono ?_; rintro e w1 ⟨g, h, rfl, HS, hg, hh, hb⟩; obtain ⟨cap, h0, h1, h2, hcap⟩ := HS.cells; rw [List.length_replicate, ← HL.out] at h1 hcap))
  go_ret2
  exact ⟨rfl, hb⟩
set_option maxHeartbeats 400000 in
theorem Of_high (W : World) (n : Nat) (ad : Addr) (ws : List Nat) (c : Nat) (hcs : ∀ j u, (u64s ws)[j]? = some u → W.cell? (ad.add j) = some u)
    (hn : n ≤ 4096) (hl : ws.length = (n + 63) / 64) (h64 : n % 64 ≠ 0) (hlast : wd ws (n / 64) / 2 ^ (n % 64) ≠ 0) :
    Calls Tryd.prog 12 #[.int .i64 n, .slice (some ad) ws.length c] W fun e w' => e = .returned (.tuple #[.pointer none, .int .i64 30]) ∧ Below W.heap.size W w' := by
  have hnew := Lib.hid (New_ok W n hn)
  have HL := Lib.hid hl
  have h64' : 0 < (n : Int) % 64 := by omega
  have hsh : (((wd ws (n / 64) : Nat) : Int) / (2 : Int) ^ (n % 64) != 0) = true := by
    rw [bne_iff_ne]
    have e : ((wd ws (n / 64) / 2 ^ (n % 64) : Nat) : Int) = ((wd ws (n / 64) : Nat) : Int) / (2 : Int) ^ (n % 64) := by push_cast; rfl
    rw [← e]; omega
  have hb64 : ((n : Int) % 64 != 0) = true := by rw [bne_iff_ne]; omega
  have hx : 0 < (ws.length : Int) := by omega
  have hx2 : (ws.length : Int) ≤ 64 := by omega
  have ha : ad.add (ws.length - 1) = ad.add (n / 64) := by congr 1; omega
  have hword : W.cell? (ad.add (n / 64)) = some (.int .u64 (wd ws (n / 64))) := hcs (n / 64) _ (by
    have hj : n / 64 < ws.length := by omega
    simp [u64s, wd, List.getElem?_eq_getElem hj])
  have HA := Lib.hid ha
  have HW := Lib.hid hword
  clear hl ha hword hcs hlast h64
  go_enter Tryd.func12, Tryd.ntmps12
  go_wp2_with (first | (go_at_call 15; refine hnew.out.mono ?_; rintro e w1 ⟨g, h, rfl, HS, hg, hh, hb⟩; obtain ⟨cap, h0, h1, h2, hcap⟩ := HS.cells; rw [List.length_replicate, ← HL.out] at h1 hcap; have hcw : w1.cell? (ad.add (ws.length - 1)) = some (.int .u64 (wd ws (n / 64))) := by rw [HA.out]; exact (hb.cell (World.block_lt_of_cell? W _ HW.out)).trans HW.out))
  go_ret2
  exact ⟨rfl, hb⟩
end Go.Proofs.YthfapneifbjlmaaDoor
end

section
namespace Go.Proofs.YthfapneifbjlmaaDoor
open Go.RowKit
set_option linter.unusedVariables false

/-- From W to W' nothing but the blocks of M has turned (and new blocks have come). -/
structure Fr (M : Nat → Prop) (W W' : World) : Prop where
  os : W'.os = W.os
  tape : W'.tape = W.tape
  output : W'.output = W.output
  size : W.heap.size ≤ W'.heap.size
  block : ∀ k, k < W.heap.size → ¬ M k → W'.heap[k]? = W.heap[k]?
theorem Fr.refl (M : Nat → Prop) (W : World) : Fr M W W := ⟨rfl, rfl, rfl, Nat.le_refl _, fun _ _ _ => rfl⟩
theorem Fr.trans {M : Nat → Prop} {a b c : World} (h : Fr M a b) (k : Fr M b c) : Fr M a c :=
  ⟨k.os.trans h.os, k.tape.trans h.tape, k.output.trans h.output, Nat.le_trans h.size k.size, fun i hi hm => (k.block i (Nat.lt_of_lt_of_le hi h.size) hm).trans (h.block i hi hm)⟩
/-- The second step may turn more of what is new. -/
theorem Fr.then_ {M M' : Nat → Prop} {a b c : World} (h : Fr M a b) (k : Fr M' b c) (hm : ∀ i, i < a.heap.size → M' i → M i) : Fr M a c :=
  ⟨k.os.trans h.os, k.tape.trans h.tape, k.output.trans h.output, Nat.le_trans h.size k.size, fun i hi hn => (k.block i (Nat.lt_of_lt_of_le hi h.size) (fun h2 => hn (hm i hi h2))).trans (h.block i hi hn)⟩
theorem Fr.mono {M M' : Nat → Prop} {a b : World} (h : Fr M a b) (hm : ∀ k, k < a.heap.size → M k → M' k) : Fr M' a b := ⟨h.os, h.tape, h.output, h.size, fun i hi hn => h.block i hi (fun h2 => hn (hm i hi h2))⟩
theorem Fr.of_grownBy {a b : World} {row : Option Nat} (h : a.grownBy b row) : Fr (fun k => some k = row) a b := ⟨h.os, h.tape, h.output, h.size, fun i hi hn => h.block i hi hn⟩
theorem Fr.of_below {M : Nat → Prop} {a b : World} (h : Below a.heap.size a b) : Fr M a b := ⟨h.os, h.tape, h.output, h.size, fun i hi _ => h.block i hi⟩
theorem Fr.drewN (M : Nat → Prop) (w : World) (n : Nat) : Fr M w (w.drewN n) := ⟨rfl, rfl, rfl, Nat.le_refl _, fun _ _ _ => rfl⟩
theorem Fr.alloc (M : Nat → Prop) (w : World) (o : Obj) : Fr M w (w.alloc o) := .of_below ((Below.refl _ w).alloc (Nat.le_refl _) o)
theorem Fr.setCell {M : Nat → Prop} (w : World) (p : Addr) (v : Value) (h : p.block < w.heap.size → M p.block) : Fr M w (w.setCell p v) :=
  ⟨rfl, rfl, rfl, by simp [World.setCell], fun k hk hn => Below.heap_setCell w p v k (fun e => hn (by subst e; exact h hk))⟩
theorem Fr.putObj {M : Nat → Prop} (w : World) (r : Nat) (o : Obj) (h : M r) : Fr M w (w.putObj r o) :=
  ⟨rfl, rfl, rfl, by simp, fun k hk hn => World.putObj_heap_other (fun e => hn (e ▸ h))⟩
/-- What lay below B and is not in M. -/
theorem Fr.below {M : Nat → Prop} {a b : World} (h : Fr M a b) (hm : ∀ k, k < a.heap.size → ¬ M k) : Below a.heap.size a b := ⟨h.os, h.tape, h.output, h.size, fun i hi => h.block i hi (hm i hi)⟩
theorem Fr.cell {M : Nat → Prop} {a b : World} (h : Fr M a b) {p : Addr} {v : Value} (hc : a.cell? p = some v) (hn : ¬ M p.block) : b.cell? p = some v :=
  (World.cell?_of_block (h.block p.block (World.block_lt_of_cell? a p hc) hn)).trans hc

/-- What is said of a set of blocks alone. -/
def Foot {β : Type} (J : β → World → (Nat → Prop) → Prop) : Prop := ∀ s W W' D, J s W D → (∀ k, D k → W'.heap[k]? = W.heap[k]?) → J s W' D

/-- What a round leaves: it has turned what was its own, and what was handed to it; what is its own now was so, was handed to it, or is new. -/
structure Round (D H : Nat → Prop) (W W' : World) (D' : Nat → Prop) : Prop where
  fr : Fr (fun k => D k ∨ H k) W W'
  own : ∀ k, D' k → (D k ∨ H k ∨ W.heap.size ≤ k) ∧ k < W'.heap.size

/-- AN ITERATOR's CONTRACT. -/
def SeqSep {α : Type} (P : Program) (g : Nat) (lb : Array Value) (encs : α → Array Value) (Hand : α → Nat → Prop) (Pre : α → World → Prop) (S Sp : List α → Prop) (Iw : World → (Nat → Prop) → Prop) : Prop :=
  ∀ (l n : Nat) (J Jx : List α → World → (Nat → Prop) → Prop) (W : World) (D : Nat → Prop), Iw W D → (∀ k, D k → k < W.heap.size) → Foot J → Foot Jx → J [] W D →
    (∀ pre x W1 D1, J pre W1 D1 → (∀ k, D1 k → k < W1.heap.size) → Pre x W1 → (∀ k, Hand x k → ¬ D1 k) →
      YieldAt Fence.wide n P l (encs x) W1 fun e W' => ∃ D', Round D1 (Hand x) W1 W' D' ∧ ((e = .returned (.bool true) ∧ J (pre ++ [x]) W' D') ∨ (e = .returned (.bool false) ∧ Jx (pre ++ [x]) W' D'))) →
    CallsIn Fence.wide (n + 1) P g (#[.func (.yield l) #[] #[]] ++ lb) W fun e W' => (∃ v, e = .returned v) ∧ ∃ D', Fr D W W' ∧ (∀ k, D' k → (D k ∨ W.heap.size ≤ k) ∧ k < W'.heap.size) ∧
      ((∃ xs, S xs ∧ J xs W' D') ∨ (∃ pre, Sp pre ∧ Jx pre W' D'))

/-- How the body of a round may be left. -/
def sepPost {α : Type} (I : List α → World → (Nat → Prop) → Prop) (Ix : Code → List α → World → (Nat → Prop) → Prop) (xs : List α) (D H : Nat → Prop) (W : World) : Exit → Act → World → Prop
  | .normal, _, W' => ∃ D', Round D H W W' D' ∧ I xs W' D'
  | .ret, _, W' => ∃ D', Round D H W W' D' ∧ Ix .ret xs W' D'
  | .exit id, _, W' => ∃ D', Round D H W W' D' ∧ Ix (.exit id) xs W' D'
  | .goto t, _, W' => ∃ D', Round D H W W' D' ∧ Ix (.goto t) xs W' D'
  | .panic _, _, _ => False
  | .outgrown, _, _ => False

/-- THE LAW. -/
theorem rangeFunc_sep {α : Type} {P : Program} {n : Nat} {g : Operand} {ps : Array Tmp} {assign body : Code} {Q : Exit → Act → World → Prop} {a : Act} {w : World}
    {gf : Nat} {lb : Array Value} (hg : a.eval g = .func (.func gf) #[] lb) (eg : ∀ args w, (callFunc gf args).run P w = .ok (.enter gf args) w)
    {encs : α → Array Value} {Hand : α → Nat → Prop} {Pre : α → World → Prop} {S Sp : List α → Prop} {Iw : World → (Nat → Prop) → Prop} (hseq : SeqSep P gf lb encs Hand Pre S Sp Iw)
    (hps : ∀ x, (encs x).size = ps.size) (hPre : ∀ x W W', (∀ k, Hand x k → W'.heap[k]? = W.heap[k]?) → Pre x W → Pre x W')
    (I : List α → World → (Nat → Prop) → Prop) (Ix : Code → List α → World → (Nat → Prop) → Prop) (D0 : Nat → Prop) (hD0 : ∀ k, D0 k → k < w.heap.size) (hI : Foot I) (hIx : ∀ c, Foot (Ix c)) (h0 : I [] w D0)
    (hIw : ∀ W1 D1, Below w.heap.size w W1 → (∀ k, D1 k → D0 k ∨ w.heap.size ≤ k) → Iw W1 D1) (a₁ : α → Act)
    (hassign : ∀ (l : Nat) (x : α) (W : World) (K : Act → World → Prop), K (a₁ x) W →
      assign.wpIn (Fence.wide.inRound l) n P (Exit.then K (fun _ _ _ => False)) { tmps := (ps.zip (encs x)).foldl (fun t (p, v) => t.setIfInBounds p v) a.tmps, defers := [] } W)
    (hbody : ∀ (l : Nat) (pre : List α) (x : α) (W : World) (D : Nat → Prop), I pre W D → (∀ k, D k → k < W.heap.size) → Pre x W → (∀ k, Hand x k → ¬ D k) → w.heap.size ≤ W.heap.size →
      body.wpIn (Fence.wide.inRound l) n P (sepPost I Ix (pre ++ [x]) D (Hand x) W) (a₁ x) W)
    (hdone : ∀ (xs : List α) (W : World) (D : Nat → Prop), S xs → I xs W D → Fr D0 w W → W.heap[w.heap.size]? = some (.deferred (some [])) → ¬ D w.heap.size → (∀ k, D k → D0 k ∨ w.heap.size ≤ k) → Q .normal { a with defers := { target := .collected w.heap.size, args := #[] } :: a.defers } W)
    (hstop : ∀ (c : Code) (pre : List α) (W : World) (D : Nat → Prop), Sp pre → Ix c pre W D → Fr D0 w W → W.heap[w.heap.size]? = some (.deferred (some [])) → ¬ D w.heap.size → (∀ k, D k → D0 k ∨ w.heap.size ≤ k) → c.wpIn Fence.wide (n + 2) P Q { a with defers := { target := .collected w.heap.size, args := #[] } :: a.defers } W) :
    (Code.rangeFunc g ps assign body).wpIn Fence.wide (n + 2) P Q a w := by
  refine wpIn_rangeFunc ?_
  intro fn hfn
  rw [show Fence.wide.round = none from rfl]
  obtain ⟨rec, hrec⟩ : ∃ rec : LoopState → Option Code → Loop, rec = fun st pe => { state := st, pending := pe, fn, tmps := a.tmps, params := ps, assign, body, defers := w.heap.size } := ⟨_, rfl⟩
  obtain ⟨W1, hW1⟩ : ∃ W1, (w.alloc (.deferred (some []))).alloc (.loop (rec .ready none)) = W1 := ⟨_, rfl⟩
  have hL1 : W1.heap[w.heap.size + 1]? = some (.loop (rec .ready none)) := by
    rw [← hW1]; have := World.alloc_heap_new (w.alloc (.deferred (some []))) (.loop (rec .ready none)); rwa [World.size_alloc] at this
  have hK1 : W1.heap[w.heap.size]? = some (.deferred (some [])) := by
    rw [← hW1]; exact (Below.heap_alloc _ _ _ (by simp)).trans (World.alloc_heap_new w _)
  have hbw : Below w.heap.size w W1 := by rw [← hW1]; exact ((Below.refl _ w).alloc (Nat.le_refl _) _).alloc (by simp) _
  have hsz : W1.heap.size = w.heap.size + 2 := by rw [← hW1]; simp
  have hI1 : I [] W1 D0 := hI _ _ _ _ h0 (fun k hk => hbw.block k (hD0 k hk))
  refine ⟨w.heap.size + 1, [{ target := .collected w.heap.size, args := #[] }], W1, { target := .fn (.func gf) lb, args := #[.func (.yield (w.heap.size + 1)) #[] #[]] }, W1, gf,
    #[.func (.yield (w.heap.size + 1)) #[] #[]] ++ lb, W1, ?_, ?_, ?_, ?_, (fun h => by cases h), ?_⟩
  · rw [← hW1, hrec]; exact run_enterLoop_outer _ _ _ _ _
  · simp only [resolve, hg]
    simp [go_sem]
  · intro f' hf'; trivial
  · simp [invoke, go_sem, eg]
  · let M : Nat → Prop := fun k => k = w.heap.size ∨ k = w.heap.size + 1
    refine (hseq (w.heap.size + 1) n
      (fun pre W E => ∃ D, (∀ k, D k → k ≠ w.heap.size ∧ k ≠ w.heap.size + 1) ∧ (∀ k, E k ↔ D k ∨ M k) ∧ I pre W D ∧ W.heap[w.heap.size + 1]? = some (.loop (rec .ready none)) ∧ W.heap[w.heap.size]? = some (.deferred (some [])))
      (fun pre W E => ∃ c D, (∀ k, D k → k ≠ w.heap.size ∧ k ≠ w.heap.size + 1) ∧ (∀ k, E k ↔ D k ∨ M k) ∧ Ix c pre W D ∧ W.heap[w.heap.size + 1]? = some (.loop (rec .done (some c))) ∧ W.heap[w.heap.size]? = some (.deferred (some [])))
      W1 (fun k => D0 k ∨ M k)
      (hIw _ _ hbw (fun k hk => hk.imp id (fun h => by rcases h with rfl | rfl <;> omega)))
      (fun k hk => by
        rcases hk with h | h
        · have := hD0 k h; omega
        · rcases h with rfl | rfl <;> omega)
      ?foot1 ?foot2 ⟨D0, fun k hk => by have := hD0 k hk; omega, fun k => Iff.rfl, hI1, hL1, hK1⟩ ?round).mono ?behind
    case foot1 =>
      rintro s A B E ⟨D, hd, hE, hi, hl, hk⟩ hag
      exact ⟨D, hd, hE, hI _ _ _ _ hi (fun k hk => hag k ((hE k).2 (.inl hk))), (hag _ ((hE _).2 (.inr (.inr rfl)))).trans hl, (hag _ ((hE _).2 (.inr (.inl rfl)))).trans hk⟩
    case foot2 =>
      rintro s A B E ⟨c, D, hd, hE, hi, hl, hk⟩ hag
      exact ⟨c, D, hd, hE, hIx c _ _ _ _ hi (fun k hk => hag k ((hE k).2 (.inl hk))), (hag _ ((hE _).2 (.inr (.inr rfl)))).trans hl, (hag _ ((hE _).2 (.inr (.inl rfl)))).trans hk⟩
    case round =>
      rintro pre x W E ⟨D, hd, hE, hi, hl, hk⟩ hEb hpre hhand
      have hlt : w.heap.size + 1 < W.heap.size := (Array.getElem?_eq_some_iff.1 hl).1
      have hy := run_yield (P := P) (args := encs x) hl (by rw [hrec]; exact hps x)
      rw [hrec] at hy
      refine ⟨fn, _, assign, body, hy, roundIn_of_wpIn hfn (hassign _ x W _ ⟨_, run_beginRound hl (by rw [hrec]), ?_⟩)⟩
      have hl2 : (W.putObj (w.heap.size + 1) (.loop { rec .ready none with state := .busy })).heap[w.heap.size + 1]? = some (.loop { rec .ready none with state := .busy }) := World.putObj_heap_same hlt
      have hk2 : (W.putObj (w.heap.size + 1) (.loop { rec .ready none with state := .busy })).heap[w.heap.size]? = some (.deferred (some [])) := (World.putObj_heap_other (by omega)).trans hk
      have hnl : ∀ k, D k ∨ Hand x k → k ≠ w.heap.size ∧ k ≠ w.heap.size + 1 := by
        rintro k (h | h)
        · exact hd k h
        · exact ⟨fun e => hhand k h ((hE k).2 (.inr (.inl e))), fun e => hhand k h ((hE k).2 (.inr (.inr e)))⟩
      have hi2 : I pre (W.putObj (w.heap.size + 1) (.loop { rec .ready none with state := .busy })) D := hI _ _ _ _ hi (fun k hk => World.putObj_heap_other (hd k hk).2)
      have hp2 := hPre x W (W.putObj (w.heap.size + 1) (.loop { rec .ready none with state := .busy })) (fun k hk => World.putObj_heap_other (hnl k (.inr hk)).2) hpre
      refine wpIn_mono (hbody _ pre x _ D hi2 (fun k hk => by rw [World.putObj_size]; exact hEb k ((hE k).2 (.inl hk))) hp2 (fun k hk h => hhand k hk ((hE k).2 (.inl h))) (by rw [World.putObj_size]; omega)) ?_
      have fin : ∀ (jump : Option Code) (W3 : World) (D3 : Nat → Prop), Round D (Hand x) (W.putObj (w.heap.size + 1) (.loop { rec .ready none with state := .busy })) W3 D3 →
          (Instr.endRound (w.heap.size + 1) jump).run P W3 = .ok (.bool jump.isNone) (W3.putObj (w.heap.size + 1) (.loop (rec (if jump.isNone then .ready else .done) jump))) ∧
          (W3.putObj (w.heap.size + 1) (.loop (rec (if jump.isNone then .ready else .done) jump))).heap[w.heap.size + 1]? = some (.loop (rec (if jump.isNone then .ready else .done) jump)) ∧
          (W3.putObj (w.heap.size + 1) (.loop (rec (if jump.isNone then .ready else .done) jump))).heap[w.heap.size]? = some (.deferred (some [])) ∧
          Round E (Hand x) W (W3.putObj (w.heap.size + 1) (.loop (rec (if jump.isNone then .ready else .done) jump))) (fun k => D3 k ∨ M k) ∧ (∀ k, D3 k → k ≠ w.heap.size ∧ k ≠ w.heap.size + 1) := fun jump W3 D3 hR => by
        have hs3 := hR.fr.size
        rw [World.putObj_size] at hs3
        have hl3 := (hR.fr.block (w.heap.size + 1) (by rw [World.putObj_size]; exact hlt) (fun h => (hnl _ h).2 rfl)).trans hl2
        have hk3 := (hR.fr.block w.heap.size (by rw [World.putObj_size]; omega) (fun h => (hnl _ h).1 rfl)).trans hk2
        have := run_endRound (P := P) jump hl3
        rw [hrec] at this ⊢
        refine ⟨this, World.putObj_heap_same (Array.getElem?_eq_some_iff.1 hl3).1, (World.putObj_heap_other (by omega)).trans hk3, ⟨?_, fun k hk => ?_⟩, fun k hk => ?_⟩
        · refine Fr.trans (Fr.putObj W _ _ (.inl ((hE _).2 (.inr (.inr rfl))))) (Fr.trans (hR.fr.mono (fun k _ h => h.imp (fun h => (hE k).2 (.inl h)) id)) (Fr.putObj W3 _ _ (.inl ((hE _).2 (.inr (.inr rfl))))))
        · rcases hk with hk | hk
          · obtain ⟨h1, h2⟩ := hR.own k hk
            rw [World.putObj_size] at h1 ⊢
            exact ⟨h1.imp (fun h => (hE k).2 (.inl h)) id, h2⟩
          · refine ⟨.inl ((hE k).2 (.inr hk)), ?_⟩
            rw [World.putObj_size]
            rcases hk with rfl | rfl <;> omega
        · obtain ⟨h1, h2⟩ := hR.own k hk
          rw [World.putObj_size] at h1
          rcases h1 with h1 | h1 | h1
          · exact hnl k (.inl h1)
          · exact hnl k (.inr h1)
          · omega
      rintro e a3 W3 hp
      have keepI : ∀ (A B : World) (D3 : Nat → Prop) (o : Obj), (∀ k, D3 k → k ≠ w.heap.size ∧ k ≠ w.heap.size + 1) → ∀ k, D3 k → (A.putObj (w.heap.size + 1) o).heap[k]? = A.heap[k]? := fun A _ D3 o h k hk => World.putObj_heap_other (h k hk).2
      cases e with
      | normal =>
        obtain ⟨D3, hR, hi3⟩ := hp
        obtain ⟨hr, hl4, hk4, hRR, hD3⟩ := fin none W3 D3 hR
        exact ⟨_, _, hr, _, hRR, .inl ⟨rfl, D3, hD3, fun k => Iff.rfl, hI _ _ _ _ hi3 (keepI W3 W3 D3 _ hD3), hl4, hk4⟩⟩
      | ret =>
        obtain ⟨D3, hR, hi3⟩ := hp
        obtain ⟨hr, hl4, hk4, hRR, hD3⟩ := fin (some .ret) W3 D3 hR
        exact ⟨_, _, hr, _, hRR, .inr ⟨rfl, .ret, D3, hD3, fun k => Iff.rfl, hIx _ _ _ _ _ hi3 (keepI W3 W3 D3 _ hD3), hl4, hk4⟩⟩
      | exit id =>
        obtain ⟨D3, hR, hi3⟩ := hp
        obtain ⟨hr, hl4, hk4, hRR, hD3⟩ := fin (some (.exit id)) W3 D3 hR
        exact ⟨_, _, hr, _, hRR, .inr ⟨rfl, .exit id, D3, hD3, fun k => Iff.rfl, hIx _ _ _ _ _ hi3 (keepI W3 W3 D3 _ hD3), hl4, hk4⟩⟩
      | goto t =>
        obtain ⟨D3, hR, hi3⟩ := hp
        obtain ⟨hr, hl4, hk4, hRR, hD3⟩ := fin (some (.goto t)) W3 D3 hR
        exact ⟨_, _, hr, _, hRR, .inr ⟨rfl, .goto t, D3, hD3, fun k => Iff.rfl, hIx _ _ _ _ _ hi3 (keepI W3 W3 D3 _ hD3), hl4, hk4⟩⟩
      | panic ch => exact hp.elim
      | outgrown => exact hp.elim
    case behind =>
      have fin2 : ∀ (W2 : World) (o : Obj), Fr (fun k => D0 k ∨ M k) W1 W2 → Fr D0 w (W2.putObj (w.heap.size + 1) o) := fun W2 o hf =>
        ⟨hf.os.trans hbw.os, hf.tape.trans hbw.tape, hf.output.trans hbw.output, by rw [World.putObj_size]; have := hf.size; omega, fun k hk hn => (World.putObj_heap_other (by omega)).trans ((hf.block k (by omega) (fun h => h.elim hn (fun h => by rcases h with rfl | rfl <;> omega))).trans (hbw.block k hk))⟩
      have fin3 : ∀ (E D : Nat → Prop), (∀ k, E k ↔ D k ∨ M k) → (∀ k, D k → k ≠ w.heap.size ∧ k ≠ w.heap.size + 1) → (∀ k, E k → (D0 k ∨ M k) ∨ W1.heap.size ≤ k) → ∀ k, D k → D0 k ∨ w.heap.size ≤ k := fun E D hE hd hb k hk => by
        rcases hb k ((hE k).2 (.inl hk)) with (h | h) | h
        · exact .inl h
        · rcases h with rfl | rfl <;> exact .inr (by omega)
        · exact .inr (by omega)
      rintro e W2 ⟨⟨v, rfl⟩, E, hfr, hEE, (⟨xs, hS, D, hd, hE, hi, hl, hk⟩ | ⟨pre, hSp, c, D, hd, hE, hi, hl, hk⟩)⟩
      · exact ⟨none, _, by have := run_endLoop (P := P) hl (by rw [hrec]; simp); rw [hrec] at this; exact this,
          hdone xs _ D hS (hI _ _ _ _ hi (fun k hk => World.putObj_heap_other (hd k hk).2)) (fin2 _ _ hfr) ((World.putObj_heap_other (by omega)).trans hk) (fun h => (hd _ h).1 rfl) (fin3 E D hE hd (fun k hk => (hEE k hk).1))⟩
      · exact ⟨some c, _, by have := run_endLoop (P := P) hl (by rw [hrec]; simp); rw [hrec] at this; exact this,
          hstop c pre _ D hSp (hIx c _ _ _ _ hi (fun k hk => World.putObj_heap_other (hd k hk).2)) (fin2 _ _ hfr) ((World.putObj_heap_other (by omega)).trans hk) (fun h => (hd _ h).1 rfl) (fin3 E D hE hd (fun k hk => (hEE k hk).1))⟩
#print axioms rangeFunc_sep
end Go.Proofs.YthfapneifbjlmaaDoor
end

section
namespace Go.Proofs.YthfapneifbjlmaaDoor
set_option linter.unusedVariables false
set_option linter.unusedSimpArgs false

theorem filter_first (p : Nat → Bool) (k : Nat) (hk : p k = true) (hlo : ∀ j, j < k → p j = false) : ∀ n, k < n → (List.range n).filter p = k :: (List.range n).filter (fun j => p j && decide (j ≠ k))
  | 0, h => by omega
  | n + 1, h => by
    rw [List.range_succ, List.filter_append, List.filter_append]
    by_cases hkn : k < n
    · rw [filter_first p k hk hlo n hkn]
      have : n ≠ k := by omega
      simp [List.filter_cons, this]
    · have e : k = n := by omega
      subst e
      have h1 : (List.range k).filter p = [] := by
        rw [List.filter_eq_nil_iff]; intro j hj; rw [hlo j (List.mem_range.1 hj)]; simp
      have h2 : (List.range k).filter (fun j => p j && decide (j ≠ k)) = [] := by
        rw [List.filter_eq_nil_iff]; intro j hj; rw [hlo j (List.mem_range.1 hj)]; simp
      rw [h1, h2]
      simp [List.filter_cons, hk]

/-- The bits of a word. -/
def wbits (w : Nat) : List Nat := (List.range 64).filter fun j => w.testBit j
theorem wbits_zero : wbits 0 = [] := by unfold wbits; rw [List.filter_eq_nil_iff]; intro j _; simp

theorem drop_bits (k m : Nat) : ∀ j, ((2 ^ k * (2 * m + 1)) &&& (2 ^ k * (2 * m + 1) - 1)).testBit j = ((2 ^ k * (2 * m + 1)).testBit j && decide (j ≠ k)) := by
  intro j
  have hp : 0 < 2 ^ k := Nat.two_pow_pos _
  have e : 2 ^ k * (2 * m + 1) - 1 = 2 ^ k * (2 * m) + (2 ^ k - 1) := by
    have : 2 ^ k * (2 * m + 1) = 2 ^ k * (2 * m) + 2 ^ k := by rw [Nat.mul_add]; omega
    omega
  rw [Nat.testBit_and, e]
  by_cases hj : j < k
  · rw [Nat.testBit_two_pow_mul]
    have : ¬ (k ≤ j) := by omega
    simp [this]
  · have hkj : k ≤ j := by omega
    have h1 : (2 ^ k * (2 * m) + (2 ^ k - 1)).testBit j = (2 * m).testBit (j - k) := by
      have hlt : 2 ^ k - 1 < 2 ^ k := by omega
      rw [Nat.testBit_two_pow_mul_add _ hlt, if_neg hj]
    rw [h1, Nat.testBit_two_pow_mul]
    by_cases hjk : j = k
    · subst hjk; simp
    · obtain ⟨d, hd⟩ : ∃ d, j - k = d + 1 := ⟨j - k - 1, by omega⟩
      rw [hd, Nat.testBit_succ, Nat.testBit_succ]
      have : (2 * m + 1) / 2 = m := by omega
      rw [this]
      simp [hkj, hjk]

theorem wbits_step (w : Nat) (h0 : w ≠ 0) (h : w < 18446744073709551616) : wbits w = Lib.ctz 64 w :: wbits (w &&& (w - 1)) ∧ Lib.ctz 64 w < 64 := by
  obtain ⟨m, hm, hk⟩ := Lib.ctzFrom_spec 64 w (by omega) (by simpa using h)
  have hc : Lib.ctz 64 w = Lib.ctzFrom 64 w := by simp [Lib.ctz, h0]
  rw [hc]
  refine ⟨?_, hk⟩
  generalize Lib.ctzFrom 64 w = k at *
  subst hm
  unfold wbits
  rw [filter_first _ k (by rw [Nat.testBit_two_pow_mul]; simp) (fun j hj => by rw [Nat.testBit_two_pow_mul]; simp; omega) 64 hk]
  congr 1
  apply List.filter_congr
  intro j _
  rw [drop_bits]
theorem step_lt (w : Nat) (h0 : w ≠ 0) : w &&& (w - 1) < w := by
  have := Nat.and_le_right (n := w) (m := w - 1)
  omega

/-- The numbers of a row of words, the first of which is word i. -/
def mems : Nat → List Nat → List Nat
  | _, [] => []
  | i, w :: ws => (wbits w).map (fun j => 64 * i + j) ++ mems (i + 1) ws
theorem mems_snoc (w : Nat) : ∀ (ws : List Nat) (i : Nat), mems i (ws ++ [w]) = mems i ws ++ (wbits w).map (fun j => 64 * (i + ws.length) + j)
  | [], i => by simp [mems]
  | v :: ws, i => by
    simp only [List.cons_append, mems, List.length_cons]
    rw [mems_snoc w ws (i + 1), List.append_assoc, show i + 1 + ws.length = i + (ws.length + 1) from by omega]
theorem mems_append (us : List Nat) : ∀ (ws : List Nat) (i : Nat), mems i (ws ++ us) = mems i ws ++ mems (i + ws.length) us
  | [], i => by simp [mems]
  | v :: ws, i => by
    simp only [List.cons_append, mems, List.length_cons]
    rw [mems_append us ws (i + 1), List.append_assoc, show i + 1 + ws.length = i + (ws.length + 1) from by omega]
theorem mems_take (ws : List Nat) (k : Nat) : mems 0 (ws.take k) <+: mems 0 ws := by
  have h := mems_append (ws.drop k) (ws.take k) 0
  rw [List.take_append_drop] at h
  exact ⟨_, h.symm⟩
theorem mems_lt : ∀ (ws : List Nat) (i x : Nat), x ∈ mems i ws → x < 64 * (i + ws.length)
  | [], i, x, h => by simp [mems] at h
  | w :: ws, i, x, h => by
    simp only [mems, List.mem_append, List.mem_map] at h
    rcases h with ⟨j, hj, rfl⟩ | h
    · have := List.mem_range.1 (List.mem_filter.1 hj).1
      simp only [List.length_cons]; omega
    · have := mems_lt ws (i + 1) x h
      simp only [List.length_cons]; omega
end Go.Proofs.YthfapneifbjlmaaDoor
end

section
namespace Go.Proofs.YthfapneifbjlmaaDoor
open Go.RowKit Go.Shelf
attribute [local go_sem] Oper.semAt_some
set_option linter.unusedVariables false
set_option linter.unusedSimpArgs false

/-- math/bits's table, as its variable holds it. -/
def Tab (w : World) : Prop := ∀ j, j < 64 → w.cell? ⟨0, j, none⟩ = some (.int .u8 (Lib.deBruijn64tab.getD j 0))
theorem Tab.kept {M : Nat → Prop} {a b : World} (h : Tab a) (hf : Fr M a b) (hn : ¬ M 0) : Tab b := fun j hj => hf.cell (h j hj) hn

theorem tz_key (x a : Nat) (hx : x < 18446744073709551616) (hx0 : x ≠ 0) (hlow : x &&& (18446744073709551616 - x) = a) :
    IntKind.u64.wrap (bits BinOp.and IntKind.u64 (x : Int) (IntKind.u64.wrap (-(x : Int))) * 285870213051353865) / 288230376151711744 = ((a * 285870213051353865 % 18446744073709551616 / 288230376151711744 : Nat) : Int) := by
  have e1 : IntKind.u64.wrap (-(x : Int)) = ((18446744073709551616 - x : Nat) : Int) := by rw [IntKind.wrap_u64]; omega
  rw [e1, bits_and_u64_nat x _ hx (by omega), hlow, IntKind.wrap_u64]
  omega
set_option maxHeartbeats 1000000 in
theorem tz_core (x k idx : Nat) (w : World) (hx0 : ((x : Int) == 0) = false)
    (key : IntKind.u64.wrap (bits BinOp.and IntKind.u64 (x : Int) (IntKind.u64.wrap (-(x : Int))) * 285870213051353865) / 288230376151711744 = (idx : Int))
    (hi : idx < 64) (hk : k < 64) (hcell : w.cell? ⟨0, idx, none⟩ = some (.int .u8 k)) :
    Calls Tryd.prog 54 #[.int .u64 x] w fun e w' => e = .returned (.int .i64 k) ∧ w = w' := by
  go_enter Tryd.func54, Tryd.ntmps54
  go_wp2_with (simp only [key])
  go_ret
  exact ⟨rfl, rfl⟩
theorem tz_any (x : Nat) (hx0 : x ≠ 0) (hx : x < 18446744073709551616) (w : World) (hT : Tab w) :
    Calls Tryd.prog 54 #[.int .u64 x] w fun e w' => e = .returned (.int .i64 (Lib.ctz 64 x)) ∧ w = w' := by
  obtain ⟨hlow, hk⟩ := Lib.lowest_bit 64 x hx0 hx
  obtain ⟨hi, htab⟩ := Lib.deBruijn64_at _ hk
  have hcell := hT _ hi
  rw [htab] at hcell
  exact tz_core x _ _ w (by simp; omega) (tz_key x _ hx hx0 hlow) hi hk hcell

set_option maxHeartbeats 400000 in
theorem All_any (W : World) (v : Value) (hv : v = .pointer none ∨ ∃ a, v = .pointer (some a)) :
    Calls Tryd.prog 33 #[v] W fun e w' => e = .returned (.func (.func 53) #[] #[.pointer (some ⟨W.heap.size, 0, none⟩)]) ∧ W.alloc (.cells #[v] 33) = w' := by
  rcases hv with rfl | ⟨a, rfl⟩
  · go_enter Tryd.func33, Tryd.ntmps33
    go_wp2
    go_ret
    exact ⟨rfl, rfl⟩
  · go_enter Tryd.func33, Tryd.ntmps33
    go_wp2
    go_ret
    exact ⟨rfl, rfl⟩

set_option maxHeartbeats 400000 in
/-- All of what is no set: nothing comes. -/
theorem all_dead (Bx : Nat) (v : Value) :
    SeqSep Tryd.prog 53 #[.pointer (some ⟨Bx, 0, none⟩)] (fun i : Nat => #[.int .i64 i]) (fun _ _ => False) (fun _ _ => True) (fun xs => xs = []) (fun pre => pre = []) (fun W _ => W.cell? ⟨Bx, 0, none⟩ = some v ∧ Dead W v) := by
  intro l n J Jx W D ⟨hBx, hd⟩ hD hJ hJx h0 hY
  have al := Lib.hid (callsIn_wide (n := n).2 (alive_dead hd))
  clear hY
  refine callsIn_of_wp Tryd.func53 rfl trivial ?_ rfl
  simp only [Tryd.ntmps53, List.size_toArray, List.length_cons, List.length_nil, Nat.reduceAdd, Nat.reduceSub, Array.replicate_succ, Array.replicate_zero, List.push_toArray, List.append_toArray, List.nil_append, List.cons_append]
  gi_wp2_with (first | (refine ⟨trivial, ?_⟩; gi_at_call 42; refine al.out.mono ?_; rintro e w' ⟨rfl, rfl⟩) | (gi_at_call 42; refine al.out.mono ?_; rintro e w' ⟨rfl, rfl⟩))
  refine bodyPost_ret (results_none rfl _ _ _) rfl ?_
  exact ⟨⟨_, rfl⟩, D, Fr.refl _ _, fun k hk => ⟨.inl hk, hD k hk⟩, .inl ⟨[], rfl, h0⟩⟩

/-- A row of words that is the call's own is kept. -/
theorem row_cells {w : World} {base h n cap : Nat} {ws : List Nat} (ho : w.ownsRow base 42 1 (.slice (some ⟨h, 0, none⟩) n cap) n (u64s ws)) (hn : n = ws.length) :
    base ≤ h ∧ h < w.heap.size ∧ ∀ j, j < ws.length → w.cell? ⟨h, j, none⟩ = some (.int .u64 (wd ws j)) := by
  subst hn
  refine ⟨(ho.lt h rfl).1, (ho.lt h rfl).2, fun j hj => ?_⟩
  have e : (⟨h, 0, none⟩ : Addr).add j = ⟨h, j, none⟩ := by unfold Addr.add; split <;> simp_all
  have := ho.cells (g := h) rfl j (.int .u64 (wd ws j)) (by simp [u64s, wd, List.getElem?_eq_getElem hj])
  rwa [e] at this

/-- What holds between two rounds: pre has come. -/
structure AllInv (J : List Nat → World → (Nat → Prop) → Prop) (W : World) (D : Nat → Prop) (c : Nat) (ws : List Nat) (pre : List Nat) (wr : World) (D1 : Nat → Prop) : Prop where
  j : J pre wr D1
  own : ∀ k, D1 k → (D k ∨ W.heap.size ≤ k) ∧ k < wr.heap.size
  row : ¬ D1 c
  fr : Fr D W wr
  cells : ∀ j, j < ws.length → wr.cell? ⟨c, j, none⟩ = some (.int .u64 (wd ws j))
  tab : Tab wr
  zero : ¬ D1 0
theorem AllInv.round {J J' : List Nat → World → (Nat → Prop) → Prop} {W : World} {D : Nat → Prop} {c : Nat} {ws pre pre' : List Nat} {wr W' : World} {D1 D' : Nat → Prop} (h : AllInv J W D c ws pre wr D1) (hlt : 0 < ws.length ) (hW : 0 < W.heap.size)
    (hR : Round D1 (fun _ => False) wr W' D') (hj : J' pre' W' D') : AllInv J' W D c ws pre' W' D' := by
  have hc : c < wr.heap.size := World.block_lt_of_cell? wr _ (h.cells 0 hlt)
  have hn : ∀ k, ¬ D1 k → ¬ (D1 k ∨ False) := fun k hk h => h.elim hk id
  refine ⟨hj, fun k hk => ?_, fun hk => ?_, ⟨hR.fr.os.trans h.fr.os, hR.fr.tape.trans h.fr.tape, hR.fr.output.trans h.fr.output, Nat.le_trans h.fr.size hR.fr.size, fun k hk hnk => (hR.fr.block k (Nat.lt_of_lt_of_le hk h.fr.size) (hn k (fun h1 => (h.own k h1).1.elim hnk (fun h2 => by omega)))).trans (h.fr.block k hk hnk)⟩, fun j hj => hR.fr.cell (h.cells j hj) (hn _ h.row), h.tab.kept hR.fr (hn _ h.zero), fun hk => ?_⟩
  · obtain ⟨h1, h2⟩ := hR.own k hk
    refine ⟨?_, h2⟩
    rcases h1 with h1 | h1 | h1
    · exact (h.own k h1).1
    · exact h1.elim
    · exact .inr (Nat.le_trans h.fr.size h1)
  · obtain ⟨h1, _⟩ := hR.own c hk
    rcases h1 with h1 | h1 | h1
    · exact h.row h1
    · exact h1
    · omega
  · obtain ⟨h1, _⟩ := hR.own 0 hk
    rcases h1 with h1 | h1 | h1
    · exact h.zero h1
    · exact h1
    · have := h.fr.size; omega

set_option maxHeartbeats 1000000 in
/-- All of a set: its numbers, rising. -/
theorem all_set (Bx g h room : Nat) (ws : List Nat) :
    SeqSep Tryd.prog 53 #[.pointer (some ⟨Bx, 0, none⟩)] (fun i : Nat => #[.int .i64 i]) (fun _ _ => False) (fun i _ => i < 64 * ws.length) (fun xs => xs = mems 0 ws) (fun pre => pre <+: mems 0 ws)
      (fun W D => W.cell? ⟨Bx, 0, none⟩ = some (.pointer (some ⟨g, 0, none⟩)) ∧ IsSet W g h room ws ∧ Tab W ∧ ¬ D 0) := by
  intro l n J Jx W D ⟨hBx, hS, hT, hD0⟩ hD hJ hJx h0 hY
  have al := Lib.hid (callsIn_wide (n := n).2 (alive_set hS))
  obtain ⟨cap0, hc0, hc1, hc2, hcap⟩ := hS.cells
  have hl : ws.length ≤ 17592186044416 := by have := hS.len; omega
  have hl2 : ws.length ≤ 64 := by have := hS.len; omega
  have hcl := Lib.hid (callsIn_wide (n := n).2 (clone_words W ⟨h, 0, none⟩ ws cap0 hS.wordCells hl))
  have h1n : 1 ≤ n + 1 := by omega
  have hWp : 0 < W.heap.size := World.block_lt_of_cell? W _ (hT 0 (by omega))
  refine callsIn_of_wp Tryd.func53 rfl trivial ?_ rfl
  simp only [Tryd.ntmps53, List.size_toArray, List.length_cons, List.length_nil, Nat.reduceAdd, Nat.reduceSub, Array.replicate_succ, Array.replicate_zero, List.push_toArray, List.append_toArray, List.nil_append, List.cons_append]
  gi_wp2_with (first | (refine ⟨trivial, ?_⟩; gi_at_call 42; refine al.out.mono ?_; rintro e w' ⟨rfl, rfl⟩) | (refine ⟨trivial, ?_⟩; gi_at_call 43; refine hcl.out.mono ?_; rintro e w1 ⟨c, cap, rfl, ho, hb⟩))
  obtain ⟨hcb, hclt, hcc⟩ := row_cells ho rfl
  have hInv : AllInv J W D c ws [] w1 D := ⟨hJ _ _ _ _ h0 (fun k hk => hb.block k (hD k hk)), fun k hk => ⟨.inl hk, Nat.lt_of_lt_of_le (hD k hk) hb.size⟩, fun hk => by have := hD c hk; omega, .of_below hb, hcc, hT.kept (M := fun _ => False) (.of_below hb) id, hD0⟩
  clear ho hcc h0
  gi_loopw [14] (fun i wr => ∃ (k : Nat) (D1 : Nat → Prop), k ≤ ws.length ∧ i = .int .i64 k ∧ AllInv J W D c ws (mems 0 (ws.take k)) wr D1) (fun i _ => ws.length - (intOf i).toNat)
  case atStart => exact ⟨0, D, Nat.zero_le _, rfl, hInv⟩
  case round =>
    obtain ⟨k, D1, hk, rfl, hi⟩ := hrel
    by_cases hlt : k < ws.length
    · have hcell := hi.cells k hlt
      have hk64 : (k : Int) < 64 := by omega
      have hvlt : wd ws k < 18446744073709551616 := hS.getD_lt k
      have hsnoc := mems_snoc (wd ws k) (ws.take k) 0
      have htk : ws.take (k + 1) = ws.take k ++ [wd ws k] := by
        rw [List.take_succ_eq_append_getElem hlt]; simp [wd, List.getElem?_eq_getElem hlt]
      have hlen : (ws.take k).length = k := by simp; omega
      rw [← htk, hlen, Nat.zero_add] at hsnoc
      have HSN := Lib.hid hsnoc
      clear hsnoc htk hlen
      obtain ⟨wo, rfl⟩ : ∃ wo : World, wo = wr := ⟨_, rfl⟩
      gi_wp2
      gi_loopw [4] (fun x wr => ∃ (v : Nat) (pre : List Nat) (D2 : Nat → Prop), v < 18446744073709551616 ∧ x = .int .u64 v ∧ mems 0 (ws.take (k + 1)) = pre ++ (wbits v).map (fun j => 64 * k + j) ∧ AllInv J W D c ws pre wr D2) (fun x _ => (intOf x).toNat)
      case atStart => exact ⟨wd ws k, _, D1, hvlt, rfl, HSN.out, hi⟩
      case round =>
        obtain ⟨v, pre, D2, hv, rfl, hpre, hi2⟩ := hrel
        by_cases hv0 : v = 0
        · subst hv0
          gi_wp2
          go_roundw
          case rel => exact ⟨k + 1, D2, by omega, by simp, by rw [hpre, wbits_zero, List.map_nil, List.append_nil]; exact hi2⟩
          case measure => simp [intOf]; omega
        · obtain ⟨hst, hc64⟩ := wbits_step v hv0 hv
          have htz := Lib.hid (callsIn_wide (n := n).2 (tz_any v hv0 hv wr hi2.tab))
          have hne : ((v : Int) != 0) = true := by rw [bne_iff_ne]; omega
          have hslt := step_lt v hv0
          have hand := u64_and_nat v (v - 1) hv (by omega)
          rw [show ((v - 1 : Nat) : Int) = (v : Int) - 1 from by omega] at hand
          have HA := Lib.hid hand
          clear hand
          have hj := hY pre (64 * k + Lib.ctz 64 v) wr D2 hi2.j (fun k hk => (hi2.own k hk).2) (by omega) (fun _ h => h.elim)
          have hpre2 : mems 0 (ws.take (k + 1)) = (pre ++ [64 * k + Lib.ctz 64 v]) ++ (wbits (v &&& (v - 1))).map (fun j => 64 * k + j) := by
            rw [hpre, hst]; simp
          have HP := Lib.hid hpre2
          clear hpre2 hpre hst
          generalize Lib.ctz 64 v = t at *
          have hpos : 0 < (v : Int) := by omega
          have hv64 : (v : Int) < 18446744073709551616 := by omega
          clear hv0
          obtain ⟨fn, tmps, assign, body, hy, hR⟩ := hj
          have hcast : (((64 * k + t : Nat)) : Int) = 64 * (k : Int) + (t : Int) := by omega
          rw [hcast] at hy
          clear hcast
          gi_wp2_with (first | (refine ⟨trivial, ?_⟩; gi_at_call 54; refine htz.out.mono ?_; rintro e w' ⟨rfl, rfl⟩))
          refine hR.mono ?_
          rintro e W3 ⟨D', hRd, (⟨rfl, hJ3⟩ | ⟨rfl, hJx3⟩)⟩
          · have hi3 := hi2.round (by omega) hWp hRd hJ3
            gi_wp2
            go_roundw
            case rel => exact ⟨v &&& (v - 1), _, D', and_lt _ hv, by rw [HA.out], HP.out, hi3⟩
            case measure => rw [HA.out]; simp only [intOf]; omega
          · have hi3 : AllInv Jx W D c ws (pre ++ [64 * k + t]) W3 D' := hi2.round (by omega) hWp hRd hJx3
            gi_wp2
            refine bodyPost_ret (results_none rfl _ _ _) rfl ?_
            exact ⟨⟨_, rfl⟩, D', hi3.fr, hi3.own, .inr ⟨_, (show pre ++ [64 * k + t] <+: mems 0 ws from List.IsPrefix.trans ⟨_, HP.out.symm⟩ (mems_take ws (k + 1))), hi3.j⟩⟩
    · obtain rfl : k = ws.length := by omega
      gi_wp2
      go_end0
      exact ⟨⟨_, rfl⟩, D1, hi.fr, hi.own, .inl ⟨_, by rw [List.take_length], hi.j⟩⟩
end Go.Proofs.YthfapneifbjlmaaDoor
end

section
namespace Go.Proofs.YthfapneifbjlmaaDoor
open Go.RowKit Go.Shelf
attribute [local go_sem] Oper.semAt_some
set_option linter.unusedVariables false
set_option linter.unusedSimpArgs false

theorem RoundIn.any {m m' : Nat} {P : Program} {l : Nat} {f : FuncId} {tmps : Array Value} {assign body : Code} {w : World} {R : Ending → World → Prop}
    (h : RoundIn Fence.wide m P l f tmps assign body w R) : RoundIn Fence.wide m' P l f tmps assign body w R := ⟨h.1, fun c cs _ => h.2 c cs (room_wide _)⟩

def i64s (xs : List Int) : List Value := xs.map fun x : Int => Value.int .i64 x
theorem i64s_one (ws : List Int) : ∀ u ∈ i64s ws, u.oneCell' = true := by
  intro u hu; simp only [i64s, List.mem_map] at hu; obtain ⟨q, _, rfl⟩ := hu; rfl
/-- Number j of a row. -/
def nd (xs : List Int) (j : Nat) : Int := xs.getD j 0
theorem i64s_get {xs : List Int} {j : Nat} (hj : j < xs.length) : (i64s xs)[j]? = some (.int .i64 (nd xs j)) := by simp [i64s, nd, List.getElem?_eq_getElem hj]

/-- slices.Clone of numbers: a row of the call's own, never nil. -/
theorem clone_ints (W : World) (ad : Addr) (ws : List Int) (c : Nat) (hc : ∀ j u, (i64s ws)[j]? = some u → W.cell? (ad.add j) = some u) (hl : ws.length ≤ 17592186044416) :
    Calls Tryd.prog 28 #[.slice (some ad) ws.length c] W fun e w' => ∃ h cap, e = .returned (.slice (some ⟨h, 0, none⟩) ws.length cap) ∧ w'.ownsRow W.heap.size 3 1 (.slice (some ⟨h, 0, none⟩) ws.length cap) ws.length (i64s ws) ∧ Below W.heap.size W w' := by
  obtain ⟨i0, hi, hz0, hz1, hz2⟩ := info_parts info3
  have HC := Lib.hid hc
  clear hc
  have hlen : (i64s ws).length = ws.length * 1 := by simp [i64s]
  have HLN := Lib.hid hlen
  clear hlen
  have hq := fun wx => Lib.run_eql_slice_nil (P := Tryd.prog) wx 22 3 (some ad) ws.length c 0 0 Tryd.underlying22
  go_enter Tryd.func28, Tryd.ntmps28
  go_wp2_with (at_builtin; refine wpList_append_own _ rfl _ _ 22 rfl W.heap.size 3 i0 (.int .i64 0) 1 8 Tryd.underlying22 hi hz0 hz1 hz2 rfl (by decide) _ 0 [] rfl (World.ownsRow_made W #[] 0 (Nat.le_refl _) (by decide) rfl) ad ws.length c (i64s ws) rfl ?c1 ?c2 (i64s_one ws) ?c4 ?c5 ?c6 ?_)
  case c1 => exact HLN.out
  case c2 => exact fun j u hu => (cell_al _ (HC.out j u hu))
  case c4 => simp [maxLen]; omega
  case c5 => omega
  case c6 => simp
  intro v' w1 hown hgr hnil
  go_wp2
  go_ret
  obtain ⟨g, cap, rfl, hg⟩ := own_form hown hnil
  exact ⟨g, cap, rfl, hown, ((Below.refl W.heap.size W).alloc (Nat.le_refl _) _).grown hgr (by simp) (fun k hk => by simp [Value.ownBlock] at hk; omega)⟩

theorem irow_cells {w : World} {base h n cap : Nat} {ws : List Int} (ho : w.ownsRow base 3 1 (.slice (some ⟨h, 0, none⟩) n cap) n (i64s ws)) (hn : n = ws.length) :
    base ≤ h ∧ h < w.heap.size ∧ ∀ j, j < ws.length → w.cell? ⟨h, j, none⟩ = some (.int .i64 (nd ws j)) := by
  subst hn
  refine ⟨(ho.lt h rfl).1, (ho.lt h rfl).2, fun j hj => ?_⟩
  have e : (⟨h, 0, none⟩ : Addr).add j = ⟨h, j, none⟩ := by unfold Addr.add; split <;> simp_all
  have := ho.cells (g := h) rfl j (.int .i64 (nd ws j)) (i64s_get hj)
  rwa [e] at this

/-- A variable in memory that holds a slice of numbers. -/
structure LBox (W : World) (Bl lb cap : Nat) (xs : List Int) : Prop where
  box : W.cell? ⟨Bl, 0, none⟩ = some (.slice (some ⟨lb, 0, none⟩) xs.length cap)
  cells : ∀ j, j < xs.length → W.cell? ⟨lb, j, none⟩ = some (.int .i64 (nd xs j))

set_option maxHeartbeats 400000 in
theorem Subsets_any (W : World) (ad : Addr) (xs : List Int) (c : Nat) (hc : ∀ j u, (i64s xs)[j]? = some u → W.cell? (ad.add j) = some u) (hl : xs.length ≤ 17592186044416) :
    Calls Tryd.prog 8 #[.slice (some ad) xs.length c] W fun e w' => ∃ Bl lb cap, e = .returned (.func (.func 29) #[] #[.pointer (some ⟨Bl, 0, none⟩)]) ∧ LBox w' Bl lb cap xs ∧ W.heap.size ≤ Bl ∧ W.heap.size ≤ lb ∧ Below W.heap.size W w' := by
  have hcl := Lib.hid (clone_ints W ad xs c hc hl)
  clear hc
  go_enter Tryd.func8, Tryd.ntmps8
  go_wp2_with (go_at_call 28; refine hcl.out.mono ?_; rintro e w1 ⟨h, cap, rfl, ho, hb⟩)
  go_ret
  obtain ⟨h1, h2, h3⟩ := irow_cells ho rfl
  refine ⟨w1.heap.size, h, cap, rfl, ⟨cell_of_row _ w1.heap.size 0 _ 22 (0, 0) (heap_alloc_new w1 _), fun j hj => cell_al _ (h3 j hj)⟩, hb.size, h1, hb.alloc hb.size _⟩

theorem heap_cell {w : World} {g : Nat} {t : TypeId} {cs : List Value} {fr : Nat × Nat} (h : w.heap[g]? = some (.cells cs.toArray t fr)) (j : Nat) : w.cell? ⟨g, j, none⟩ = cs[j]? := by
  rw [cell_of_row w g j _ _ _ h]; simp
theorem heap_free {w : World} {g : Nat} {t : TypeId} {cs : Array Value} (h : w.heap[g]? = some (.cells cs t (0, 0))) (j : Nat) : w.frozen? ⟨g, j, none⟩ = false := by simp [World.frozen?, h]
theorem i64s_set (xs : List Int) (j : Nat) (x : Int) : i64s (xs.set j x) = (i64s xs).set j (.int .i64 x) := by simp [i64s, List.map_set]
theorem made_ints (n : Nat) : madeCells (Value.int .i64 0).cells (n * 1) = (i64s (List.replicate n 0)).toArray := by
  apply Array.ext
  · simp [madeCells, i64s]
  · intro i h1 h2
    simp [madeCells, i64s, Value.cells, Nat.mod_one]

/-- The items at places. -/
def pick (xs : List Int) (ps : List Nat) : List Int := ps.map (nd xs)
/-- i places are filled. -/
def filled (xs : List Int) (ps : List Nat) (i : Nat) : List Int := pick xs (ps.take i) ++ List.replicate (ps.length - i) 0
theorem filled_zero (xs : List Int) (ps : List Nat) : filled xs ps 0 = List.replicate ps.length 0 := by simp [filled, pick]
theorem filled_all (xs : List Int) (ps : List Nat) : filled xs ps ps.length = pick xs ps := by simp [filled]
theorem filled_len (xs : List Int) (ps : List Nat) (i : Nat) (h : i ≤ ps.length) : (filled xs ps i).length = ps.length := by simp [filled, pick]; omega
theorem filled_succ (xs : List Int) (ps : List Nat) (i : Nat) (h : i < ps.length) : (filled xs ps i).set i (nd xs (ps.getD i 0)) = filled xs ps (i + 1) := by
  unfold filled pick
  have hl : ((ps.take i).map (nd xs)).length = i := by simp; omega
  rw [List.set_append_right _ _ (by omega), hl, Nat.sub_self]
  rw [show ps.length - i = (ps.length - (i + 1)) + 1 from by omega, List.replicate_succ, List.set_cons_zero]
  rw [List.take_succ_eq_append_getElem h, List.map_append]
  simp [List.getElem?_eq_getElem h]

/-- The boxes that Subsets' inner functions see: k, l, yield. -/
structure SubEnv (W : World) (kb Bl lb yb cap yl K : Nat) (xs : List Int) : Prop where
  k : W.cell? ⟨kb, 0, none⟩ = some (.int .i64 K)
  l : LBox W Bl lb cap xs
  y : W.cell? ⟨yb, 0, none⟩ = some (.func (.yield yl) #[] #[])
  lt : lb < W.heap.size

theorem SubEnv.kept {M : Nat → Prop} {W W' : World} {kb Bl lb yb cap l K : Nat} {xs : List Int} (h : SubEnv W kb Bl lb yb cap l K xs) (hf : Fr M W W') (h1 : ¬ M kb) (h2 : ¬ M Bl) (h3 : ¬ M lb) (h4 : ¬ M yb) : SubEnv W' kb Bl lb yb cap l K xs :=
  ⟨hf.cell h.k h1, ⟨hf.cell h.l.box h2, fun j hj => hf.cell (h.l.cells j hj) h3⟩, hf.cell h.y h4, Nat.lt_of_lt_of_le h.lt hf.size⟩

set_option maxHeartbeats 1000000 in
/-- One row of places: the row of items is made, and handed to yield. -/
theorem cb_any (W : World) (kb Bl lb yb cap l pb pcap nY : Nat) (xs : List Int) (ps : List Nat) (hE : SubEnv W kb Bl lb yb cap l ps.length xs) (hps : ∀ j, j < ps.length → W.cell? ⟨pb, j, none⟩ = some (.int .i64 (ps.getD j 0 : Nat)))
    (hlt : ∀ p, p ∈ ps → p < xs.length) (hK : ps.length ≤ 10) (hxl : xs.length ≤ 10) (R : Ending → World → Prop) (hR : ∀ e w', R e w' → ∃ b : Bool, e = .returned (.bool b))
    (hY : ∀ W2, Below W.heap.size W W2 → W2.heap[W.heap.size]? = some (.cells (i64s (pick xs ps)).toArray 3 (0, 0)) → YieldAt Fence.wide nY Tryd.prog l #[.slice (some ⟨W.heap.size, 0, none⟩) (pick xs ps).length (pick xs ps).length] W2 R) :
    Calls Tryd.prog 31 #[.slice (some ⟨pb, 0, none⟩) ps.length pcap, .pointer (some ⟨kb, 0, none⟩), .pointer (some ⟨Bl, 0, none⟩), .pointer (some ⟨yb, 0, none⟩)] W R := by
  refine callsIn_wide (n := nY + 1).1 ?_
  have HE := Lib.hid hE
  have hk := hE.k
  obtain ⟨i0, hi, hz0, hz1, hz2⟩ := info_parts info3
  have hmk := run_make (P := Tryd.prog) W 22 3 i0 (.int .i64 0) Tryd.underlying22 hi hz0 .i64 .i64 (ps.length : Int) (ps.length : Int) (by omega) (by omega) (by rw [hz2]; omega) (by omega)
  rw [hz1, Int.toNat_natCast, made_ints] at hmk
  have hpl : (pick xs ps).length = ps.length := by simp [pick]
  rw [hpl] at hY
  have hm1 : (ps.length : Int) ≤ 10 := by omega
  have HPS := Lib.hid hps
  have HLT := Lib.hid hlt
  clear hps hlt hpl hE
  refine callsIn_of_wp Tryd.func31 rfl trivial ?_ rfl
  simp only [Tryd.ntmps31, List.size_toArray, List.length_cons, List.length_nil, Nat.reduceAdd, Nat.reduceSub, Array.replicate_succ, Array.replicate_zero, List.push_toArray, List.append_toArray, List.nil_append, List.cons_append]
  gi_wp2
  have hW1 : (W.alloc (.cells (i64s (List.replicate ps.length 0)).toArray 3)).heap[W.heap.size]? = some (.cells (i64s (List.replicate ps.length 0)).toArray 3 (0, 0)) := heap_alloc_new W _
  clear hmk
  gi_loopw [13] (fun i wr => ∃ k : Nat, k ≤ ps.length ∧ i = .int .i64 k ∧ Below W.heap.size W wr ∧ W.heap.size < wr.heap.size ∧ wr.heap[W.heap.size]? = some (.cells (i64s (filled xs ps k)).toArray 3 (0, 0))) (fun i _ => ps.length - (intOf i).toNat)
  case atStart => exact ⟨0, Nat.zero_le _, rfl, (Below.refl _ _).alloc (Nat.le_refl _) _, by simp, by rw [filled_zero]; exact hW1⟩
  case round =>
    obtain ⟨k, hk2, rfl, hb, hsz, hrow⟩ := hrel
    obtain ⟨hk1, ⟨hbox, hcells⟩, hy, _⟩ := HE.out.kept (M := fun _ => False) (.of_below hb) id id id id
    by_cases hlt : k < ps.length
    · obtain ⟨p, hp⟩ : ∃ p, p = ps.getD k 0 := ⟨_, rfl⟩
      have hpx : p < xs.length := by rw [hp, List.getD_eq_getElem?_getD, List.getElem?_eq_getElem hlt]; exact HLT.out _ (List.getElem_mem hlt)
      have hpc : wr.cell? ⟨pb, k, none⟩ = some (.int .i64 (p : Nat)) := by rw [hp]; exact (hb.cell (World.block_lt_of_cell? W _ (HPS.out k hlt))).trans (HPS.out k hlt)
      have hlc := hcells p hpx
      have hrc : wr.cell? ⟨W.heap.size, k, none⟩ = some (.int .i64 (nd (filled xs ps k) k)) := (heap_cell hrow k).trans (i64s_get (by rw [filled_len _ _ _ hk2]; exact hlt))
      have hrf := heap_free hrow k
      have hset := filled_succ xs ps k hlt
      rw [← hp] at hset
      have HS := Lib.hid hset
      have HR := Lib.hid hrow
      have hpi : (p : Int) < (xs.length : Int) := by omega
      clear hset hp hrow hcells
      gi_wp2
      go_roundw
      case rel => exact ⟨k + 1, by omega, by simp, hb.setCell (p := ⟨W.heap.size, k, none⟩) (Nat.le_refl _) _, by simpa [World.setCell] using hsz, by rw [← HS.out, i64s_set]; exact (heap_set_same HR.out k _).trans (by simp)⟩
      case measure => simp [intOf]; omega
    · obtain rfl : k = ps.length := by omega
      have hrow2 := hrow
      rw [filled_all] at hrow2
      obtain ⟨fn, tmps, assign, body, hyy, hR2⟩ := hY wr hb hrow2
      have HRR := Lib.hid hR
      clear hcells hrow2 hR hrow
      gi_wp2
      refine hR2.mono ?_
      rintro e W3 h3
      obtain ⟨b, rfl⟩ := HRR.out _ _ h3
      gi_wp2
      exact h3

/-- The rising rows of k places from a place on, below n. -/
def rowsL (n : Nat) : Nat → Nat → List (List Nat)
  | 0, _ => [[]]
  | k + 1, f => (List.range' f (n - k - f)).flatMap fun i => (rowsL n k (i + 1)).map (i :: ·)
theorem rowsL_succ (n k f i : Nat) (hfi : f ≤ i) (hi : i + (k + 1) ≤ n) :
    (List.range' f (i + 1 - f)).flatMap (fun i => (rowsL n k (i + 1)).map (i :: ·)) = (List.range' f (i - f)).flatMap (fun i => (rowsL n k (i + 1)).map (i :: ·)) ++ (rowsL n k (i + 1)).map (i :: ·) := by
  rw [show i + 1 - f = (i - f) + 1 from by omega, List.range'_concat, List.flatMap_append]
  simp only [Nat.one_mul, List.flatMap_cons, List.flatMap_nil, List.append_nil]
  rw [show f + (i - f) = i from by omega]

theorem own_apart {M : Nat → Prop} {a b : World} {base e h n cap : Nat} {xs : List Value} (ho : a.ownsRow base e 1 (.slice (some ⟨h, 0, none⟩) n cap) n xs) (hf : Fr M a b) (hn : ¬ M h) : b.ownsRow base e 1 (.slice (some ⟨h, 0, none⟩) n cap) n xs := by
  refine ⟨ho.1, ?_⟩
  rcases ho.2 with h1 | ⟨g, cap', cur, h1, h2, h3, r⟩
  · exact .inl h1
  · refine .inr ⟨g, cap', cur, h1, h2, ?_, r⟩
    injection h1 with h1 _ _; injection h1 with h1; injection h1 with h1
    subst h1
    exact (hf.block h (Array.getElem?_eq_some_iff.1 h3).1 hn).trans h3

theorem own_take {w : World} {base e h n cap : Nat} {xs : List Value} {x : Value} (ho : w.ownsRow base e 1 (.slice (some ⟨h, 0, none⟩) (n + 1) cap) (n + 1) (xs ++ [x])) (hn : xs.length = n) : w.ownsRow base e 1 (.slice (some ⟨h, 0, none⟩) n cap) n xs := by
  refine ⟨by omega, ?_⟩
  rcases ho.2 with ⟨h1, _⟩ | ⟨g, cap', cur, h1, h2, h3, h4, h5, h6, h7⟩
  · cases h1
  · injection h1 with h1 h8 h9
    injection h1 with h1
    injection h1 with h1
    subst h1 h9
    refine .inr ⟨h, cap, cur, rfl, h2, h3, by omega, h5, h6, ?_⟩
    have := congrArg (List.take n) h7
    rw [List.take_take, List.take_left' hn] at this
    rw [← this]
    congr 1
    omega

/-- What holds while rows are gone through: pre has come; chosen lies in block cb; the boxes. -/
structure RowsInv (J : List (Nat × List Int) → World → (Nat → Prop) → Prop) (kb Bl lb yb cap yl K cb : Nat) (xs : List Int) (C : List Nat) (pre : List (Nat × List Int)) (W : World) (D : Nat → Prop) : Prop where
  j : J pre W D
  own : ∀ k, D k → k < W.heap.size
  env : SubEnv W kb Bl lb yb cap yl K xs
  away : ¬ D kb ∧ ¬ D Bl ∧ ¬ D lb ∧ ¬ D yb ∧ ¬ D cb
  apart : kb ≠ cb ∧ Bl ≠ cb ∧ lb ≠ cb ∧ yb ≠ cb
  row : W.ownsRow 0 3 1 (.slice (some ⟨cb, 0, none⟩) C.length K) C.length (i64s (C.map fun x : Nat => (x : Int)))

theorem RowsInv.lts {J : List (Nat × List Int) → World → (Nat → Prop) → Prop} {kb Bl lb yb cap yl K cb : Nat} {xs : List Int} {C : List Nat} {pre : List (Nat × List Int)} {W : World} {D : Nat → Prop}
    (h : RowsInv J kb Bl lb yb cap yl K cb xs C pre W D) : kb < W.heap.size ∧ Bl < W.heap.size ∧ lb < W.heap.size ∧ yb < W.heap.size ∧ cb < W.heap.size :=
  ⟨World.block_lt_of_cell? W _ h.env.k, World.block_lt_of_cell? W _ h.env.l.box, h.env.lt, World.block_lt_of_cell? W _ h.env.y, (h.row.lt cb rfl).2⟩
/-- Behind a step that turned what is the body's, and what is new. -/
theorem RowsInv.step {J J' : List (Nat × List Int) → World → (Nat → Prop) → Prop} {kb Bl lb yb cap yl K cb : Nat} {xs : List Int} {C : List Nat} {pre pre' : List (Nat × List Int)} {W W' : World} {D D' M : Nat → Prop}
    (h : RowsInv J kb Bl lb yb cap yl K cb xs C pre W D) (hf : Fr M W W') (hM : ∀ k, k < W.heap.size → M k → D k ∨ k = cb) (hD : ∀ k, D' k → (D k ∨ W.heap.size ≤ k) ∧ k < W'.heap.size) (hj : J' pre' W' D')
    {C' : List Nat} (hrow : W'.ownsRow 0 3 1 (.slice (some ⟨cb, 0, none⟩) C'.length K) C'.length (i64s (C'.map fun x : Nat => (x : Int)))) : RowsInv J' kb Bl lb yb cap yl K cb xs C' pre' W' D' := by
  obtain ⟨e1, e2, e3, e4⟩ := h.apart
  obtain ⟨l1, l2, l3, l4, l5⟩ := h.lts
  obtain ⟨a1, a2, a3, a4, a5⟩ := h.away
  have hn : ∀ k, k < W.heap.size → ¬ D k → ¬ D' k := fun k hk hd h' => (hD k h').1.elim hd (fun h2 => by omega)
  exact ⟨hj, fun k hk => (hD k hk).2, h.env.kept hf (fun h' => (hM _ l1 h').elim a1 e1) (fun h' => (hM _ l2 h').elim a2 e2) (fun h' => (hM _ l3 h').elim a3 e3) (fun h' => (hM _ l4 h').elim a4 e4), ⟨hn _ l1 a1, hn _ l2 a2, hn _ l3 a3, hn _ l4 a4, hn _ l5 a5⟩, h.apart, hrow⟩

/-- What going through them leaves. -/
def RowsPost (J Jx : List (Nat × List Int) → World → (Nat → Prop) → Prop) (kb Bl lb yb cap yl K cb : Nat) (xs : List Int) (C : List Nat) (pre : List (Nat × List Int)) (L : List (List Nat)) (W : World) (D : Nat → Prop) (e : Ending) (W' : World) : Prop :=
  ∃ ys D', Fr (fun k => D k ∨ k = cb) W W' ∧ (∀ k, D' k → (D k ∨ W.heap.size ≤ k) ∧ k < W'.heap.size) ∧
    ((e = .returned (.bool true) ∧ ys.map (·.2) = L.map (fun r => pick xs (C ++ r)) ∧ RowsInv J kb Bl lb yb cap yl K cb xs C (pre ++ ys) W' D') ∨
     (e = .returned (.bool false) ∧ ys.map (·.2) <+: L.map (fun r => pick xs (C ++ r)) ∧ Jx (pre ++ ys) W' D'))
end Go.Proofs.YthfapneifbjlmaaDoor
end
