/- The set of layer 3 in memory, and the contracts of its small methods. -/
import Derived.Test.YthfapneifbjlmaaDoorRows
import Derived.WalkKit
import Derived.ProofKit
import Derived.BigQuiet
import Derived.Deep.QuietTactic
import Derived.WalkSpells
import Derived.WalkLawsBesides
import Derived.Lib.Hide
namespace Go.Proofs.YthfapneifbjlmaaDoor
open Go.RowKit
set_option linter.unusedVariables false

/-- Blocks g, h of the world are a set of a room: the struct, its words. -/
def IsSet (W : World) (g h : Nat) (room : Nat) (ws : List Nat) : Prop :=
  ∃ cap cur, W.heap[g]? = some (.cells #[.int .i64 room, .slice (some ⟨h, 0, none⟩) ws.length cap, .bool true] 55 (0, 0)) ∧
    W.heap[h]? = some (.cells cur 42 (0, 0)) ∧ ws.length ≤ cap ∧ cap ≤ maxLen ∧ cur.size = cap ∧ cur.toList.take ws.length = ws.map (fun x : Nat => Value.int .u64 x) ∧
    ws.length = (room + 63) / 64 ∧ room ≤ 4096 ∧ ∀ x, x ∈ ws → x < 18446744073709551616

/-- What the walk wants of a set: its three cells, none frozen. -/
theorem IsSet.cells {W : World} {g h room : Nat} {ws : List Nat} (H : IsSet W g h room ws) :
    ∃ cap, W.cell? ⟨g, 0, none⟩ = some (.int .i64 room) ∧ W.cell? ⟨g, 1, none⟩ = some (.slice (some ⟨h, 0, none⟩) ws.length cap) ∧ W.cell? ⟨g, 2, none⟩ = some (.bool true) ∧ ws.length ≤ cap := by
  obtain ⟨cap, cur, hg, hh, hc, _⟩ := H
  exact ⟨cap, (cell_of_row W g 0 _ _ _ hg).trans rfl, (cell_of_row W g 1 _ _ _ hg).trans rfl, (cell_of_row W g 2 _ _ _ hg).trans rfl, hc⟩

set_option maxHeartbeats 400000 in
theorem alive_set {W : World} {g h room : Nat} {ws : List Nat} (H : IsSet W g h room ws) :
    Calls Tryd.prog 42 #[.pointer (some ⟨g, 0, none⟩)] W fun e w' => e = .returned (.bool true) ∧ W = w' := by
  obtain ⟨cap, h0, h1, h2, _⟩ := H.cells
  go_enter Tryd.func42, Tryd.ntmps42
  go_wp2
  go_ret
  exact ⟨rfl, rfl⟩
/-- A set that no call made: nil, or zero. -/
def Dead (W : World) (v : Value) : Prop := v = .pointer none ∨ ∃ g, v = .pointer (some ⟨g, 0, none⟩) ∧ W.cell? ⟨g, 2, none⟩ = some (.bool false)
set_option maxHeartbeats 400000 in
theorem alive_dead {W : World} {v : Value} (H : Dead W v) :
    Calls Tryd.prog 42 #[v] W fun e w' => e = .returned (.bool false) ∧ W = w' := by
  rcases H with rfl | ⟨g, rfl, h2⟩
  · go_enter Tryd.func42, Tryd.ntmps42
    go_wp2
    go_ret
    exact ⟨rfl, rfl⟩
  · go_enter Tryd.func42, Tryd.ntmps42
    go_wp2
    go_ret
    exact ⟨rfl, rfl⟩

/-- Word j. -/
def wd (ws : List Nat) (j : Nat) : Nat := ws.getD j 0
/-- A word's cell. -/
theorem IsSet.word {W : World} {g h room : Nat} {ws : List Nat} (H : IsSet W g h room ws) (j : Nat) (hj : j < ws.length) :
    W.cell? ⟨h, j, none⟩ = some (.int .u64 (wd ws j)) ∧ W.frozen? ⟨h, j, none⟩ = false := by
  obtain ⟨cap, cur, hg, hh, hc, hcm, hs, ht, _⟩ := H
  refine ⟨(cell_of_row W h j _ _ _ hh).trans ?_, by simp [World.frozen?, hh]⟩
  have h1 : (cur.toList.take ws.length)[j]? = some (.int .u64 (wd ws j)) := by
    unfold wd
    rw [ht, List.getElem?_map, List.getElem?_eq_getElem hj]; simp [List.getElem?_eq_getElem hj]
  rw [List.getElem?_take, if_pos hj, Array.getElem?_toList] at h1
  exact h1

set_option maxHeartbeats 400000 in
theorem has_set {W : World} {g h room : Nat} {ws : List Nat} (H : IsSet W g h room ws) (i : Int) (b : Bool) (hb : (decide (0 ≤ i) && decide (i < room)) = b) :
    Calls Tryd.prog 55 #[.pointer (some ⟨g, 0, none⟩), .int .i64 i] W fun e w' => e = .returned (.bool b) ∧ W = w' := by
  obtain ⟨cap, h0, h1, h2, _⟩ := H.cells
  have al := Lib.hid (alive_set H)
  by_cases h3 : 0 ≤ i
  · go_enter Tryd.func55, Tryd.ntmps55
    go_wp2_with (go_at_call 42; refine al.out.mono ?_; rintro e w' ⟨rfl, rfl⟩)
    all_goals go_ret
    all_goals exact ⟨by subst hb; congr 2; simp; omega, rfl⟩
  · go_enter Tryd.func55, Tryd.ntmps55
    go_wp2_with (go_at_call 42; refine al.out.mono ?_; rintro e w' ⟨rfl, rfl⟩)
    all_goals go_ret
    all_goals exact ⟨by subst hb; congr 2; simp; omega, rfl⟩

set_option maxHeartbeats 400000 in
theorem Room_set {W : World} {g h room : Nat} {ws : List Nat} (H : IsSet W g h room ws) :
    Calls Tryd.prog 40 #[.pointer (some ⟨g, 0, none⟩)] W fun e w' => e = .returned (.int .i64 room) ∧ W = w' := by
  obtain ⟨cap, h0, h1, h2, _⟩ := H.cells
  have al := Lib.hid (alive_set H)
  go_enter Tryd.func40, Tryd.ntmps40
  go_wp2_with (go_at_call 42; refine al.out.mono ?_; rintro e w' ⟨rfl, rfl⟩)
  go_ret
  exact ⟨rfl, rfl⟩

/-- The bit of a number in its word. -/
def bitOf (i : Nat) : Nat := 2 ^ (i % 64)
theorem bitOf_lt (i : Nat) : bitOf i < 18446744073709551616 := by
  unfold bitOf
  have h : (2 : Nat) ^ (i % 64) < 2 ^ 64 := Nat.pow_lt_pow_right (by omega) (Nat.mod_lt _ (by omega))
  simpa using h
theorem wrap_bit (i : Nat) : IntKind.u64.wrap ((2 : Int) ^ (i % 64)) = (bitOf i : Int) := by
  have h := bitOf_lt i
  rw [IntKind.wrap_u64]
  have e : ((2 : Int) ^ (i % 64)) = ((bitOf i : Nat) : Int) := by unfold bitOf; push_cast; rfl
  rw [e]; omega
theorem IsSet.len {W : World} {g h room : Nat} {ws : List Nat} (H : IsSet W g h room ws) : ws.length = (room + 63) / 64 ∧ room ≤ 4096 ∧ ∀ x, x ∈ ws → x < 18446744073709551616 := by
  obtain ⟨cap, cur, _, _, _, _, _, _, h⟩ := H; exact h
theorem ret_tuple {a b : Array Value} (h : a = b) : Ending.returned (.tuple a) = .returned (.tuple b) := by rw [h]

set_option maxHeartbeats 400000 in
theorem at_set {W : World} {g h room : Nat} {ws : List Nat} (H : IsSet W g h room ws) (i : Int) (h0i : 0 ≤ i) (hi : i < room) :
    Calls Tryd.prog 41 #[.pointer (some ⟨g, 0, none⟩), .int .i64 i] W fun e w' => e = .returned (.tuple #[.pointer (some ⟨h, i.toNat / 64, none⟩), .int .u64 (bitOf i.toNat), .int .i64 0]) ∧ ∃ n, W.drewN n = w' := by
  obtain ⟨i, rfl⟩ := Int.eq_ofNat_of_zero_le h0i
  rw [Int.toNat_natCast]
  obtain ⟨cap, h0, h1, h2, hcap⟩ := H.cells
  have al := Lib.hid (alive_set H)
  have ha := Lib.hid (has_set H i true (by simp at hi ⊢; omega))
  obtain ⟨hlen, hroom, _⟩ := H.len
  have hlt : (i : Int) / 64 < ws.length := by omega
  have h64 : (i : Int) < 4096 := by omega
  have HL := Lib.hid hlen
  clear hlen
  go_enter Tryd.func41, Tryd.ntmps41
  go_wp2_with (first | (go_at_call 42; refine al.out.mono ?_; rintro e w' ⟨rfl, rfl⟩) | (go_at_call 55; refine ha.out.mono ?_; rintro e w' ⟨rfl, rfl⟩))
  go_quiet (fail)
  go_wp2
  go_ret3
  exact ⟨ret_tuple (by rw [wrap_bit]; rfl), nq, rfl⟩

set_option maxHeartbeats 400000 in
theorem at_out {W : World} {g h room : Nat} {ws : List Nat} (H : IsSet W g h room ws) (i : Int) (hi : ¬ (0 ≤ i ∧ i < room)) :
    Calls Tryd.prog 41 #[.pointer (some ⟨g, 0, none⟩), .int .i64 i] W fun e w' => e = .returned (.tuple #[.pointer none, .int .u64 0, .int .i64 30]) ∧ W = w' := by
  have al := Lib.hid (alive_set H)
  have ha := Lib.hid (has_set H i false (by simp; omega))
  clear hi
  go_enter Tryd.func41, Tryd.ntmps41
  go_wp2_with (first | (go_at_call 42; refine al.out.mono ?_; rintro e w' ⟨rfl, rfl⟩) | (go_at_call 55; refine ha.out.mono ?_; rintro e w' ⟨rfl, rfl⟩))
  go_ret3
  exact ⟨rfl, rfl⟩

set_option maxHeartbeats 400000 in
theorem at_dead {W : World} {v : Value} (H : Dead W v) (i : Int) :
    Calls Tryd.prog 41 #[v, .int .i64 i] W fun e w' => e = .returned (.tuple #[.pointer none, .int .u64 0, .int .i64 1]) ∧ W = w' := by
  have al := Lib.hid (alive_dead H)
  clear H
  go_enter Tryd.func41, Tryd.ntmps41
  go_wp2_with (go_at_call 42; refine al.out.mono ?_; rintro e w' ⟨rfl, rfl⟩)
  go_ret3
  exact ⟨rfl, rfl⟩

/-! ### A set in another world; a word stored -/
theorem IsSet.move {W W' : World} {g h room : Nat} {ws : List Nat} (H : IsSet W g h room ws) (hg : W'.heap[g]? = W.heap[g]?) (hh : W'.heap[h]? = W.heap[h]?) : IsSet W' g h room ws := by
  obtain ⟨cap, cur, a, b, r⟩ := H
  exact ⟨cap, cur, hg.trans a, hh.trans b, r⟩
theorem IsSet.lt {W : World} {g h room : Nat} {ws : List Nat} (H : IsSet W g h room ws) : g < W.heap.size ∧ h < W.heap.size ∧ g ≠ h := by
  obtain ⟨cap, cur, a, b, r⟩ := H
  refine ⟨(Array.getElem?_eq_some_iff.1 a).1, (Array.getElem?_eq_some_iff.1 b).1, ?_⟩
  rintro rfl
  rw [a] at b; injection b with b; injection b with _ b2 _; exact absurd b2 (by decide)
theorem IsSet.below {B : Nat} {W W' : World} {g h room : Nat} {ws : List Nat} (H : IsSet W g h room ws) (hb : Below B W W') (hg : g < B) (hh : h < B) : IsSet W' g h room ws :=
  H.move (hb.block g hg) (hb.block h hh)
theorem IsSet.drewN {W : World} {g h room : Nat} {ws : List Nat} (H : IsSet W g h room ws) (n : Nat) : IsSet (W.drewN n) g h room ws := H
theorem heap_set_same {w : World} {g : Nat} {t : TypeId} {cs : Array Value} {fr : Nat × Nat} (h : w.heap[g]? = some (.cells cs t fr)) (i : Nat) (u : Value) :
    (w.setCell ⟨g, i, none⟩ u).heap[g]? = some (.cells (cs.setIfInBounds i u) t fr) := by
  simp only [World.setCell, Array.getElem?_modify, if_true, h, Option.map_some]
  rfl
theorem IsSet.store {W : World} {g h room : Nat} {ws : List Nat} (H : IsSet W g h room ws) (j : Nat) (hj : j < ws.length) (x : Nat) (hx : x < 18446744073709551616) :
    IsSet (W.setCell ⟨h, j, none⟩ (.int .u64 x)) g h room (ws.set j x) := by
  have hne := H.lt.2.2
  obtain ⟨cap, cur, a, b, hc, hcm, hs, ht, hl, hr, hw⟩ := H
  refine ⟨cap, cur.setIfInBounds j (.int .u64 x), ?_, heap_set_same b j _, by simpa using hc, hcm, by simpa using hs, ?_, by simpa using hl, hr, fun y hy => ?_⟩
  · rw [Below.heap_setCell _ _ _ _ hne, List.length_set]; exact a
  · rw [List.length_set, Array.toList_setIfInBounds, List.take_set, ht, List.map_set]
  · rcases List.mem_or_eq_of_mem_set hy with h1 | rfl
    · exact hw y h1
    · exact hx
theorem grownBy_set {W : World} {p : Addr} {v : Value} (n : Nat) : W.grownBy ((W.drewN n).setCell p v) (some p.block) :=
  ⟨rfl, rfl, rfl, by simp [World.setCell, World.drewN], fun k _ hne => Below.heap_setCell (W.drewN n) p v k (fun e => hne (by rw [e]))⟩

/-- What Put and Drop leave. -/
def putBit (ws : List Nat) (i : Nat) : List Nat := ws.set (i / 64) (wd ws (i / 64) ||| bitOf i)
def dropBit (ws : List Nat) (i : Nat) : List Nat := ws.set (i / 64) (wd ws (i / 64) &&& (18446744073709551615 - bitOf i))
theorem IsSet.getD_lt {W : World} {g h room : Nat} {ws : List Nat} (H : IsSet W g h room ws) (j : Nat) : wd ws j < 18446744073709551616 := by
  unfold wd
  by_cases hj : j < ws.length
  · rw [List.getD_eq_getElem?_getD, List.getElem?_eq_getElem hj]; exact H.len.2.2 _ (List.getElem_mem hj)
  · rw [List.getD_eq_getElem?_getD, List.getElem?_eq_none (by omega)]; simp

theorem or_lt {a b : Nat} (ha : a < 18446744073709551616) (hb : b < 18446744073709551616) : a ||| b < 18446744073709551616 := by
  have := Nat.or_lt_two_pow (x := a) (y := b) (n := 64) (by simpa using ha) (by simpa using hb)
  simpa using this
theorem and_lt {a : Nat} (b : Nat) (ha : a < 18446744073709551616) : a &&& b < 18446744073709551616 := Nat.lt_of_le_of_lt Nat.and_le_left ha

set_option maxHeartbeats 400000 in
theorem Put_set {W : World} {g h room : Nat} {ws : List Nat} (H : IsSet W g h room ws) (i : Int) (h0i : 0 ≤ i) (hi : i < room) :
    Calls Tryd.prog 16 #[.pointer (some ⟨g, 0, none⟩), .int .i64 i] W fun e w' => e = .returned (.int .i64 0) ∧ IsSet w' g h room (putBit ws i.toNat) ∧ W.grownBy w' (some h) := by
  have ha := Lib.hid (at_set H i h0i hi)
  obtain ⟨i, rfl⟩ := Int.eq_ofNat_of_zero_le h0i
  rw [Int.toNat_natCast] at *
  obtain ⟨hlen, hroom, _⟩ := H.len
  have hj : i / 64 < ws.length := by omega
  obtain ⟨hc, hf⟩ := H.word (i / 64) hj
  have HS := Lib.hid ((fun n => (H.drewN n).store (i / 64) hj (wd ws (i / 64) ||| bitOf i) (or_lt (H.getD_lt _) (bitOf_lt i))))
  have hb := Lib.hid (u64_or_nat (wd ws (i / 64)) (bitOf i) (H.getD_lt _) (bitOf_lt i))
  clear hlen h0i hi hroom
  go_enter Tryd.func16, Tryd.ntmps16
  go_wp2_with (go_at_call 41; refine ha.out.mono ?_; rintro e w' ⟨rfl, n, rfl⟩)
  go_ret
  rw [hb.out]
  exact ⟨rfl, HS.out n, grownBy_set n⟩
set_option maxHeartbeats 400000 in
theorem Put_out {W : World} {g h room : Nat} {ws : List Nat} (H : IsSet W g h room ws) (i : Int) (hi : ¬ (0 ≤ i ∧ i < room)) :
    Calls Tryd.prog 16 #[.pointer (some ⟨g, 0, none⟩), .int .i64 i] W fun e w' => e = .returned (.int .i64 30) ∧ W = w' := by
  have ha := Lib.hid (at_out H i hi)
  clear H hi
  go_enter Tryd.func16, Tryd.ntmps16
  go_wp2_with (go_at_call 41; refine ha.out.mono ?_; rintro e w' ⟨rfl, rfl⟩)
  go_ret
  exact ⟨rfl, rfl⟩
set_option maxHeartbeats 400000 in
theorem Put_dead {W : World} {v : Value} (H : Dead W v) (i : Int) :
    Calls Tryd.prog 16 #[v, .int .i64 i] W fun e w' => e = .returned (.int .i64 1) ∧ W = w' := by
  have ha := Lib.hid (at_dead H i)
  clear H
  go_enter Tryd.func16, Tryd.ntmps16
  go_wp2_with (go_at_call 41; refine ha.out.mono ?_; rintro e w' ⟨rfl, rfl⟩)
  go_ret
  exact ⟨rfl, rfl⟩
set_option maxHeartbeats 400000 in
theorem Drop_set {W : World} {g h room : Nat} {ws : List Nat} (H : IsSet W g h room ws) (i : Int) (h0i : 0 ≤ i) (hi : i < room) :
    Calls Tryd.prog 35 #[.pointer (some ⟨g, 0, none⟩), .int .i64 i] W fun e w' => e = .returned (.int .i64 0) ∧ IsSet w' g h room (dropBit ws i.toNat) ∧ W.grownBy w' (some h) := by
  have ha := Lib.hid (at_set H i h0i hi)
  obtain ⟨i, rfl⟩ := Int.eq_ofNat_of_zero_le h0i
  rw [Int.toNat_natCast] at *
  obtain ⟨hlen, hroom, _⟩ := H.len
  have hj : i / 64 < ws.length := by omega
  obtain ⟨hc, hf⟩ := H.word (i / 64) hj
  have HS := Lib.hid ((fun n => (H.drewN n).store (i / 64) hj (wd ws (i / 64) &&& (18446744073709551615 - bitOf i)) (and_lt _ (H.getD_lt _))))
  have hb := Lib.hid (u64_andNot_nat (wd ws (i / 64)) (bitOf i) (H.getD_lt _) (bitOf_lt i))
  clear hlen h0i hi hroom
  go_enter Tryd.func35, Tryd.ntmps35
  go_wp2_with (go_at_call 41; refine ha.out.mono ?_; rintro e w' ⟨rfl, n, rfl⟩)
  go_ret
  rw [hb.out]
  exact ⟨rfl, HS.out n, grownBy_set n⟩
set_option maxHeartbeats 400000 in
theorem Drop_out {W : World} {g h room : Nat} {ws : List Nat} (H : IsSet W g h room ws) (i : Int) (hi : ¬ (0 ≤ i ∧ i < room)) :
    Calls Tryd.prog 35 #[.pointer (some ⟨g, 0, none⟩), .int .i64 i] W fun e w' => e = .returned (.int .i64 30) ∧ W = w' := by
  have ha := Lib.hid (at_out H i hi)
  clear H hi
  go_enter Tryd.func35, Tryd.ntmps35
  go_wp2_with (go_at_call 41; refine ha.out.mono ?_; rintro e w' ⟨rfl, rfl⟩)
  go_ret
  exact ⟨rfl, rfl⟩
set_option maxHeartbeats 400000 in
theorem Drop_dead {W : World} {v : Value} (H : Dead W v) (i : Int) :
    Calls Tryd.prog 35 #[v, .int .i64 i] W fun e w' => e = .returned (.int .i64 1) ∧ W = w' := by
  have ha := Lib.hid (at_dead H i)
  clear H
  go_enter Tryd.func35, Tryd.ntmps35
  go_wp2_with (go_at_call 41; refine ha.out.mono ?_; rintro e w' ⟨rfl, rfl⟩)
  go_ret
  exact ⟨rfl, rfl⟩

/-- Is a number in? -/
def memb (ws : List Nat) (i : Nat) : Bool := (wd ws (i / 64)).testBit (i % 64)
theorem and_bit_ne (x i : Nat) : (((x &&& bitOf i : Nat) : Int) != 0) = x.testBit (i % 64) := by
  have hp : 0 < 2 ^ (i % 64) := Nat.two_pow_pos _
  unfold bitOf
  rw [nat_bit, Nat.testBit_eq_decide_div_mod_eq]
  rcases Nat.mod_two_eq_zero_or_one (x / 2 ^ (i % 64)) with h | h
  · rw [h]; simp
  · rw [h]; simp only [Nat.one_mul, decide_true, bne_iff_ne]; omega

set_option maxHeartbeats 400000 in
theorem Has_set {W : World} {g h room : Nat} {ws : List Nat} (H : IsSet W g h room ws) (i : Int) (h0i : 0 ≤ i) (hi : i < room) :
    Calls Tryd.prog 38 #[.pointer (some ⟨g, 0, none⟩), .int .i64 i] W fun e w' => e = .returned (.bool (memb ws i.toNat)) ∧ ∃ n, W.drewN n = w' := by
  have ha := Lib.hid (at_set H i h0i hi)
  obtain ⟨i, rfl⟩ := Int.eq_ofNat_of_zero_le h0i
  rw [Int.toNat_natCast] at *
  obtain ⟨hlen, hroom, _⟩ := H.len
  have hj : i / 64 < ws.length := by omega
  obtain ⟨hc, hf⟩ := H.word (i / 64) hj
  have hb := Lib.hid (u64_and_nat (wd ws (i / 64)) (bitOf i) (H.getD_lt _) (bitOf_lt i))
  have hm := Lib.hid (and_bit_ne (wd ws (i / 64)) i)
  clear hlen h0i hi hroom
  go_enter Tryd.func38, Tryd.ntmps38
  go_wp2_with (go_at_call 41; refine ha.out.mono ?_; rintro e w' ⟨rfl, n, rfl⟩)
  go_ret
  rw [hb.out]
  refine ⟨congrArg (fun b => Ending.returned (.bool b)) hm.out, n, rfl⟩
set_option maxHeartbeats 400000 in
theorem Has_out {W : World} {g h room : Nat} {ws : List Nat} (H : IsSet W g h room ws) (i : Int) (hi : ¬ (0 ≤ i ∧ i < room)) :
    Calls Tryd.prog 38 #[.pointer (some ⟨g, 0, none⟩), .int .i64 i] W fun e w' => e = .returned (.bool false) ∧ W = w' := by
  have ha := Lib.hid (at_out H i hi)
  clear H hi
  go_enter Tryd.func38, Tryd.ntmps38
  go_wp2_with (go_at_call 41; refine ha.out.mono ?_; rintro e w' ⟨rfl, rfl⟩)
  go_ret
  exact ⟨rfl, rfl⟩
set_option maxHeartbeats 400000 in
theorem Has_dead {W : World} {v : Value} (H : Dead W v) (i : Int) :
    Calls Tryd.prog 38 #[v, .int .i64 i] W fun e w' => e = .returned (.bool false) ∧ W = w' := by
  have ha := Lib.hid (at_dead H i)
  clear H
  go_enter Tryd.func38, Tryd.ntmps38
  go_wp2_with (go_at_call 41; refine ha.out.mono ?_; rintro e w' ⟨rfl, rfl⟩)
  go_ret
  exact ⟨rfl, rfl⟩
set_option maxHeartbeats 400000 in
theorem Room_dead {W : World} {v : Value} (H : Dead W v) :
    Calls Tryd.prog 40 #[v] W fun e w' => e = .returned (.int .i64 0) ∧ W = w' := by
  have al := Lib.hid (alive_dead H)
  clear H
  go_enter Tryd.func40, Tryd.ntmps40
  go_wp2_with (go_at_call 42; refine al.out.mono ?_; rintro e w' ⟨rfl, rfl⟩)
  go_ret
  exact ⟨rfl, rfl⟩
end Go.Proofs.YthfapneifbjlmaaDoor
