/- The set of layer 3 in memory: New, Put, Words (turned from the Bits laws' texts). -/
import Derived.Test.YtofinglgnkdflaaJXC
import Derived.WalkSpells
import Derived.WalkLawsBesides
import Derived.Lib.Hide
import Derived.StillTailTactics
import Derived.Maps.AppendAt
namespace Go.Proofs.Ytofinglgnkdflaa
namespace Bt
open Go.RowKit
set_option linter.unusedVariables false
def IsSet (W : World) (g h : Nat) (room : Nat) (ws : List Nat) : Prop :=
  ∃ cap cur, W.heap[g]? = some (.cells #[.int .i64 room, .slice (some ⟨h, 0, none⟩) ws.length cap, .bool true] 140 (0, 0)) ∧
    W.heap[h]? = some (.cells cur 58 (0, 0)) ∧ ws.length ≤ cap ∧ cap ≤ maxLen ∧ cur.size = cap ∧ cur.toList.take ws.length = ws.map (fun x : Nat => Value.int .u64 x) ∧
    ws.length = (room + 63) / 64 ∧ room ≤ 4096 ∧ ∀ x, x ∈ ws → x < 18446744073709551616
theorem IsSet.cells {W : World} {g h room : Nat} {ws : List Nat} (H : IsSet W g h room ws) :
    ∃ cap, W.cell? ⟨g, 0, none⟩ = some (.int .i64 room) ∧ W.cell? ⟨g, 1, none⟩ = some (.slice (some ⟨h, 0, none⟩) ws.length cap) ∧ W.cell? ⟨g, 2, none⟩ = some (.bool true) ∧ ws.length ≤ cap := by
  obtain ⟨cap, cur, hg, hh, hc, _⟩ := H
  exact ⟨cap, (cell_of_row W g 0 _ _ _ hg).trans rfl, (cell_of_row W g 1 _ _ _ hg).trans rfl, (cell_of_row W g 2 _ _ _ hg).trans rfl, hc⟩
set_option maxHeartbeats 400000 in
theorem alive_set {W : World} {g h room : Nat} {ws : List Nat} (H : IsSet W g h room ws) :
    Calls Try.prog 96 #[.pointer (some ⟨g, 0, none⟩)] W fun e w' => e = .returned (.bool true) ∧ W = w' := by
  obtain ⟨cap, h0, h1, h2, _⟩ := H.cells
  go_enter Try.func96, Try.ntmps96
  go_wp2
  go_ret
  exact ⟨rfl, rfl⟩
def wd (ws : List Nat) (j : Nat) : Nat := ws.getD j 0
theorem IsSet.word {W : World} {g h room : Nat} {ws : List Nat} (H : IsSet W g h room ws) (j : Nat) (hj : j < ws.length) :
    W.cell? ⟨h, j, none⟩ = some (.int .u64 (wd ws j)) ∧ W.frozen? ⟨h, j, none⟩ = false := by
  obtain ⟨cap, cur, hg, hh, hc, hcm, hs, ht, _⟩ := H
  refine ⟨(cell_of_row W h j _ _ _ hh).trans ?_, by simp [World.frozen?, hh]⟩
  have h1 : (cur.toList.take ws.length)[j]? = some (.int .u64 (wd ws j)) := by
    unfold wd
    rw [ht, List.getElem?_map, List.getElem?_eq_getElem hj]; simp [List.getElem?_eq_getElem hj]
  rw [List.getElem?_take, if_pos hj, Array.getElem?_toList] at h1
  exact h1
set_option maxHeartbeats 400000 in
theorem has_set {W : World} {g h room : Nat} {ws : List Nat} (H : IsSet W g h room ws) (i : Int) (b : Bool) (hb : (decide (0 ≤ i) && decide (i < room)) = b) :
    Calls Try.prog 111 #[.pointer (some ⟨g, 0, none⟩), .int .i64 i] W fun e w' => e = .returned (.bool b) ∧ W = w' := by
  obtain ⟨cap, h0, h1, h2, _⟩ := H.cells
  have al := Lib.hid (alive_set H)
  by_cases h3 : 0 ≤ i
  · go_enter Try.func111, Try.ntmps111
    go_wp2_with (go_at_call 96; refine al.out.mono ?_; rintro e w' ⟨rfl, rfl⟩)
    all_goals go_ret
    all_goals exact ⟨by subst hb; congr 2; simp; omega, rfl⟩
  · go_enter Try.func111, Try.ntmps111
    go_wp2_with (go_at_call 96; refine al.out.mono ?_; rintro e w' ⟨rfl, rfl⟩)
    all_goals go_ret
    all_goals exact ⟨by subst hb; congr 2; simp; omega, rfl⟩
def bitOf (i : Nat) : Nat := 2 ^ (i % 64)
theorem bitOf_lt (i : Nat) : bitOf i < 18446744073709551616 := by
  unfold bitOf
  have h : (2 : Nat) ^ (i % 64) < 2 ^ 64 := Nat.pow_lt_pow_right (by omega) (Nat.mod_lt _ (by omega))
  simpa using h
theorem wrap_bit (i : Nat) : IntKind.u64.wrap ((2 : Int) ^ (i % 64)) = (bitOf i : Int) := by
  have h := bitOf_lt i
  rw [IntKind.wrap_u64]
  have e : ((2 : Int) ^ (i % 64)) = ((bitOf i : Nat) : Int) := by unfold bitOf; push_cast; rfl
  rw [e]; omega
theorem IsSet.len {W : World} {g h room : Nat} {ws : List Nat} (H : IsSet W g h room ws) : ws.length = (room + 63) / 64 ∧ room ≤ 4096 ∧ ∀ x, x ∈ ws → x < 18446744073709551616 := by
  obtain ⟨cap, cur, _, _, _, _, _, _, h⟩ := H; exact h
theorem ret_tuple {a b : Array Value} (h : a = b) : Ending.returned (.tuple a) = .returned (.tuple b) := by rw [h]
set_option maxHeartbeats 400000 in
theorem at_set {W : World} {g h room : Nat} {ws : List Nat} (H : IsSet W g h room ws) (i : Int) (h0i : 0 ≤ i) (hi : i < room) :
    Calls Try.prog 95 #[.pointer (some ⟨g, 0, none⟩), .int .i64 i] W fun e w' => e = .returned (.tuple #[.pointer (some ⟨h, i.toNat / 64, none⟩), .int .u64 (bitOf i.toNat), .int .i64 0]) ∧ ∃ n, W.drewN n = w' := by
  obtain ⟨i, rfl⟩ := Int.eq_ofNat_of_zero_le h0i
  rw [Int.toNat_natCast]
  obtain ⟨cap, h0, h1, h2, hcap⟩ := H.cells
  have al := Lib.hid (alive_set H)
  have ha := Lib.hid (has_set H i true (by simp at hi ⊢; omega))
  obtain ⟨hlen, hroom, _⟩ := H.len
  have hlt : (i : Int) / 64 < ws.length := by omega
  have h64 : (i : Int) < 4096 := by omega
  have HL := Lib.hid hlen
  clear hlen
  go_enter Try.func95, Try.ntmps95
  go_wp2_with (first | (go_at_call 96; refine al.out.mono ?_; rintro e w' ⟨rfl, rfl⟩) | (go_at_call 111; refine ha.out.mono ?_; rintro e w' ⟨rfl, rfl⟩))
  go_quiet (fail)
  go_wp2
  go_ret3
  exact ⟨ret_tuple (by rw [wrap_bit]; rfl), nq, rfl⟩
theorem IsSet.move {W W' : World} {g h room : Nat} {ws : List Nat} (H : IsSet W g h room ws) (hg : W'.heap[g]? = W.heap[g]?) (hh : W'.heap[h]? = W.heap[h]?) : IsSet W' g h room ws := by
  obtain ⟨cap, cur, a, b, r⟩ := H
  exact ⟨cap, cur, hg.trans a, hh.trans b, r⟩
theorem IsSet.lt {W : World} {g h room : Nat} {ws : List Nat} (H : IsSet W g h room ws) : g < W.heap.size ∧ h < W.heap.size ∧ g ≠ h := by
  obtain ⟨cap, cur, a, b, r⟩ := H
  refine ⟨(Array.getElem?_eq_some_iff.1 a).1, (Array.getElem?_eq_some_iff.1 b).1, ?_⟩
  rintro rfl
  rw [a] at b; injection b with b; injection b with _ b2 _; exact absurd b2 (by decide)
theorem IsSet.below {B : Nat} {W W' : World} {g h room : Nat} {ws : List Nat} (H : IsSet W g h room ws) (hb : Below B W W') (hg : g < B) (hh : h < B) : IsSet W' g h room ws :=
  H.move (hb.block g hg) (hb.block h hh)
theorem IsSet.drewN {W : World} {g h room : Nat} {ws : List Nat} (H : IsSet W g h room ws) (n : Nat) : IsSet (W.drewN n) g h room ws := H
theorem heap_set_same {w : World} {g : Nat} {t : TypeId} {cs : Array Value} {fr : Nat × Nat} (h : w.heap[g]? = some (.cells cs t fr)) (i : Nat) (u : Value) :
    (w.setCell ⟨g, i, none⟩ u).heap[g]? = some (.cells (cs.setIfInBounds i u) t fr) := by
  simp only [World.setCell, Array.getElem?_modify, if_true, h, Option.map_some]
  rfl
theorem IsSet.store {W : World} {g h room : Nat} {ws : List Nat} (H : IsSet W g h room ws) (j : Nat) (hj : j < ws.length) (x : Nat) (hx : x < 18446744073709551616) :
    IsSet (W.setCell ⟨h, j, none⟩ (.int .u64 x)) g h room (ws.set j x) := by
  have hne := H.lt.2.2
  obtain ⟨cap, cur, a, b, hc, hcm, hs, ht, hl, hr, hw⟩ := H
  refine ⟨cap, cur.setIfInBounds j (.int .u64 x), ?_, heap_set_same b j _, by simpa using hc, hcm, by simpa using hs, ?_, by simpa using hl, hr, fun y hy => ?_⟩
  · rw [Below.heap_setCell _ _ _ _ hne, List.length_set]; exact a
  · rw [List.length_set, Array.toList_setIfInBounds, List.take_set, ht, List.map_set]
  · rcases List.mem_or_eq_of_mem_set hy with h1 | rfl
    · exact hw y h1
    · exact hx
theorem grownBy_set {W : World} {p : Addr} {v : Value} (n : Nat) : W.grownBy ((W.drewN n).setCell p v) (some p.block) :=
  ⟨rfl, rfl, rfl, by simp [World.setCell, World.drewN], fun k _ hne => Below.heap_setCell (W.drewN n) p v k (fun e => hne (by rw [e]))⟩
def putBit (ws : List Nat) (i : Nat) : List Nat := ws.set (i / 64) (wd ws (i / 64) ||| bitOf i)
theorem IsSet.getD_lt {W : World} {g h room : Nat} {ws : List Nat} (H : IsSet W g h room ws) (j : Nat) : wd ws j < 18446744073709551616 := by
  unfold wd
  by_cases hj : j < ws.length
  · rw [List.getD_eq_getElem?_getD, List.getElem?_eq_getElem hj]; exact H.len.2.2 _ (List.getElem_mem hj)
  · rw [List.getD_eq_getElem?_getD, List.getElem?_eq_none (by omega)]; simp
theorem or_lt {a b : Nat} (ha : a < 18446744073709551616) (hb : b < 18446744073709551616) : a ||| b < 18446744073709551616 := by
  have := Nat.or_lt_two_pow (x := a) (y := b) (n := 64) (by simpa using ha) (by simpa using hb)
  simpa using this
set_option maxHeartbeats 400000 in
theorem Put_set {W : World} {g h room : Nat} {ws : List Nat} (H : IsSet W g h room ws) (i : Int) (h0i : 0 ≤ i) (hi : i < room) :
    Calls Try.prog 68 #[.pointer (some ⟨g, 0, none⟩), .int .i64 i] W fun e w' => e = .returned (.int .i64 0) ∧ IsSet w' g h room (putBit ws i.toNat) ∧ W.grownBy w' (some h) := by
  have ha := Lib.hid (at_set H i h0i hi)
  obtain ⟨i, rfl⟩ := Int.eq_ofNat_of_zero_le h0i
  rw [Int.toNat_natCast] at *
  obtain ⟨hlen, hroom, _⟩ := H.len
  have hj : i / 64 < ws.length := by omega
  obtain ⟨hc, hf⟩ := H.word (i / 64) hj
  have HS := Lib.hid ((fun n => (H.drewN n).store (i / 64) hj (wd ws (i / 64) ||| bitOf i) (or_lt (H.getD_lt _) (bitOf_lt i))))
  have hb := Lib.hid (u64_or_nat (wd ws (i / 64)) (bitOf i) (H.getD_lt _) (bitOf_lt i))
  clear hlen h0i hi hroom
  go_enter Try.func68, Try.ntmps68
  go_wp2_with (go_at_call 95; refine ha.out.mono ?_; rintro e w' ⟨rfl, n, rfl⟩)
  go_ret
  rw [hb.out]
  exact ⟨rfl, HS.out n, grownBy_set n⟩
theorem info58 : (Try.prog.info? 58).map (fun i => (i.zero, i.size, i.bytes)) = some (some (.int .u64 0), 1, 8) := by kernel_rfl
def u64s (ws : List Nat) : List Value := ws.map fun x : Nat => Value.int .u64 x
theorem u64s_one (ws : List Nat) : ∀ u ∈ u64s ws, u.oneCell' = true := by
  intro u hu; simp only [u64s, List.mem_map] at hu; obtain ⟨q, _, rfl⟩ := hu; rfl
theorem cell_al {w : World} {a : Addr} {v : Value} (o : Obj) (h : w.cell? a = some v) : (w.alloc o).cell? a = some v :=
  (((Below.refl w.heap.size w).alloc (Nat.le_refl _) o).cell (World.block_lt_of_cell? w a h)).trans h
theorem own_form {w : World} {base e n : Nat} {v : Value} {xs : List Value} (h : w.ownsRow base e 1 v n xs) (hn : v ≠ .slice none 0 0) : ∃ g cap, v = .slice (some ⟨g, 0, none⟩) n cap ∧ base ≤ g := by
  rcases h.2 with ⟨h1, _⟩ | ⟨g, cap, cur, rfl, hb, _⟩
  · exact absurd h1 hn
  · exact ⟨g, cap, rfl, hb⟩
theorem clone_words (W : World) (ad : Addr) (ws : List Nat) (c : Nat) (hc : ∀ j u, (u64s ws)[j]? = some u → W.cell? (ad.add j) = some u) (hl : ws.length ≤ 17592186044416) :
    Calls Try.prog 97 #[.slice (some ad) ws.length c] W fun e w' => ∃ h cap, e = .returned (.slice (some ⟨h, 0, none⟩) ws.length cap) ∧ w'.ownsRow W.heap.size 58 1 (.slice (some ⟨h, 0, none⟩) ws.length cap) ws.length (u64s ws) ∧ Below W.heap.size W w' := by
  obtain ⟨i0, hi, hz0, hz1, hz2⟩ := info_parts info58
  have HC := Lib.hid hc
  clear hc
  have hlen : (u64s ws).length = ws.length * 1 := by simp [u64s]
  have HLN := Lib.hid hlen
  clear hlen
  have hq := fun wx => Lib.run_eql_slice_nil (P := Try.prog) wx 67 58 (some ad) ws.length c 0 0 Try.underlying67
  go_enter Try.func97, Try.ntmps97
  go_wp2_with (at_builtin; refine wpList_append_own _ rfl _ _ 67 rfl W.heap.size 58 i0 (.int .u64 0) 1 8 Try.underlying67 hi hz0 hz1 hz2 rfl (by decide) _ 0 [] rfl (World.ownsRow_made W #[] 0 (Nat.le_refl _) (by decide) rfl) ad ws.length c (u64s ws) rfl ?c1 ?c2 (u64s_one ws) ?c4 ?c5 ?c6 ?_)
  case c1 => exact HLN.out
  case c2 => exact fun j u hu => (cell_al _ (HC.out j u hu))
  case c4 => simp [maxLen]; omega
  case c5 => omega
  case c6 => simp
  intro v' w1 hown hgr hnil
  go_wp2
  go_ret
  obtain ⟨g, cap, rfl, hg⟩ := own_form hown hnil
  exact ⟨g, cap, rfl, hown, ((Below.refl W.heap.size W).alloc (Nat.le_refl _) _).grown hgr (by simp) (fun k hk => by simp [Value.ownBlock] at hk; omega)⟩
theorem own_made (W : World) (n : Nat) (hn : n ≤ 1000) : (W.alloc (.cells (u64s (List.replicate n 0)).toArray 58)).ownsRow W.heap.size 58 1 (.slice (some ⟨W.heap.size, 0, none⟩) n n) n (u64s (List.replicate n 0)) :=
  ⟨by simp [u64s], .inr ⟨W.heap.size, n, _, rfl, Nat.le_refl _, heap_alloc_new W _, Nat.le_refl _, by simp [maxLen]; omega, by simp [u64s], by simp [u64s]⟩⟩
theorem own_set {w : World} {base h n room cap : Nat} {ws : List Nat} (ho : w.ownsRow base 58 1 (.slice (some ⟨h, 0, none⟩) n cap) n (u64s ws)) (hn : ws.length = n) (hr : n = (room + 63) / 64) (hr2 : room ≤ 4096)
    (hw : ∀ x, x ∈ ws → x < 18446744073709551616) : IsSet (w.alloc (.cells #[.int .i64 room, .slice (some ⟨h, 0, none⟩) n cap, .bool true] 140)) w.heap.size h room ws := by
  subst hn
  rcases ho.2 with ⟨h1, _⟩ | ⟨g', cap', cur, h1, hb, hh, hc, hm, hs, ht⟩
  · cases h1
  · injection h1 with a b c
    injection a with a
    injection a with a1
    subst a1 c
    rw [Nat.mul_one] at hs ht
    exact ⟨cap, cur, heap_alloc_new w _, (Below.heap_alloc w _ _ (Array.getElem?_eq_some_iff.1 hh).1).trans hh, hc, hm, hs, ht, hr, hr2, hw⟩
theorem made_words (n : Nat) : madeCells (Value.int .u64 0).cells (n * 1) = (u64s (List.replicate n 0)).toArray := by
  apply Array.ext
  · simp [madeCells, u64s]
  · intro i h1 h2
    simp [madeCells, u64s, Value.cells, Nat.mod_one]
set_option maxHeartbeats 400000 in
set_option maxRecDepth 100000 in
theorem New_ok (W : World) (n : Nat) (hn : n ≤ 4096) :
    Calls Try.prog 67 #[.int .i64 n] W fun e w' => ∃ g h, e = .returned (.tuple #[.pointer (some ⟨g, 0, none⟩), .int .i64 0]) ∧ IsSet w' g h n (List.replicate ((n + 63) / 64) 0) ∧ W.heap.size ≤ g ∧ W.heap.size ≤ h ∧ Below W.heap.size W w' := by
  obtain ⟨i0, hi, hz0, hz1, hz2⟩ := info_parts info58
  have hmk := run_make (P := Try.prog) W 67 58 i0 (.int .u64 0) Try.underlying67 hi hz0 .i64 .i64 (((n : Int) + 63) / 64) (((n : Int) + 63) / 64) (by omega) (by omega) (by rw [hz2]; omega) (by omega)
  rw [hz1, show (((n : Int) + 63) / 64).toNat = (n + 63) / 64 from by omega, made_words] at hmk
  go_enter Try.func67, Try.ntmps67
  go_wp2
  go_ret2
  have ho := own_made W ((n + 63) / 64) (by omega)
  have hs := own_set ho (by simp) rfl hn (fun x hx => by rw [List.eq_of_mem_replicate hx]; decide)
  rw [World.size_alloc] at hs
  exact ⟨W.heap.size + 1, W.heap.size, rfl, hs, by omega, by omega, ((Below.refl _ _).alloc (Nat.le_refl _) _).alloc (by simp) _⟩
theorem IsSet.wordCells {W : World} {g h room : Nat} {ws : List Nat} (H : IsSet W g h room ws) : ∀ j u, (u64s ws)[j]? = some u → W.cell? ((⟨h, 0, none⟩ : Addr).add j) = some u := by
  intro j u hu
  have hj : j < ws.length := by
    rcases Nat.lt_or_ge j ws.length with h | h
    · exact h
    · simp [u64s, List.getElem?_eq_none h] at hu
  have e : (⟨h, 0, none⟩ : Addr).add j = ⟨h, j, none⟩ := by unfold Addr.add; split <;> simp_all
  rw [e, (H.word j hj).1]
  simp only [u64s, List.getElem?_map, List.getElem?_eq_getElem hj, Option.map_some, Option.some.injEq] at hu
  rw [← hu]; unfold wd; simp [List.getElem?_eq_getElem hj]
set_option maxHeartbeats 400000 in
theorem Words_set {W : World} {g h room : Nat} {ws : List Nat} (H : IsSet W g h room ws) :
    Calls Try.prog 69 #[.pointer (some ⟨g, 0, none⟩)] W fun e w' => ∃ k cap, e = .returned (.slice (some ⟨k, 0, none⟩) ws.length cap) ∧ w'.ownsRow W.heap.size 58 1 (.slice (some ⟨k, 0, none⟩) ws.length cap) ws.length (u64s ws) ∧ Below W.heap.size W w' := by
  obtain ⟨cap, h0, h1, h2, _⟩ := H.cells
  have al := Lib.hid (alive_set H)
  have hl : ws.length ≤ 17592186044416 := by have := H.len; omega
  have hc := Lib.hid (clone_words W ⟨h, 0, none⟩ ws cap H.wordCells hl)
  go_enter Try.func69, Try.ntmps69
  go_wp2_with (first | (go_at_call 96; refine al.out.mono ?_; rintro e w' ⟨rfl, rfl⟩) | (go_at_call 97; refine hc.out.mono ?_; rintro e w' ⟨k, cap, rfl, ho, hb⟩))
  go_ret
  exact ⟨k, _, rfl, ho, hb⟩
end Bt
end Go.Proofs.Ytofinglgnkdflaa
