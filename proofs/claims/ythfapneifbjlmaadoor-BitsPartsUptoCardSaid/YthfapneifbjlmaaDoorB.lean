/- The set of layer 3: New, Words, Copy, slices.Clone. -/
import Derived.Test.YthfapneifbjlmaaDoorA
import Derived.Deep.RegionHeld3
import Derived.StillTailTactics
import Derived.Maps.AppendAt
namespace Go.Proofs.YthfapneifbjlmaaDoor
open Go.RowKit
set_option linter.unusedVariables false

theorem info42 : (Tryd.prog.info? 42).map (fun i => (i.zero, i.size, i.bytes)) = some (some (.int .u64 0), 1, 8) := by kernel_rfl
theorem info3 : (Tryd.prog.info? 3).map (fun i => (i.zero, i.size, i.bytes)) = some (some (.int .i64 0), 1, 8) := by kernel_rfl

def u64s (ws : List Nat) : List Value := ws.map fun x : Nat => Value.int .u64 x
theorem u64s_one (ws : List Nat) : ∀ u ∈ u64s ws, u.oneCell' = true := by
  intro u hu; simp only [u64s, List.mem_map] at hu; obtain ⟨q, _, rfl⟩ := hu; rfl

theorem cell_al {w : World} {a : Addr} {v : Value} (o : Obj) (h : w.cell? a = some v) : (w.alloc o).cell? a = some v :=
  (((Below.refl w.heap.size w).alloc (Nat.le_refl _) o).cell (World.block_lt_of_cell? w a h)).trans h
theorem own_form {w : World} {base e n : Nat} {v : Value} {xs : List Value} (h : w.ownsRow base e 1 v n xs) (hn : v ≠ .slice none 0 0) : ∃ g cap, v = .slice (some ⟨g, 0, none⟩) n cap ∧ base ≤ g := by
  rcases h.2 with ⟨h1, _⟩ | ⟨g, cap, cur, rfl, hb, _⟩
  · exact absurd h1 hn
  · exact ⟨g, cap, rfl, hb⟩
/-- slices.Clone of words: a row of the call's own, never nil. -/
theorem clone_words (W : World) (ad : Addr) (ws : List Nat) (c : Nat) (hc : ∀ j u, (u64s ws)[j]? = some u → W.cell? (ad.add j) = some u) (hl : ws.length ≤ 17592186044416) :
    Calls Tryd.prog 43 #[.slice (some ad) ws.length c] W fun e w' => ∃ h cap, e = .returned (.slice (some ⟨h, 0, none⟩) ws.length cap) ∧ w'.ownsRow W.heap.size 42 1 (.slice (some ⟨h, 0, none⟩) ws.length cap) ws.length (u64s ws) ∧ Below W.heap.size W w' := by
  obtain ⟨i0, hi, hz0, hz1, hz2⟩ := info_parts info42
  have HC := Lib.hid hc
  clear hc
  have hlen : (u64s ws).length = ws.length * 1 := by simp [u64s]
  have HLN := Lib.hid hlen
  clear hlen
  have hq := fun wx => Lib.run_eql_slice_nil (P := Tryd.prog) wx 32 42 (some ad) ws.length c 0 0 Tryd.underlying32
  go_enter Tryd.func43, Tryd.ntmps43
  go_wp2_with (at_builtin; refine wpList_append_own _ rfl _ _ 32 rfl W.heap.size 42 i0 (.int .u64 0) 1 8 Tryd.underlying32 hi hz0 hz1 hz2 rfl (by decide) _ 0 [] rfl (World.ownsRow_made W #[] 0 (Nat.le_refl _) (by decide) rfl) ad ws.length c (u64s ws) rfl ?c1 ?c2 (u64s_one ws) ?c4 ?c5 ?c6 ?_)
  case c1 => exact HLN.out
  case c2 => exact fun j u hu => (cell_al _ (HC.out j u hu))
  case c4 => simp [maxLen]; omega
  case c5 => omega
  case c6 => simp
  intro v' w1 hown hgr hnil
  go_wp2
  go_ret
  obtain ⟨g, cap, rfl, hg⟩ := own_form hown hnil
  exact ⟨g, cap, rfl, hown, ((Below.refl W.heap.size W).alloc (Nat.le_refl _) _).grown hgr (by simp) (fun k hk => by simp [Value.ownBlock] at hk; omega)⟩

theorem own_made (W : World) (n : Nat) (hn : n ≤ 1000) : (W.alloc (.cells (u64s (List.replicate n 0)).toArray 42)).ownsRow W.heap.size 42 1 (.slice (some ⟨W.heap.size, 0, none⟩) n n) n (u64s (List.replicate n 0)) :=
  ⟨by simp [u64s], .inr ⟨W.heap.size, n, _, rfl, Nat.le_refl _, heap_alloc_new W _, Nat.le_refl _, by simp [maxLen]; omega, by simp [u64s], by simp [u64s]⟩⟩

/-- What a row of words says, as a set does. -/
theorem own_set {w : World} {base h n room cap : Nat} {ws : List Nat} (ho : w.ownsRow base 42 1 (.slice (some ⟨h, 0, none⟩) n cap) n (u64s ws)) (hn : ws.length = n) (hr : n = (room + 63) / 64) (hr2 : room ≤ 4096)
    (hw : ∀ x, x ∈ ws → x < 18446744073709551616) : IsSet (w.alloc (.cells #[.int .i64 room, .slice (some ⟨h, 0, none⟩) n cap, .bool true] 55)) w.heap.size h room ws := by
  subst hn
  rcases ho.2 with ⟨h1, _⟩ | ⟨g', cap', cur, h1, hb, hh, hc, hm, hs, ht⟩
  · cases h1
  · injection h1 with a b c
    injection a with a
    injection a with a1
    subst a1 c
    rw [Nat.mul_one] at hs ht
    exact ⟨cap, cur, heap_alloc_new w _, (Below.heap_alloc w _ _ (Array.getElem?_eq_some_iff.1 hh).1).trans hh, hc, hm, hs, ht, hr, hr2, hw⟩

theorem made_words (n : Nat) : madeCells (Value.int .u64 0).cells (n * 1) = (u64s (List.replicate n 0)).toArray := by
  apply Array.ext
  · simp [madeCells, u64s]
  · intro i h1 h2
    simp [madeCells, u64s, Value.cells, Nat.mod_one]

set_option maxHeartbeats 400000 in
theorem New_ok (W : World) (n : Nat) (hn : n ≤ 4096) :
    Calls Tryd.prog 15 #[.int .i64 n] W fun e w' => ∃ g h, e = .returned (.tuple #[.pointer (some ⟨g, 0, none⟩), .int .i64 0]) ∧ IsSet w' g h n (List.replicate ((n + 63) / 64) 0) ∧ W.heap.size ≤ g ∧ W.heap.size ≤ h ∧ Below W.heap.size W w' := by
  obtain ⟨i0, hi, hz0, hz1, hz2⟩ := info_parts info42
  have hmk := run_make (P := Tryd.prog) W 32 42 i0 (.int .u64 0) Tryd.underlying32 hi hz0 .i64 .i64 (((n : Int) + 63) / 64) (((n : Int) + 63) / 64) (by omega) (by omega) (by rw [hz2]; omega) (by omega)
  rw [hz1, show (((n : Int) + 63) / 64).toNat = (n + 63) / 64 from by omega, made_words] at hmk
  go_enter Tryd.func15, Tryd.ntmps15
  go_wp2
  go_ret2
  have ho := own_made W ((n + 63) / 64) (by omega)
  have hs := own_set ho (by simp) rfl hn (fun x hx => by rw [List.eq_of_mem_replicate hx]; decide)
  rw [World.size_alloc] at hs
  exact ⟨W.heap.size + 1, W.heap.size, rfl, hs, by omega, by omega, ((Below.refl _ _).alloc (Nat.le_refl _) _).alloc (by simp) _⟩

set_option maxHeartbeats 400000 in
theorem New_bad (W : World) (n : Int) (hn : n < 0 ∨ 4096 < n) :
    Calls Tryd.prog 15 #[.int .i64 n] W fun e w' => e = .returned (.tuple #[.pointer none, .int .i64 30]) ∧ W = w' := by
  rcases hn with hn | hn
  · go_enter Tryd.func15, Tryd.ntmps15
    go_wp2
    go_ret2
    exact ⟨rfl, rfl⟩
  · have h' : ¬ n < 0 := by omega
    go_enter Tryd.func15, Tryd.ntmps15
    go_wp2
    go_ret2
    exact ⟨rfl, rfl⟩

/-- The words' cells, for Clone. -/
theorem IsSet.wordCells {W : World} {g h room : Nat} {ws : List Nat} (H : IsSet W g h room ws) : ∀ j u, (u64s ws)[j]? = some u → W.cell? ((⟨h, 0, none⟩ : Addr).add j) = some u := by
  intro j u hu
  have hj : j < ws.length := by
    rcases Nat.lt_or_ge j ws.length with h | h
    · exact h
    · simp [u64s, List.getElem?_eq_none h] at hu
  have e : (⟨h, 0, none⟩ : Addr).add j = ⟨h, j, none⟩ := by unfold Addr.add; split <;> simp_all
  rw [e, (H.word j hj).1]
  simp only [u64s, List.getElem?_map, List.getElem?_eq_getElem hj, Option.map_some, Option.some.injEq] at hu
  rw [← hu]; unfold wd; simp [List.getElem?_eq_getElem hj]

set_option maxHeartbeats 400000 in
theorem Words_set {W : World} {g h room : Nat} {ws : List Nat} (H : IsSet W g h room ws) :
    Calls Tryd.prog 32 #[.pointer (some ⟨g, 0, none⟩)] W fun e w' => ∃ k cap, e = .returned (.slice (some ⟨k, 0, none⟩) ws.length cap) ∧ w'.ownsRow W.heap.size 42 1 (.slice (some ⟨k, 0, none⟩) ws.length cap) ws.length (u64s ws) ∧ Below W.heap.size W w' := by
  obtain ⟨cap, h0, h1, h2, _⟩ := H.cells
  have al := Lib.hid (alive_set H)
  have hl : ws.length ≤ 17592186044416 := by have := H.len; omega
  have hc := Lib.hid (clone_words W ⟨h, 0, none⟩ ws cap H.wordCells hl)
  go_enter Tryd.func32, Tryd.ntmps32
  go_wp2_with (first | (go_at_call 42; refine al.out.mono ?_; rintro e w' ⟨rfl, rfl⟩) | (go_at_call 43; refine hc.out.mono ?_; rintro e w' ⟨k, cap, rfl, ho, hb⟩))
  go_ret
  exact ⟨k, _, rfl, ho, hb⟩
set_option maxHeartbeats 400000 in
theorem Words_dead {W : World} {v : Value} (H : Dead W v) :
    Calls Tryd.prog 32 #[v] W fun e w' => e = .returned (.slice none 0 0) ∧ W = w' := by
  have al := Lib.hid (alive_dead H)
  clear H
  go_enter Tryd.func32, Tryd.ntmps32
  go_wp2_with (go_at_call 42; refine al.out.mono ?_; rintro e w' ⟨rfl, rfl⟩)
  go_ret
  exact ⟨rfl, rfl⟩
set_option maxHeartbeats 400000 in
theorem Copy_dead {W : World} {v : Value} (H : Dead W v) :
    Calls Tryd.prog 17 #[v] W fun e w' => e = .returned (.pointer none) ∧ W = w' := by
  have al := Lib.hid (alive_dead H)
  clear H
  go_enter Tryd.func17, Tryd.ntmps17
  go_wp2_with (go_at_call 42; refine al.out.mono ?_; rintro e w' ⟨rfl, rfl⟩)
  go_ret
  exact ⟨rfl, rfl⟩
theorem heldS {W w2 : World} {g h room cap : Nat} {ws : List Nat} (H : IsSet W g h room ws) (h0 : W.cell? ⟨g, 0, none⟩ = some (.int .i64 room)) (h1 : W.cell? ⟨g, 1, none⟩ = some (.slice (some ⟨h, 0, none⟩) ws.length cap)) (hb : Below W.heap.size W w2) :
    w2.cell? ⟨g, 0, none⟩ = some (.int .i64 room) ∧ w2.cell? ⟨g, 1, none⟩ = some (.slice (some ⟨h, 0, none⟩) ws.length cap) ∧ IsSet w2 g h room ws ∧ Below W.heap.size W w2 :=
  ⟨(hb.cell (p := ⟨g, 0, none⟩) H.lt.1).trans h0, (hb.cell (p := ⟨g, 1, none⟩) H.lt.1).trans h1, H.below hb H.lt.1 H.lt.2.1, hb⟩

set_option maxHeartbeats 400000 in
theorem Copy_set {W : World} {g h room : Nat} {ws : List Nat} (H : IsSet W g h room ws) :
    Calls Tryd.prog 17 #[.pointer (some ⟨g, 0, none⟩)] W fun e w' => ∃ g' h', e = .returned (.pointer (some ⟨g', 0, none⟩)) ∧ IsSet w' g' h' room ws ∧ W.heap.size ≤ g' ∧ W.heap.size ≤ h' ∧ Below W.heap.size W w' := by
  obtain ⟨cap, h0, h1, h2, _⟩ := H.cells
  have al := Lib.hid (alive_set H)
  have hl : ws.length ≤ 17592186044416 := by have := H.len; omega
  have hc := Lib.hid (fun w2 (hs : IsSet w2 g h room ws) => clone_words w2 ⟨h, 0, none⟩ ws cap hs.wordCells hl)
  have hst := Lib.hid (fun (w2 : World) (k n cap : Nat) (ho : w2.ownsRow W.heap.size 42 1 (.slice (some ⟨k, 0, none⟩) ws.length cap) ws.length (u64s ws)) => own_set ho rfl H.len.1 H.len.2.1 H.len.2.2)
  go_enter Tryd.func17, Tryd.ntmps17
  go_wp2_with (first | (go_at_call 42; refine al.out.mono ?_; rintro e w' ⟨rfl, rfl⟩))
  go_region_held3 (fun w' => w'.cell? ⟨g, 0, none⟩ = some (.int .i64 room) ∧ w'.cell? ⟨g, 1, none⟩ = some (.slice (some ⟨h, 0, none⟩) ws.length cap) ∧ IsSet w' g h room ws ∧ Below W.heap.size W w')
    (first | exact heldS H h0 h1 (Below.refl _ _).drew | exact heldS H h0 h1 ((Below.refl _ _).drew.trans hb) | exact heldS H h0 h1 (((Below.refl _ _).drew.trans hb).alloc hb.size _))
    ((go_at_call 43; refine (hc.out W.drew (show IsSet W.drew g h room ws from H)).mono ?_; rintro e w2 ⟨k, cap2, rfl, ho, hb⟩))
  go_wp2
  go_ret
  exact ⟨w2.heap.size, k, rfl, hst.out w2 k 0 cap2 ho, hb.size, (ho.lt k rfl).1, ((Below.refl W.heap.size W).drew.trans hb).alloc hb.size _⟩
end Go.Proofs.YthfapneifbjlmaaDoor
