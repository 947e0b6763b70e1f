/- The set of layer 3: All. -/
import Derived.Test.YthfapneifbjlmaaDoorC
import Derived.Test.YthfapneifbjlmaaDoorSep
import Derived.Test.YthfapneifbjlmaaDoorBits
import Derived.RangeFuncBound
import Derived.Shelf.Abstract
import Derived.Shelf.RegionOpen
import Derived.OwnWalkIn
import Derived.TacticsInMore
import Derived.LoopNIn
import Derived.LoopIn
import Derived.Laws.Bits64b
namespace Go.Proofs.YthfapneifbjlmaaDoor
open Go.RowKit Go.Shelf
attribute [local go_sem] Oper.semAt_some
set_option linter.unusedVariables false
set_option linter.unusedSimpArgs false

/-- math/bits's table, as its variable holds it. -/
def Tab (w : World) : Prop := ∀ j, j < 64 → w.cell? ⟨0, j, none⟩ = some (.int .u8 (Lib.deBruijn64tab.getD j 0))
theorem Tab.kept {M : Nat → Prop} {a b : World} (h : Tab a) (hf : Fr M a b) (hn : ¬ M 0) : Tab b := fun j hj => hf.cell (h j hj) hn

theorem tz_key (x a : Nat) (hx : x < 18446744073709551616) (hx0 : x ≠ 0) (hlow : x &&& (18446744073709551616 - x) = a) :
    IntKind.u64.wrap (bits BinOp.and IntKind.u64 (x : Int) (IntKind.u64.wrap (-(x : Int))) * 285870213051353865) / 288230376151711744 = ((a * 285870213051353865 % 18446744073709551616 / 288230376151711744 : Nat) : Int) := by
  have e1 : IntKind.u64.wrap (-(x : Int)) = ((18446744073709551616 - x : Nat) : Int) := by rw [IntKind.wrap_u64]; omega
  rw [e1, bits_and_u64_nat x _ hx (by omega), hlow, IntKind.wrap_u64]
  omega
set_option maxHeartbeats 1000000 in
theorem tz_core (x k idx : Nat) (w : World) (hx0 : ((x : Int) == 0) = false)
    (key : IntKind.u64.wrap (bits BinOp.and IntKind.u64 (x : Int) (IntKind.u64.wrap (-(x : Int))) * 285870213051353865) / 288230376151711744 = (idx : Int))
    (hi : idx < 64) (hk : k < 64) (hcell : w.cell? ⟨0, idx, none⟩ = some (.int .u8 k)) :
    Calls Tryd.prog 54 #[.int .u64 x] w fun e w' => e = .returned (.int .i64 k) ∧ w = w' := by
  go_enter Tryd.func54, Tryd.ntmps54
  go_wp2_with (simp only [key])
  go_ret
  exact ⟨rfl, rfl⟩
theorem tz_any (x : Nat) (hx0 : x ≠ 0) (hx : x < 18446744073709551616) (w : World) (hT : Tab w) :
    Calls Tryd.prog 54 #[.int .u64 x] w fun e w' => e = .returned (.int .i64 (Lib.ctz 64 x)) ∧ w = w' := by
  obtain ⟨hlow, hk⟩ := Lib.lowest_bit 64 x hx0 hx
  obtain ⟨hi, htab⟩ := Lib.deBruijn64_at _ hk
  have hcell := hT _ hi
  rw [htab] at hcell
  exact tz_core x _ _ w (by simp; omega) (tz_key x _ hx hx0 hlow) hi hk hcell

set_option maxHeartbeats 400000 in
theorem All_any (W : World) (v : Value) (hv : v = .pointer none ∨ ∃ a, v = .pointer (some a)) :
    Calls Tryd.prog 33 #[v] W fun e w' => e = .returned (.func (.func 53) #[] #[.pointer (some ⟨W.heap.size, 0, none⟩)]) ∧ W.alloc (.cells #[v] 33) = w' := by
  rcases hv with rfl | ⟨a, rfl⟩
  · go_enter Tryd.func33, Tryd.ntmps33
    go_wp2
    go_ret
    exact ⟨rfl, rfl⟩
  · go_enter Tryd.func33, Tryd.ntmps33
    go_wp2
    go_ret
    exact ⟨rfl, rfl⟩

set_option maxHeartbeats 400000 in
/-- All of what is no set: nothing comes. -/
theorem all_dead (Bx : Nat) (v : Value) :
    SeqSep Tryd.prog 53 #[.pointer (some ⟨Bx, 0, none⟩)] (fun i : Nat => #[.int .i64 i]) (fun _ _ => False) (fun _ _ => True) (fun xs => xs = []) (fun pre => pre = []) (fun W _ => W.cell? ⟨Bx, 0, none⟩ = some v ∧ Dead W v) := by
  intro l n J Jx W D ⟨hBx, hd⟩ hD hJ hJx h0 hY
  have al := Lib.hid (callsIn_wide (n := n).2 (alive_dead hd))
  clear hY
  refine callsIn_of_wp Tryd.func53 rfl trivial ?_ rfl
  simp only [Tryd.ntmps53, List.size_toArray, List.length_cons, List.length_nil, Nat.reduceAdd, Nat.reduceSub, Array.replicate_succ, Array.replicate_zero, List.push_toArray, List.append_toArray, List.nil_append, List.cons_append]
  gi_wp2_with (first | (refine ⟨trivial, ?_⟩; gi_at_call 42; refine al.out.mono ?_; rintro e w' ⟨rfl, rfl⟩) | (gi_at_call 42; refine al.out.mono ?_; rintro e w' ⟨rfl, rfl⟩))
  refine bodyPost_ret (results_none rfl _ _ _) rfl ?_
  exact ⟨⟨_, rfl⟩, D, Fr.refl _ _, fun k hk => ⟨.inl hk, hD k hk⟩, .inl ⟨[], rfl, h0⟩⟩

/-- A row of words that is the call's own is kept. -/
theorem row_cells {w : World} {base h n cap : Nat} {ws : List Nat} (ho : w.ownsRow base 42 1 (.slice (some ⟨h, 0, none⟩) n cap) n (u64s ws)) (hn : n = ws.length) :
    base ≤ h ∧ h < w.heap.size ∧ ∀ j, j < ws.length → w.cell? ⟨h, j, none⟩ = some (.int .u64 (wd ws j)) := by
  subst hn
  refine ⟨(ho.lt h rfl).1, (ho.lt h rfl).2, fun j hj => ?_⟩
  have e : (⟨h, 0, none⟩ : Addr).add j = ⟨h, j, none⟩ := by unfold Addr.add; split <;> simp_all
  have := ho.cells (g := h) rfl j (.int .u64 (wd ws j)) (by simp [u64s, wd, List.getElem?_eq_getElem hj])
  rwa [e] at this

/-- What holds between two rounds: pre has come. -/
structure AllInv (J : List Nat → World → (Nat → Prop) → Prop) (W : World) (D : Nat → Prop) (c : Nat) (ws : List Nat) (pre : List Nat) (wr : World) (D1 : Nat → Prop) : Prop where
  j : J pre wr D1
  own : ∀ k, D1 k → (D k ∨ W.heap.size ≤ k) ∧ k < wr.heap.size
  row : ¬ D1 c
  fr : Fr D W wr
  cells : ∀ j, j < ws.length → wr.cell? ⟨c, j, none⟩ = some (.int .u64 (wd ws j))
  tab : Tab wr
  zero : ¬ D1 0
theorem AllInv.round {J J' : List Nat → World → (Nat → Prop) → Prop} {W : World} {D : Nat → Prop} {c : Nat} {ws pre pre' : List Nat} {wr W' : World} {D1 D' : Nat → Prop} (h : AllInv J W D c ws pre wr D1) (hlt : 0 < ws.length ) (hW : 0 < W.heap.size)
    (hR : Round D1 (fun _ => False) wr W' D') (hj : J' pre' W' D') : AllInv J' W D c ws pre' W' D' := by
  have hc : c < wr.heap.size := World.block_lt_of_cell? wr _ (h.cells 0 hlt)
  have hn : ∀ k, ¬ D1 k → ¬ (D1 k ∨ False) := fun k hk h => h.elim hk id
  refine ⟨hj, fun k hk => ?_, fun hk => ?_, ⟨hR.fr.os.trans h.fr.os, hR.fr.tape.trans h.fr.tape, hR.fr.output.trans h.fr.output, Nat.le_trans h.fr.size hR.fr.size, fun k hk hnk => (hR.fr.block k (Nat.lt_of_lt_of_le hk h.fr.size) (hn k (fun h1 => (h.own k h1).1.elim hnk (fun h2 => by omega)))).trans (h.fr.block k hk hnk)⟩, fun j hj => hR.fr.cell (h.cells j hj) (hn _ h.row), h.tab.kept hR.fr (hn _ h.zero), fun hk => ?_⟩
  · obtain ⟨h1, h2⟩ := hR.own k hk
    refine ⟨?_, h2⟩
    rcases h1 with h1 | h1 | h1
    · exact (h.own k h1).1
    · exact h1.elim
    · exact .inr (Nat.le_trans h.fr.size h1)
  · obtain ⟨h1, _⟩ := hR.own c hk
    rcases h1 with h1 | h1 | h1
    · exact h.row h1
    · exact h1
    · omega
  · obtain ⟨h1, _⟩ := hR.own 0 hk
    rcases h1 with h1 | h1 | h1
    · exact h.zero h1
    · exact h1
    · have := h.fr.size; omega

set_option maxHeartbeats 1000000 in
/-- All of a set: its numbers, rising. -/
theorem all_set (Bx g h room : Nat) (ws : List Nat) :
    SeqSep Tryd.prog 53 #[.pointer (some ⟨Bx, 0, none⟩)] (fun i : Nat => #[.int .i64 i]) (fun _ _ => False) (fun i _ => i < 64 * ws.length) (fun xs => xs = mems 0 ws) (fun pre => pre <+: mems 0 ws)
      (fun W D => W.cell? ⟨Bx, 0, none⟩ = some (.pointer (some ⟨g, 0, none⟩)) ∧ IsSet W g h room ws ∧ Tab W ∧ ¬ D 0) := by
  intro l n J Jx W D ⟨hBx, hS, hT, hD0⟩ hD hJ hJx h0 hY
  have al := Lib.hid (callsIn_wide (n := n).2 (alive_set hS))
  obtain ⟨cap0, hc0, hc1, hc2, hcap⟩ := hS.cells
  have hl : ws.length ≤ 17592186044416 := by have := hS.len; omega
  have hl2 : ws.length ≤ 64 := by have := hS.len; omega
  have hcl := Lib.hid (callsIn_wide (n := n).2 (clone_words W ⟨h, 0, none⟩ ws cap0 hS.wordCells hl))
  have h1n : 1 ≤ n + 1 := by omega
  have hWp : 0 < W.heap.size := World.block_lt_of_cell? W _ (hT 0 (by omega))
  refine callsIn_of_wp Tryd.func53 rfl trivial ?_ rfl
  simp only [Tryd.ntmps53, List.size_toArray, List.length_cons, List.length_nil, Nat.reduceAdd, Nat.reduceSub, Array.replicate_succ, Array.replicate_zero, List.push_toArray, List.append_toArray, List.nil_append, List.cons_append]
  gi_wp2_with (first | (refine ⟨trivial, ?_⟩; gi_at_call 42; refine al.out.mono ?_; rintro e w' ⟨rfl, rfl⟩) | (refine ⟨trivial, ?_⟩; gi_at_call 43; refine hcl.out.mono ?_; rintro e w1 ⟨c, cap, rfl, ho, hb⟩))
  obtain ⟨hcb, hclt, hcc⟩ := row_cells ho rfl
  have hInv : AllInv J W D c ws [] w1 D := ⟨hJ _ _ _ _ h0 (fun k hk => hb.block k (hD k hk)), fun k hk => ⟨.inl hk, Nat.lt_of_lt_of_le (hD k hk) hb.size⟩, fun hk => by have := hD c hk; omega, .of_below hb, hcc, hT.kept (M := fun _ => False) (.of_below hb) id, hD0⟩
  clear ho hcc h0
  gi_loopw [14] (fun i wr => ∃ (k : Nat) (D1 : Nat → Prop), k ≤ ws.length ∧ i = .int .i64 k ∧ AllInv J W D c ws (mems 0 (ws.take k)) wr D1) (fun i _ => ws.length - (intOf i).toNat)
  case atStart => exact ⟨0, D, Nat.zero_le _, rfl, hInv⟩
  case round =>
    obtain ⟨k, D1, hk, rfl, hi⟩ := hrel
    by_cases hlt : k < ws.length
    · have hcell := hi.cells k hlt
      have hk64 : (k : Int) < 64 := by omega
      have hvlt : wd ws k < 18446744073709551616 := hS.getD_lt k
      have hsnoc := mems_snoc (wd ws k) (ws.take k) 0
      have htk : ws.take (k + 1) = ws.take k ++ [wd ws k] := by
        rw [List.take_succ_eq_append_getElem hlt]; simp [wd, List.getElem?_eq_getElem hlt]
      have hlen : (ws.take k).length = k := by simp; omega
      rw [← htk, hlen, Nat.zero_add] at hsnoc
      have HSN := Lib.hid hsnoc
      clear hsnoc htk hlen
      obtain ⟨wo, rfl⟩ : ∃ wo : World, wo = wr := ⟨_, rfl⟩
      gi_wp2
      gi_loopw [4] (fun x wr => ∃ (v : Nat) (pre : List Nat) (D2 : Nat → Prop), v < 18446744073709551616 ∧ x = .int .u64 v ∧ mems 0 (ws.take (k + 1)) = pre ++ (wbits v).map (fun j => 64 * k + j) ∧ AllInv J W D c ws pre wr D2) (fun x _ => (intOf x).toNat)
      case atStart => exact ⟨wd ws k, _, D1, hvlt, rfl, HSN.out, hi⟩
      case round =>
        obtain ⟨v, pre, D2, hv, rfl, hpre, hi2⟩ := hrel
        by_cases hv0 : v = 0
        · subst hv0
          gi_wp2
          go_roundw
          case rel => exact ⟨k + 1, D2, by omega, by simp, by rw [hpre, wbits_zero, List.map_nil, List.append_nil]; exact hi2⟩
          case measure => simp [intOf]; omega
        · obtain ⟨hst, hc64⟩ := wbits_step v hv0 hv
          have htz := Lib.hid (callsIn_wide (n := n).2 (tz_any v hv0 hv wr hi2.tab))
          have hne : ((v : Int) != 0) = true := by rw [bne_iff_ne]; omega
          have hslt := step_lt v hv0
          have hand := u64_and_nat v (v - 1) hv (by omega)
          rw [show ((v - 1 : Nat) : Int) = (v : Int) - 1 from by omega] at hand
          have HA := Lib.hid hand
          clear hand
          have hj := hY pre (64 * k + Lib.ctz 64 v) wr D2 hi2.j (fun k hk => (hi2.own k hk).2) (by omega) (fun _ h => h.elim)
          have hpre2 : mems 0 (ws.take (k + 1)) = (pre ++ [64 * k + Lib.ctz 64 v]) ++ (wbits (v &&& (v - 1))).map (fun j => 64 * k + j) := by
            rw [hpre, hst]; simp
          have HP := Lib.hid hpre2
          clear hpre2 hpre hst
          generalize Lib.ctz 64 v = t at *
          have hpos : 0 < (v : Int) := by omega
          have hv64 : (v : Int) < 18446744073709551616 := by omega
          clear hv0
          obtain ⟨fn, tmps, assign, body, hy, hR⟩ := hj
          have hcast : (((64 * k + t : Nat)) : Int) = 64 * (k : Int) + (t : Int) := by omega
          rw [hcast] at hy
          clear hcast
          gi_wp2_with (first | (refine ⟨trivial, ?_⟩; gi_at_call 54; refine htz.out.mono ?_; rintro e w' ⟨rfl, rfl⟩))
          refine hR.mono ?_
          rintro e W3 ⟨D', hRd, (⟨rfl, hJ3⟩ | ⟨rfl, hJx3⟩)⟩
          · have hi3 := hi2.round (by omega) hWp hRd hJ3
            gi_wp2
            go_roundw
            case rel => exact ⟨v &&& (v - 1), _, D', and_lt _ hv, by rw [HA.out], HP.out, hi3⟩
            case measure => rw [HA.out]; simp only [intOf]; omega
          · have hi3 : AllInv Jx W D c ws (pre ++ [64 * k + t]) W3 D' := hi2.round (by omega) hWp hRd hJx3
            gi_wp2
            refine bodyPost_ret (results_none rfl _ _ _) rfl ?_
            exact ⟨⟨_, rfl⟩, D', hi3.fr, hi3.own, .inr ⟨_, (show pre ++ [64 * k + t] <+: mems 0 ws from List.IsPrefix.trans ⟨_, HP.out.symm⟩ (mems_take ws (k + 1))), hi3.j⟩⟩
    · obtain rfl : k = ws.length := by omega
      gi_wp2
      go_end0
      exact ⟨⟨_, rfl⟩, D1, hi.fr, hi.own, .inl ⟨_, by rw [List.take_length], hi.j⟩⟩
end Go.Proofs.YthfapneifbjlmaaDoor
