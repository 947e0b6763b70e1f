/- Layer 3: does: a copy, the words again, no set at all. -/
import Derived.Test.YthfapneifbjlmaaDoorMC
import Derived.Test.YthfapneifbjlmaaDoorME
import Derived.BigRegion
import Derived.RegionTactic
section
namespace Go.Proofs.YthfapneifbjlmaaDoor
open Go.RowKit Go.Shelf
attribute [local go_sem] Oper.semAt_some
set_option linter.unusedVariables false
set_option linter.unusedSimpArgs false

set_option maxHeartbeats 800000 in
theorem with_room {W : World} {g h room : Nat} {ws : List Nat} (H : IsSet W g h room ws) {g' h' room' : Nat} {vs : List Nat} (H' : IsSet W g' h' room' vs) (hne : room' ≠ room) (f : Value) :
    Calls Tryd.prog 44 #[.pointer (some ⟨g, 0, none⟩), .pointer (some ⟨g', 0, none⟩), f] W fun e w' => e = .returned (.int .i64 30) ∧ ∃ n, W.drewN n = w' := by
  obtain ⟨cap, h0, h1, h2, hcap⟩ := H.cells
  obtain ⟨cap', h0', h1', h2', hcap'⟩ := H'.cells
  have al := Lib.hid (alive_set H)
  have al' := Lib.hid (fun n => alive_set (H'.drewN n))
  have hb : ((room' : Int) != (room : Int)) = true := by rw [bne_iff_ne]; omega
  clear H H' hne
  go_enter Tryd.func44, Tryd.ntmps44
  go_wp2_with (go_at_call 42; refine al.out.mono ?_; rintro e w' ⟨rfl, rfl⟩)
  go_quiet ((go_at_call 42; exact Calls.quiet_of_same ((al'.out _).mono (fun e w' h => ⟨h.1, h.2.symm⟩))))
  go_wp2
  go_ret
  exact ⟨rfl, nq, rfl⟩
set_option maxHeartbeats 800000 in
theorem with_none {W : World} {g h room : Nat} {ws : List Nat} (H : IsSet W g h room ws) {v : Value} (H' : Dead W v) (f : Value) :
    Calls Tryd.prog 44 #[.pointer (some ⟨g, 0, none⟩), v, f] W fun e w' => e = .returned (.int .i64 30) ∧ ∃ n, W.drewN n = w' := by
  obtain ⟨cap, h0, h1, h2, hcap⟩ := H.cells
  have al := Lib.hid (alive_set H)
  have al' := Lib.hid (fun n => alive_dead (H'.drewN n))
  clear H H'
  go_enter Tryd.func44, Tryd.ntmps44
  go_wp2_with (go_at_call 42; refine al.out.mono ?_; rintro e w' ⟨rfl, rfl⟩)
  go_quiet ((go_at_call 42; exact Calls.quiet_of_same ((al'.out _).mono (fun e w' h => ⟨h.1, h.2.symm⟩))))
  go_wp2
  go_ret
  exact ⟨rfl, nq, rfl⟩
set_option maxHeartbeats 400000 in
theorem Or_30 {W : World} {a b : Value} (hw : ∀ f, Calls Tryd.prog 44 #[a, b, f] W fun e w' => e = .returned (.int .i64 30) ∧ ∃ n, W.drewN n = w') : Calls Tryd.prog 20 #[a, b] W fun e w' => e = .returned (.int .i64 30) ∧ ∃ n, W.drewN n = w' := by
  have HW := Lib.hid hw
  clear hw
  go_enter Tryd.func20, Tryd.ntmps20
  go_wp2_with (go_at_call 44; refine (HW.out _).mono ?_; rintro e w' ⟨rfl, n, rfl⟩)
  go_ret
  exact ⟨rfl, n, rfl⟩
set_option maxHeartbeats 400000 in
theorem And_30 {W : World} {a b : Value} (hw : ∀ f, Calls Tryd.prog 44 #[a, b, f] W fun e w' => e = .returned (.int .i64 30) ∧ ∃ n, W.drewN n = w') : Calls Tryd.prog 19 #[a, b] W fun e w' => e = .returned (.int .i64 30) ∧ ∃ n, W.drewN n = w' := by
  have HW := Lib.hid hw
  clear hw
  go_enter Tryd.func19, Tryd.ntmps19
  go_wp2_with (go_at_call 44; refine (HW.out _).mono ?_; rintro e w' ⟨rfl, n, rfl⟩)
  go_ret
  exact ⟨rfl, n, rfl⟩
set_option maxHeartbeats 400000 in
theorem Without_30 {W : World} {a b : Value} (hw : ∀ f, Calls Tryd.prog 44 #[a, b, f] W fun e w' => e = .returned (.int .i64 30) ∧ ∃ n, W.drewN n = w') : Calls Tryd.prog 18 #[a, b] W fun e w' => e = .returned (.int .i64 30) ∧ ∃ n, W.drewN n = w' := by
  have HW := Lib.hid hw
  clear hw
  go_enter Tryd.func18, Tryd.ntmps18
  go_wp2_with (go_at_call 44; refine (HW.out _).mono ?_; rintro e w' ⟨rfl, n, rfl⟩)
  go_ret
  exact ⟨rfl, n, rfl⟩

set_option maxHeartbeats 800000 in
theorem fits_room {W : World} {g h room : Nat} {ws : List Nat} (H : IsSet W g h room ws) {g' h' room' : Nat} {vs : List Nat} (H' : IsSet W g' h' room' vs) (hne : room' ≠ room) :
    Calls Tryd.prog 49 #[.pointer (some ⟨g, 0, none⟩), .pointer (some ⟨g', 0, none⟩)] W fun e w' => e = .returned (.bool false) ∧ ∃ n, W.drewN n = w' := by
  obtain ⟨cap, h0, h1, h2, hcap⟩ := H.cells
  obtain ⟨cap', h0', h1', h2', hcap'⟩ := H'.cells
  have hb : ((room : Int) == (room' : Int)) = false := by rw [beq_eq_false_iff_ne]; omega
  have al : ∀ n v, (v = .pointer (some ⟨g, 0, none⟩) ∨ v = .pointer (some ⟨g', 0, none⟩)) → Calls Tryd.prog 42 #[v] (W.drewN n) fun e w' => e = .returned (.bool true) ∧ w' = W.drewN n := by
    rintro n v (rfl | rfl)
    · exact (alive_set (H.drewN n)).mono (fun e w' h => ⟨h.1, h.2.symm⟩)
    · exact (alive_set (H'.drewN n)).mono (fun e w' h => ⟨h.1, h.2.symm⟩)
  have al := Lib.hid al
  clear H H' hne
  go_enter Tryd.func49, Tryd.ntmps49
  go_wp2
  go_quiet ((go_at_call 42; exact Calls.quiet_of_same (al.out _ _ (by first | exact .inl rfl | exact .inr rfl))))
  go_wp2
  go_ret
  exact ⟨rfl, nq, rfl⟩
set_option maxHeartbeats 800000 in
theorem fits_none {W : World} {g h room : Nat} {ws : List Nat} (H : IsSet W g h room ws) {v : Value} (H' : Dead W v) (hv : v ≠ .pointer (some ⟨g, 0, none⟩)) :
    Calls Tryd.prog 49 #[.pointer (some ⟨g, 0, none⟩), v] W fun e w' => e = .returned (.bool false) ∧ ∃ n, W.drewN n = w' := by
  obtain ⟨cap, h0, h1, h2, hcap⟩ := H.cells
  have al := Lib.hid (fun n => alive_set (H.drewN n))
  have al' := Lib.hid (fun n => alive_dead (H'.drewN n))
  rcases H' with rfl | ⟨g', rfl, -⟩
  · clear H hv
    go_enter Tryd.func49, Tryd.ntmps49
    go_wp2
    go_quiet ((first | (go_at_call_of 42 (Value.pointer none); exact Calls.quiet_of_same ((al'.out _).mono (fun e w' h => ⟨h.1, h.2.symm⟩))) | (go_at_call 42; exact Calls.quiet_of_same ((al.out _).mono (fun e w' h => ⟨h.1, h.2.symm⟩)))))
    go_wp2
    go_ret
    exact ⟨rfl, nq, rfl⟩
  · clear H hv
    go_enter Tryd.func49, Tryd.ntmps49
    go_wp2
    go_quiet ((first | (go_at_call_of 42 (Value.pointer (some ⟨g', 0, none⟩)); exact Calls.quiet_of_same ((al'.out _).mono (fun e w' h => ⟨h.1, h.2.symm⟩))) | (go_at_call 42; exact Calls.quiet_of_same ((al.out _).mono (fun e w' h => ⟨h.1, h.2.symm⟩)))))
    go_wp2
    go_ret
    exact ⟨rfl, nq, rfl⟩
set_option maxHeartbeats 400000 in
theorem Within_no {W : World} {a b : Value} (hf : Calls Tryd.prog 49 #[a, b] W fun e w' => e = .returned (.bool false) ∧ ∃ n, W.drewN n = w') : Calls Tryd.prog 23 #[a, b] W fun e w' => e = .returned (.bool false) ∧ ∃ n, W.drewN n = w' := by
  have HF := Lib.hid hf
  clear hf
  go_enter Tryd.func23, Tryd.ntmps23
  go_wp2_with (go_at_call 49; refine HF.out.mono ?_; rintro e w' ⟨rfl, n, rfl⟩)
  go_ret
  exact ⟨rfl, n, rfl⟩
set_option maxHeartbeats 400000 in
theorem Same_no {W : World} {g : Nat} {b : Value} (hf : ∀ n, Calls Tryd.prog 49 #[.pointer (some ⟨g, 0, none⟩), b] (W.drewN n) fun e w' => e = .returned (.bool false) ∧ ∃ m, (W.drewN n).drewN m = w') : Calls Tryd.prog 22 #[.pointer (some ⟨g, 0, none⟩), b] W fun e w' => e = .returned (.bool false) ∧ ∃ n, W.drewN n = w' := by
  have HF := Lib.hid hf
  clear hf
  go_enter Tryd.func22, Tryd.ntmps22
  go_wp2
  go_quiet ((go_at_call 49; exact Calls.quiet_of ((HF.out _).mono (fun e w' h => ⟨h.1, h.2.imp (fun _ h => h.symm)⟩))))
  go_wp2
  go_ret
  exact ⟨rfl, nq, rfl⟩
end Go.Proofs.YthfapneifbjlmaaDoor
end

section
namespace Go.Proofs.YthfapneifbjlmaaDoor
open Go.RowKit Go.Shelf
attribute [local go_sem] Oper.semAt_some
set_option linter.unusedVariables false
set_option linter.unusedSimpArgs false

theorem RIs.free {W : World} {gp : Nat} {A : Option Addr} {In : List Bool} (h : RIs W gp A In) {rb : Nat} (hA : A = some ⟨rb, 0, none⟩) (j : Nat) (hj : j < In.length) : W.frozen? ⟨rb, j, none⟩ = false := by
  obtain ⟨rb', cs, e, hr, _⟩ := h.2.2 j hj
  rw [hA] at e; cases e
  simp [World.frozen?, hr]
theorem RIs.put {W : World} {gp : Nat} {A : Option Addr} {In : List Bool} (h : RIs W gp A In) {rb : Nat} (hA : A = some ⟨rb, 0, none⟩) (i : Nat) (hi : i < In.length) (b : Bool) : RIs (W.setCell ⟨rb, i, none⟩ (.bool b)) gp A (In.set i b) := by
  obtain ⟨⟨cap, a, a2⟩, hl, c⟩ := h
  obtain ⟨rb0, cs0, e0, hr0, hc0⟩ := c i hi
  rw [hA] at e0; cases e0
  have hgr : gp ≠ rb := by
    rintro rfl
    rw [a] at hr0; injection hr0 with hr0; injection hr0 with _ h2 _; exact absurd h2 (by decide)
  refine ⟨⟨cap, (Below.heap_setCell _ _ _ _ hgr).trans (by rw [List.length_set]; exact a), by rw [List.length_set]; exact a2⟩, by rw [List.length_set]; exact hl, fun j hj => ?_⟩
  rw [List.length_set] at hj
  obtain ⟨rb', cs, e, hr, hc⟩ := c j hj
  rw [hA] at e; cases e
  refine ⟨rb, _, hA, heap_set_same hr i _, ?_⟩
  rw [cell_of_row _ rb j _ _ _ (heap_set_same hr i _)]
  have hcj : cs[j]? = some (.bool (In.getD j false)) := (cell_of_row W rb j _ _ _ hr).symm.trans hc
  by_cases hij : i = j
  · subst hij
    have hlt : i < cs.size := by
      rcases Nat.lt_or_ge i cs.size with h1 | h1
      · exact h1
      · rw [Array.getElem?_eq_none h1] at hcj; cases hcj
    rw [Array.getElem?_setIfInBounds_self_of_lt hlt]
    simp [List.getElem?_set, hi]
  · rw [Array.getElem?_setIfInBounds_ne hij, hcj]
    simp [List.getElem?_set, hij]

set_option maxHeartbeats 400000 in
theorem rTurn_in {W : World} {gp : Nat} {A : Option Addr} {In : List Bool} (H : RIs W gp A In) (i : Nat) (hi : i < In.length) (b : Bool) :
    Calls Tryd.prog 51 #[.pointer (some ⟨gp, 0, none⟩), .int .i64 i, .bool b] W fun e w' => e = .returned (.int .i64 0) ∧ RIs w' gp A (In.set i b) ∧ Fr (fun k => A = some ⟨k, 0, none⟩ ∧ 0 < In.length) W w' := by
  obtain ⟨cap, h0, h1, hcap⟩ := H.cells
  obtain ⟨rb, cs, rfl, hr, hc⟩ := H.2.2 i hi
  have hf := H.free rfl i hi
  have hl := H.2.1
  have HP := Lib.hid (H.put rfl i hi b)
  clear H
  go_enter Tryd.func51, Tryd.ntmps51
  go_wp2
  go_ret
  exact ⟨rfl, HP.out, Fr.setCell _ _ _ (fun _ => ⟨rfl, by omega⟩)⟩
set_option maxHeartbeats 400000 in
theorem rTurn_out {W : World} {gp : Nat} {A : Option Addr} {In : List Bool} (H : RIs W gp A In) (i : Int) (hi : ¬ (0 ≤ i ∧ i < In.length)) (b : Bool) :
    Calls Tryd.prog 51 #[.pointer (some ⟨gp, 0, none⟩), .int .i64 i, .bool b] W fun e w' => e = .returned (.int .i64 30) ∧ W = w' := by
  obtain ⟨cap, h0, h1, hcap⟩ := H.cells
  have hl := H.2.1
  clear H
  by_cases h2 : 0 ≤ i
  · have h3 : (In.length : Int) ≤ i := by omega
    clear hi
    go_enter Tryd.func51, Tryd.ntmps51
    go_wp2
    go_ret
    exact ⟨rfl, rfl⟩
  · have h3 : i < 0 := by omega
    clear hi
    go_enter Tryd.func51, Tryd.ntmps51
    go_wp2
    go_ret
    exact ⟨rfl, rfl⟩

/-- The truths when the first k have been joined. -/
def mixB (f : Bool → Bool → Bool) (a b : List Bool) (k : Nat) : List Bool := (List.range a.length).map fun j => if j < k then f (a.getD j false) (b.getD j false) else a.getD j false
theorem mixB_len (f : Bool → Bool → Bool) (a b : List Bool) (k : Nat) : (mixB f a b k).length = a.length := by simp [mixB]
theorem mixB_zero (f : Bool → Bool → Bool) (a b : List Bool) : mixB f a b 0 = a := by
  refine List.ext_getElem (by simp [mixB]) (fun j h1 h2 => by simp [mixB, List.getElem?_eq_getElem h2])
theorem mixB_at (f : Bool → Bool → Bool) (a b : List Bool) (k j : Nat) (hj : j < a.length) : (mixB f a b k).getD j false = if j < k then f (a.getD j false) (b.getD j false) else a.getD j false := by
  simp [mixB, hj]
theorem mixB_set (f : Bool → Bool → Bool) (a b : List Bool) (k : Nat) (hk : k < a.length) : (mixB f a b k).set k (f (a.getD k false) (b.getD k false)) = mixB f a b (k + 1) := by
  refine List.ext_getElem (by simp [mixB]) (fun j h1 h2 => ?_)
  rw [List.getElem_set]
  by_cases h : k = j
  · subst h; simp [mixB]
  · simp only [if_neg h]
    simp only [mixB, List.getElem_map, List.getElem_range]
    by_cases hj : j < k
    · simp [hj, show j < k + 1 by omega]
    · simp [hj, show ¬ j < k + 1 by omega]

theorem rJoin_no {W : World} {gp : Nat} {A : Option Addr} {In : List Bool} (H : RIs W gp A In) {gp' : Nat} {A' : Option Addr} {In' : List Bool} (H' : RIs W gp' A' In') (hne : In'.length ≠ In.length) (kind : Int) :
    Calls Tryd.prog 52 #[.pointer (some ⟨gp, 0, none⟩), .int .i64 kind, .pointer (some ⟨gp', 0, none⟩)] W fun e w' => e = .returned (.int .i64 30) ∧ ∃ n, W.drewN n = w' := by
  obtain ⟨cap, h0, h1, hcap⟩ := H.cells
  obtain ⟨cap', h0', h1', hcap'⟩ := H'.cells
  have hb : ((In'.length : Int) != (In.length : Int)) = true := by rw [bne_iff_ne]; omega
  clear H H' hne
  go_enter Tryd.func52, Tryd.ntmps52
  go_wp2
  go_quiet (fail)
  go_wp2
  go_ret
  exact ⟨rfl, nq, rfl⟩

set_option maxHeartbeats 4000000 in
set_option maxRecDepth 100000 in
theorem rJoin_or {W : World} {gp : Nat} {A : Option Addr} {In : List Bool} (H : RIs W gp A In) {gp' : Nat} {A' : Option Addr} {In' : List Bool} (H' : RIs W gp' A' In') (hlen : In'.length = In.length) :
    Calls Tryd.prog 52 #[.pointer (some ⟨gp, 0, none⟩), .int .i64 1, .pointer (some ⟨gp', 0, none⟩)] W fun e w' => e = .returned (.int .i64 0) ∧ RIs w' gp A (mixB (fun x y => x || y) In In' In.length) ∧ Fr (fun k => A = some ⟨k, 0, none⟩ ∧ 0 < In.length) W w' := by
  obtain ⟨cap, h0, h1, hcap⟩ := H.cells
  obtain ⟨cap', h0', h1', hcap'⟩ := H'.cells
  rw [hlen] at h1'
  have HS := Lib.hid H
  have HS' := Lib.hid H'
  have hl := H.2.1
  have HL := Lib.hid hlen
  have hbn : ((In.length : Int) != (In.length : Int)) = false := by simp
  have hgp' : ¬ (A = some ⟨gp', 0, none⟩ ∧ 0 < In.length) := by
    rintro ⟨rfl, hz⟩
    obtain ⟨rb, cs, e, hr, _⟩ := H.2.2 0 (by omega)
    cases e
    obtain ⟨⟨_, ha, _⟩, _⟩ := H'
    rw [ha] at hr; injection hr with hr; injection hr with _ h2 _; exact absurd h2 (by decide)
  have hgp : ¬ (A = some ⟨gp, 0, none⟩ ∧ 0 < In.length) := by
    rintro ⟨rfl, hz⟩
    obtain ⟨rb, cs, e, hr, _⟩ := H.2.2 0 (by omega)
    cases e
    obtain ⟨⟨_, ha, _⟩, _⟩ := H
    rw [ha] at hr; injection hr with hr; injection hr with _ h2 _; exact absurd h2 (by decide)
  have HG := Lib.hid hgp
  have HG' := Lib.hid hgp'
  clear H H' hlen hgp hgp'
  go_enter Tryd.func52, Tryd.ntmps52
  go_wp2
  go_quiet (fail)
  go_wp2_with fail
  go_loopw [7] (fun i wr => ∃ k : Nat, k ≤ In.length ∧ i = .int .i64 k ∧ RIs wr gp A (mixB (fun x y => x || y) In In' k) ∧ (∀ j, k ≤ j → j < In.length → ∃ rb', A' = some ⟨rb', 0, none⟩ ∧ wr.cell? ⟨rb', j, none⟩ = some (.bool (In'.getD j false))) ∧ Fr (fun k => A = some ⟨k, 0, none⟩ ∧ 0 < In.length) (W.drewN nq) wr) (fun i wr => In.length - (intOf i).toNat)
  case atStart =>
    refine ⟨0, Nat.zero_le _, rfl, by rw [mixB_zero]; exact HS.out.drewN nq, fun j _ hj => ?_, Fr.refl _ _⟩
    obtain ⟨rb', cs', e', _, hc'⟩ := HS'.out.2.2 j (by rw [HL.out]; exact hj)
    exact ⟨rb', e', hc'⟩
  case round =>
    obtain ⟨k, hk, rfl, hset, hfrom, hfr⟩ := hrel
    by_cases hlt : k < In.length
    · have hml := mixB_len (fun x y => x || y) In In' k
      obtain ⟨rb, cs, rfl, hr, hc⟩ := hset.2.2 k (by omega)
      have hf := hset.free rfl k (by omega)
      rw [mixB_at _ _ _ _ _ hlt, if_neg (Nat.lt_irrefl k)] at hc
      obtain ⟨rb', rfl, hc'⟩ := hfrom k (Nat.le_refl _) hlt
      have hc1 := hfr.cell (p := ⟨gp, 1, none⟩) (v := .slice (some ⟨rb, 0, none⟩) In.length cap) h1 HG.out
      have hc1' := hfr.cell (p := ⟨gp', 1, none⟩) (v := .slice (some ⟨rb', 0, none⟩) In.length cap') h1' HG'.out
      have hst := Lib.hid (hset.put rfl k (by omega) ((fun x y => x || y) (In.getD k false) (In'.getD k false)))
      have HFM := Lib.hid hfrom
      have HFR := Lib.hid hfr
      have hk0 : (0 : Int) ≤ (k : Int) := by omega
      have hk1 : (k : Int) < (In.length : Int) := by omega
      clear hset hfrom hr hml hfr
      obtain ⟨x, hx⟩ : ∃ x, x = In.getD k false := ⟨_, rfl⟩
      obtain ⟨y, hy⟩ : ∃ y, y = In'.getD k false := ⟨_, rfl⟩
      rw [← hx] at hc hst
      rw [← hy] at hc' hst
      have HX := Lib.hid hx
      have HY := Lib.hid hy
      clear hx hy
      cases x <;> cases y
      all_goals
        go_wp2_with fail
        go_region
        go_wp2
        go_roundw
        case rel =>
          refine ⟨k + 1, by omega, by simp, ?_, ?_, ?_⟩
          · rw [← mixB_set _ In In' k hlt, ← HX.out, ← HY.out]; exact hst.out
          · intro j hj1 hj2
            obtain ⟨rb2, e2, hcc⟩ := HFM.out j (by omega) hj2
            exact ⟨rb2, e2, (World.cell?_setCell_other _ _ _ _ (by intro h; injection h with h1 h2 h3; omega)).trans hcc⟩
          · exact (HFR.out.trans (Fr.drewN _ wr 1)).trans (Fr.setCell _ _ _ (fun _ => ⟨rfl, by omega⟩))
        case measure => simp [intOf]; omega
    · obtain rfl : k = In.length := by omega
      have HSET := Lib.hid hset
      have HFR := Lib.hid hfr
      have hc2 := hfr.cell (p := ⟨gp, 1, none⟩) h1 HG.out
      clear hset hfrom hfr
      go_wp2
      go_ret
      exact ⟨rfl, HSET.out, (Fr.drewN _ W nq).trans HFR.out⟩

set_option maxHeartbeats 4000000 in
set_option maxRecDepth 100000 in
theorem rJoin_and {W : World} {gp : Nat} {A : Option Addr} {In : List Bool} (H : RIs W gp A In) {gp' : Nat} {A' : Option Addr} {In' : List Bool} (H' : RIs W gp' A' In') (hlen : In'.length = In.length) :
    Calls Tryd.prog 52 #[.pointer (some ⟨gp, 0, none⟩), .int .i64 2, .pointer (some ⟨gp', 0, none⟩)] W fun e w' => e = .returned (.int .i64 0) ∧ RIs w' gp A (mixB (fun x y => x && y) In In' In.length) ∧ Fr (fun k => A = some ⟨k, 0, none⟩ ∧ 0 < In.length) W w' := by
  obtain ⟨cap, h0, h1, hcap⟩ := H.cells
  obtain ⟨cap', h0', h1', hcap'⟩ := H'.cells
  rw [hlen] at h1'
  have HS := Lib.hid H
  have HS' := Lib.hid H'
  have hl := H.2.1
  have HL := Lib.hid hlen
  have hbn : ((In.length : Int) != (In.length : Int)) = false := by simp
  have hgp' : ¬ (A = some ⟨gp', 0, none⟩ ∧ 0 < In.length) := by
    rintro ⟨rfl, hz⟩
    obtain ⟨rb, cs, e, hr, _⟩ := H.2.2 0 (by omega)
    cases e
    obtain ⟨⟨_, ha, _⟩, _⟩ := H'
    rw [ha] at hr; injection hr with hr; injection hr with _ h2 _; exact absurd h2 (by decide)
  have hgp : ¬ (A = some ⟨gp, 0, none⟩ ∧ 0 < In.length) := by
    rintro ⟨rfl, hz⟩
    obtain ⟨rb, cs, e, hr, _⟩ := H.2.2 0 (by omega)
    cases e
    obtain ⟨⟨_, ha, _⟩, _⟩ := H
    rw [ha] at hr; injection hr with hr; injection hr with _ h2 _; exact absurd h2 (by decide)
  have HG := Lib.hid hgp
  have HG' := Lib.hid hgp'
  clear H H' hlen hgp hgp'
  go_enter Tryd.func52, Tryd.ntmps52
  go_wp2
  go_quiet (fail)
  go_wp2_with fail
  go_loopw [7] (fun i wr => ∃ k : Nat, k ≤ In.length ∧ i = .int .i64 k ∧ RIs wr gp A (mixB (fun x y => x && y) In In' k) ∧ (∀ j, k ≤ j → j < In.length → ∃ rb', A' = some ⟨rb', 0, none⟩ ∧ wr.cell? ⟨rb', j, none⟩ = some (.bool (In'.getD j false))) ∧ Fr (fun k => A = some ⟨k, 0, none⟩ ∧ 0 < In.length) (W.drewN nq) wr) (fun i wr => In.length - (intOf i).toNat)
  case atStart =>
    refine ⟨0, Nat.zero_le _, rfl, by rw [mixB_zero]; exact HS.out.drewN nq, fun j _ hj => ?_, Fr.refl _ _⟩
    obtain ⟨rb', cs', e', _, hc'⟩ := HS'.out.2.2 j (by rw [HL.out]; exact hj)
    exact ⟨rb', e', hc'⟩
  case round =>
    obtain ⟨k, hk, rfl, hset, hfrom, hfr⟩ := hrel
    by_cases hlt : k < In.length
    · have hml := mixB_len (fun x y => x && y) In In' k
      obtain ⟨rb, cs, rfl, hr, hc⟩ := hset.2.2 k (by omega)
      have hf := hset.free rfl k (by omega)
      rw [mixB_at _ _ _ _ _ hlt, if_neg (Nat.lt_irrefl k)] at hc
      obtain ⟨rb', rfl, hc'⟩ := hfrom k (Nat.le_refl _) hlt
      have hc1 := hfr.cell (p := ⟨gp, 1, none⟩) (v := .slice (some ⟨rb, 0, none⟩) In.length cap) h1 HG.out
      have hc1' := hfr.cell (p := ⟨gp', 1, none⟩) (v := .slice (some ⟨rb', 0, none⟩) In.length cap') h1' HG'.out
      have hst := Lib.hid (hset.put rfl k (by omega) ((fun x y => x && y) (In.getD k false) (In'.getD k false)))
      have HFM := Lib.hid hfrom
      have HFR := Lib.hid hfr
      have hk0 : (0 : Int) ≤ (k : Int) := by omega
      have hk1 : (k : Int) < (In.length : Int) := by omega
      clear hset hfrom hr hml hfr
      obtain ⟨x, hx⟩ : ∃ x, x = In.getD k false := ⟨_, rfl⟩
      obtain ⟨y, hy⟩ : ∃ y, y = In'.getD k false := ⟨_, rfl⟩
      rw [← hx] at hc hst
      rw [← hy] at hc' hst
      have HX := Lib.hid hx
      have HY := Lib.hid hy
      clear hx hy
      cases x <;> cases y
      all_goals
        go_wp2_with fail
        go_region
        go_wp2
        go_roundw
        case rel =>
          refine ⟨k + 1, by omega, by simp, ?_, ?_, ?_⟩
          · rw [← mixB_set _ In In' k hlt, ← HX.out, ← HY.out]; exact hst.out
          · intro j hj1 hj2
            obtain ⟨rb2, e2, hcc⟩ := HFM.out j (by omega) hj2
            exact ⟨rb2, e2, (World.cell?_setCell_other _ _ _ _ (by intro h; injection h with h1 h2 h3; omega)).trans hcc⟩
          · exact (HFR.out.trans (Fr.drewN _ wr 1)).trans (Fr.setCell _ _ _ (fun _ => ⟨rfl, by omega⟩))
        case measure => simp [intOf]; omega
    · obtain rfl : k = In.length := by omega
      have HSET := Lib.hid hset
      have HFR := Lib.hid hfr
      have hc2 := hfr.cell (p := ⟨gp, 1, none⟩) h1 HG.out
      clear hset hfrom hfr
      go_wp2
      go_ret
      exact ⟨rfl, HSET.out, (Fr.drewN _ W nq).trans HFR.out⟩

set_option maxHeartbeats 4000000 in
set_option maxRecDepth 100000 in
theorem rJoin_out {W : World} {gp : Nat} {A : Option Addr} {In : List Bool} (H : RIs W gp A In) {gp' : Nat} {A' : Option Addr} {In' : List Bool} (H' : RIs W gp' A' In') (hlen : In'.length = In.length) :
    Calls Tryd.prog 52 #[.pointer (some ⟨gp, 0, none⟩), .int .i64 3, .pointer (some ⟨gp', 0, none⟩)] W fun e w' => e = .returned (.int .i64 0) ∧ RIs w' gp A (mixB (fun x y => x && !y) In In' In.length) ∧ Fr (fun k => A = some ⟨k, 0, none⟩ ∧ 0 < In.length) W w' := by
  obtain ⟨cap, h0, h1, hcap⟩ := H.cells
  obtain ⟨cap', h0', h1', hcap'⟩ := H'.cells
  rw [hlen] at h1'
  have HS := Lib.hid H
  have HS' := Lib.hid H'
  have hl := H.2.1
  have HL := Lib.hid hlen
  have hbn : ((In.length : Int) != (In.length : Int)) = false := by simp
  have hgp' : ¬ (A = some ⟨gp', 0, none⟩ ∧ 0 < In.length) := by
    rintro ⟨rfl, hz⟩
    obtain ⟨rb, cs, e, hr, _⟩ := H.2.2 0 (by omega)
    cases e
    obtain ⟨⟨_, ha, _⟩, _⟩ := H'
    rw [ha] at hr; injection hr with hr; injection hr with _ h2 _; exact absurd h2 (by decide)
  have hgp : ¬ (A = some ⟨gp, 0, none⟩ ∧ 0 < In.length) := by
    rintro ⟨rfl, hz⟩
    obtain ⟨rb, cs, e, hr, _⟩ := H.2.2 0 (by omega)
    cases e
    obtain ⟨⟨_, ha, _⟩, _⟩ := H
    rw [ha] at hr; injection hr with hr; injection hr with _ h2 _; exact absurd h2 (by decide)
  have HG := Lib.hid hgp
  have HG' := Lib.hid hgp'
  clear H H' hlen hgp hgp'
  go_enter Tryd.func52, Tryd.ntmps52
  go_wp2
  go_quiet (fail)
  go_wp2_with fail
  go_loopw [7] (fun i wr => ∃ k : Nat, k ≤ In.length ∧ i = .int .i64 k ∧ RIs wr gp A (mixB (fun x y => x && !y) In In' k) ∧ (∀ j, k ≤ j → j < In.length → ∃ rb', A' = some ⟨rb', 0, none⟩ ∧ wr.cell? ⟨rb', j, none⟩ = some (.bool (In'.getD j false))) ∧ Fr (fun k => A = some ⟨k, 0, none⟩ ∧ 0 < In.length) (W.drewN nq) wr) (fun i wr => In.length - (intOf i).toNat)
  case atStart =>
    refine ⟨0, Nat.zero_le _, rfl, by rw [mixB_zero]; exact HS.out.drewN nq, fun j _ hj => ?_, Fr.refl _ _⟩
    obtain ⟨rb', cs', e', _, hc'⟩ := HS'.out.2.2 j (by rw [HL.out]; exact hj)
    exact ⟨rb', e', hc'⟩
  case round =>
    obtain ⟨k, hk, rfl, hset, hfrom, hfr⟩ := hrel
    by_cases hlt : k < In.length
    · have hml := mixB_len (fun x y => x && !y) In In' k
      obtain ⟨rb, cs, rfl, hr, hc⟩ := hset.2.2 k (by omega)
      have hf := hset.free rfl k (by omega)
      rw [mixB_at _ _ _ _ _ hlt, if_neg (Nat.lt_irrefl k)] at hc
      obtain ⟨rb', rfl, hc'⟩ := hfrom k (Nat.le_refl _) hlt
      have hc1 := hfr.cell (p := ⟨gp, 1, none⟩) (v := .slice (some ⟨rb, 0, none⟩) In.length cap) h1 HG.out
      have hc1' := hfr.cell (p := ⟨gp', 1, none⟩) (v := .slice (some ⟨rb', 0, none⟩) In.length cap') h1' HG'.out
      have hst := Lib.hid (hset.put rfl k (by omega) ((fun x y => x && !y) (In.getD k false) (In'.getD k false)))
      have HFM := Lib.hid hfrom
      have HFR := Lib.hid hfr
      have hk0 : (0 : Int) ≤ (k : Int) := by omega
      have hk1 : (k : Int) < (In.length : Int) := by omega
      clear hset hfrom hr hml hfr
      obtain ⟨x, hx⟩ : ∃ x, x = In.getD k false := ⟨_, rfl⟩
      obtain ⟨y, hy⟩ : ∃ y, y = In'.getD k false := ⟨_, rfl⟩
      rw [← hx] at hc hst
      rw [← hy] at hc' hst
      have HX := Lib.hid hx
      have HY := Lib.hid hy
      clear hx hy
      cases x <;> cases y
      all_goals
        go_wp2_with fail
        go_region
        go_wp2
        go_roundw
        case rel =>
          refine ⟨k + 1, by omega, by simp, ?_, ?_, ?_⟩
          · rw [← mixB_set _ In In' k hlt, ← HX.out, ← HY.out]; exact hst.out
          · intro j hj1 hj2
            obtain ⟨rb2, e2, hcc⟩ := HFM.out j (by omega) hj2
            exact ⟨rb2, e2, (World.cell?_setCell_other _ _ _ _ (by intro h; injection h with h1 h2 h3; omega)).trans hcc⟩
          · exact (HFR.out.trans (Fr.drewN _ wr 1)).trans (Fr.setCell _ _ _ (fun _ => ⟨rfl, by omega⟩))
        case measure => simp [intOf]; omega
    · obtain rfl : k = In.length := by omega
      have HSET := Lib.hid hset
      have HFR := Lib.hid hfr
      have hc2 := hfr.cell (p := ⟨gp, 1, none⟩) h1 HG.out
      clear hset hfrom hfr
      go_wp2
      go_ret
      exact ⟨rfl, HSET.out, (Fr.drewN _ W nq).trans HFR.out⟩

set_option maxHeartbeats 400000 in
theorem rWithin_no {W : World} {gp : Nat} {A : Option Addr} {In : List Bool} (H : RIs W gp A In) {gp' : Nat} {A' : Option Addr} {In' : List Bool} (H' : RIs W gp' A' In') (hne : In.length ≠ In'.length) :
    Calls Tryd.prog 27 #[.pointer (some ⟨gp, 0, none⟩), .pointer (some ⟨gp', 0, none⟩)] W fun e w' => e = .returned (.bool false) ∧ ∃ n, W.drewN n = w' := by
  obtain ⟨cap, h0, h1, hcap⟩ := H.cells
  obtain ⟨cap', h0', h1', hcap'⟩ := H'.cells
  have hb : ((In.length : Int) != (In'.length : Int)) = true := by rw [bne_iff_ne]; omega
  clear H H' hne
  go_enter Tryd.func27, Tryd.ntmps27
  go_wp2
  go_quiet (fail)
  go_wp2
  go_ret
  exact ⟨rfl, nq, rfl⟩
def withinB (a b : List Bool) : Bool := (List.range a.length).all fun j => !(a.getD j false) || b.getD j false
theorem withinB_iff (a b : List Bool) : withinB a b = true ↔ ∀ j, j < a.length → a.getD j false = true → b.getD j false = true := by
  unfold withinB
  rw [List.all_eq_true]
  simp only [List.mem_range]
  refine ⟨fun h j hj ha => ?_, fun h j hj => ?_⟩
  · have := h j hj; rw [ha] at this; simpa using this
  · cases ha : a.getD j false with
    | false => rfl
    | true => rw [h j hj ha]; rfl
set_option maxHeartbeats 4000000 in
set_option maxRecDepth 100000 in
theorem rWithin {W : World} {gp : Nat} {A : Option Addr} {In : List Bool} (H : RIs W gp A In) {gp' : Nat} {A' : Option Addr} {In' : List Bool} (H' : RIs W gp' A' In') (hlen : In'.length = In.length) :
    Calls Tryd.prog 27 #[.pointer (some ⟨gp, 0, none⟩), .pointer (some ⟨gp', 0, none⟩)] W fun e w' => e = .returned (.bool (withinB In In')) ∧ ∃ n, W.drewN n = w' := by
  obtain ⟨cap, h0, h1, hcap⟩ := H.cells
  obtain ⟨cap', h0', h1', hcap'⟩ := H'.cells
  rw [hlen] at h1'
  have HS := Lib.hid H
  have HS' := Lib.hid H'
  have hl := H.2.1
  have HL := Lib.hid hlen
  have hbn : ((In.length : Int) != (In.length : Int)) = false := by simp
  clear H H' hlen
  go_enter Tryd.func27, Tryd.ntmps27
  go_wp2
  go_quiet (fail)
  go_wp2_with fail
  go_loop [5] (fun i => ∃ k : Nat, k ≤ In.length ∧ i = .int .i64 k ∧ ∀ j, j < k → In.getD j false = true → In'.getD j false = true) (fun i => In.length - (intOf i).toNat)
  case atStart => exact ⟨0, Nat.zero_le _, rfl, fun j hj => by omega⟩
  case round =>
    obtain ⟨k, hk, rfl, hall⟩ := hrel
    by_cases hlt : k < In.length
    · obtain ⟨rb, cs, rfl, hr, hc⟩ := HS.out.2.2 k hlt
      obtain ⟨rb', cs', rfl, hr', hc'⟩ := HS'.out.2.2 k (by rw [HL.out]; exact hlt)
      have HALL := Lib.hid hall
      clear hall hr hr'
      obtain ⟨x, hx⟩ : ∃ x, x = In.getD k false := ⟨_, rfl⟩
      obtain ⟨y, hy⟩ : ∃ y, y = In'.getD k false := ⟨_, rfl⟩
      rw [← hx] at hc
      rw [← hy] at hc'
      have HX := Lib.hid hx
      have HY := Lib.hid hy
      clear hx hy
      have hnext : (x = true → y = true) → ∀ j, j < k + 1 → In.getD j false = true → In'.getD j false = true := by
        intro hxy j hj ha
        by_cases hjk : j < k
        · exact HALL.out j hjk ha
        · obtain rfl : j = k := by omega
          rw [← HY.out]; rw [← HX.out] at ha; exact hxy ha
      have HNX := Lib.hid hnext
      clear hnext
      cases x
      · go_wp2
        go_round
        case rel => exact ⟨k + 1, by omega, by simp, HNX.out (fun h => by cases h)⟩
        case measure => simp [intOf]; omega
      · cases y
        · have hres : withinB In In' = false := by
            cases h : withinB In In' with
            | false => rfl
            | true =>
              have := (withinB_iff In In').1 h k hlt HX.out.symm
              rw [← HY.out] at this; cases this
          have HRES := Lib.hid hres
          clear hres
          go_wp2
          go_ret
          exact ⟨by rw [HRES.out]; rfl, nq, rfl⟩
        · go_wp2
          go_round
          case rel => exact ⟨k + 1, by omega, by simp, HNX.out (fun _ => rfl)⟩
          case measure => simp [intOf]; omega
    · obtain rfl : k = In.length := by omega
      have hres : withinB In In' = true := (withinB_iff In In').2 hall
      have HRES := Lib.hid hres
      clear hres hall
      go_wp2
      go_ret
      exact ⟨by rw [HRES.out]; rfl, nq, rfl⟩
end Go.Proofs.YthfapneifbjlmaaDoor
end

section
namespace Go.Proofs.YthfapneifbjlmaaDoor
set_option linter.unusedVariables false
set_option linter.unusedSimpArgs false

theorem memb_zip (f : Nat → Nat → Nat) (fb : Bool → Bool → Bool) (hbit : ∀ a b j, a < 18446744073709551616 → b < 18446744073709551616 → (f a b).testBit j = fb (a.testBit j) (b.testBit j)) (h0 : fb false false = false) {ws vs : List Nat} (hl : vs.length = ws.length) (hw : Words64 ws) (hv : Words64 vs) (q : Nat) :
    memb (List.zipWith f ws vs) q = fb (memb ws q) (memb vs q) := by
  by_cases hq : q / 64 < ws.length
  · unfold memb
    rw [wd_zip f ws vs hl _ hq]
    exact hbit _ _ _ (wd_lt hw _) (wd_lt hv _)
  · rw [memb_out (by simp; omega), memb_out (ws := ws) (by omega), memb_out (ws := vs) (by omega), h0]
theorem zip_words (f : Nat → Nat → Nat) (hf : ∀ a b, a < 18446744073709551616 → b < 18446744073709551616 → f a b < 18446744073709551616) {ws vs : List Nat} (hw : Words64 ws) (hv : Words64 vs) : Words64 (List.zipWith f ws vs) := by
  intro x hx
  obtain ⟨i, hi, rfl⟩ := List.getElem_of_mem hx
  rw [List.getElem_zipWith]
  exact hf _ _ (hw _ (List.getElem_mem _)) (hv _ (List.getElem_mem _))
theorem nohigh_zip (f : Nat → Nat → Nat) (fb : Bool → Bool → Bool) (hbit : ∀ a b j, a < 18446744073709551616 → b < 18446744073709551616 → (f a b).testBit j = fb (a.testBit j) (b.testBit j)) (h0 : fb false false = false) {room : Nat} {ws vs : List Nat} (hl : vs.length = ws.length) (hw : Words64 ws) (hv : Words64 vs) (h1 : NoHigh room ws) (h2 : NoHigh room vs) :
    NoHigh room (List.zipWith f ws vs) := fun q hq => by rw [memb_zip f fb hbit h0 hl hw hv, h1 q hq, h2 q hq, h0]
theorem inOf_zip (f : Nat → Nat → Nat) (fb : Bool → Bool → Bool) (hbit : ∀ a b j, a < 18446744073709551616 → b < 18446744073709551616 → (f a b).testBit j = fb (a.testBit j) (b.testBit j)) (h0 : fb false false = false) {room : Nat} {ws vs : List Nat} (hl : vs.length = ws.length) (hw : Words64 ws) (hv : Words64 vs) :
    mixB fb (inOf room ws) (inOf room vs) (inOf room ws).length = inOf room (List.zipWith f ws vs) := by
  refine List.ext_getElem (by simp [mixB, inOf]) (fun j h1 h2 => ?_)
  have hj : j < room := by simpa [inOf] using h2
  have := memb_zip f fb hbit h0 hl hw hv j
  simp [mixB, inOf, hj, this]
theorem inOf_put {room : Nat} {ws : List Nat} (hl : room ≤ 64 * ws.length) (i : Nat) (hi : i < room) : (inOf room ws).set i true = inOf room (putBit ws i) := by
  refine List.ext_getElem (by simp [inOf]) (fun j h1 h2 => ?_)
  have hj : j < room := by simpa [inOf] using h2
  have := memb_putI hl i j
  rw [putI, if_pos hi] at this
  rw [List.getElem_set]
  simp only [inOf, List.getElem_map, List.getElem_range, this]
  by_cases h : i = j
  · subst h; simp [hi]
  · simp [h, Ne.symm h]
theorem inOf_drop {room : Nat} {ws : List Nat} (hl : room ≤ 64 * ws.length) (hw : Words64 ws) (i : Nat) (hi : i < room) : (inOf room ws).set i false = inOf room (dropBit ws i) := by
  refine List.ext_getElem (by simp [inOf]) (fun j h1 h2 => ?_)
  have hj : j < room := by simpa [inOf] using h2
  have := memb_dropI hl hw i j
  rw [dropI, if_pos hi] at this
  rw [List.getElem_set]
  simp only [inOf, List.getElem_map, List.getElem_range, this]
  by_cases h : i = j
  · subst h; simp [hi]
  · simp [h, Ne.symm h]
theorem nohigh_put {room : Nat} {ws : List Nat} (hl : room ≤ 64 * ws.length) (h : NoHigh room ws) (i : Nat) (hi : i < room) : NoHigh room (putBit ws i) := fun q hq => by
  have := memb_putI hl i q
  rw [putI, if_pos hi] at this
  rw [this, h q hq]
  simp [show q ≠ i by omega]
theorem nohigh_drop {room : Nat} {ws : List Nat} (hl : room ≤ 64 * ws.length) (hw : Words64 ws) (h : NoHigh room ws) (i : Nat) (hi : i < room) : NoHigh room (dropBit ws i) := fun q hq => by
  have := memb_dropI hl hw i q
  rw [dropI, if_pos hi] at this
  rw [this, h q hq]
  simp
theorem nohigh_zero (room n : Nat) : NoHigh room (List.replicate n 0) := fun q hq => by
  unfold memb wd
  rw [List.getD_eq_getElem?_getD, List.getElem?_replicate]
  split <;> simp
theorem inOf_zero (room n : Nat) : inOf room (List.replicate n 0) = List.replicate room false := by
  refine List.ext_getElem (by simp [inOf]) (fun j h1 h2 => ?_)
  simp only [inOf, List.getElem_map, List.getElem_range, List.getElem_replicate]
  unfold memb wd
  rw [List.getD_eq_getElem?_getD, List.getElem?_replicate]
  split <;> simp
theorem within_iff {room : Nat} {ws vs : List Nat} (hr : ws.length = (room + 63) / 64) (hl : vs.length = ws.length) (hw : Words64 ws) (hv : Words64 vs) (h1 : NoHigh room ws) :
    withinB (inOf room ws) (inOf room vs) = true ↔ ∀ j, j < ws.length → wout (wd ws j) (wd vs j) = 0 := by
  rw [withinB_iff, inOf_length]
  refine ⟨fun h j hj => zero_bits fun i => ?_, fun h q hq ha => ?_⟩
  · rw [wout_bit _ _ _ (wd_lt hw _) (wd_lt hv _)]
    by_cases hi : i < 64
    · cases hb : (wd ws j).testBit i with
      | false => rfl
      | true =>
        have hm : memb ws (64 * j + i) = true := by
          unfold memb; rw [show (64 * j + i) / 64 = j from by omega, show (64 * j + i) % 64 = i from by omega]; exact hb
        have hlt : 64 * j + i < room := by
          rcases Nat.lt_or_ge (64 * j + i) room with h2 | h2
          · exact h2
          · rw [h1 _ h2] at hm; cases hm
        have h3 := h (64 * j + i) hlt (by rw [inOf_at _ _ _ hlt]; exact hm)
        rw [inOf_at _ _ _ hlt] at h3
        unfold memb at h3
        rw [show (64 * j + i) / 64 = j from by omega, show (64 * j + i) % 64 = i from by omega] at h3
        rw [h3]; rfl
    · rw [big_bit _ i (wd_lt hw j) (by omega)]; rfl
  · rw [inOf_at _ _ _ hq] at ha ⊢
    have h2 := h (q / 64) (by omega)
    have h3 := wout_bit (wd ws (q / 64)) (wd vs (q / 64)) (q % 64) (wd_lt hw _) (wd_lt hv _)
    rw [h2, Nat.zero_testBit] at h3
    unfold memb at ha ⊢
    rw [ha] at h3
    simpa using h3.symm
theorem same_iff {room : Nat} {ws vs : List Nat} (hr : ws.length = (room + 63) / 64) (hl : vs.length = ws.length) (hw : Words64 ws) (hv : Words64 vs) (h1 : NoHigh room ws) (h2 : NoHigh room vs) :
    ws = vs ↔ (withinB (inOf room ws) (inOf room vs) = true ∧ withinB (inOf room vs) (inOf room ws) = true) := by
  refine ⟨?_, ?_⟩
  · rintro rfl
    have : withinB (inOf room ws) (inOf room ws) = true := (withinB_iff _ _).2 fun j _ h => h
    exact ⟨this, this⟩
  · rintro ⟨a, b⟩
    refine words_ext hl.symm hw hv fun q => ?_
    by_cases hq : q < room
    · have a2 := (withinB_iff _ _).1 a q (by rw [inOf_length]; exact hq)
      have b2 := (withinB_iff _ _).1 b q (by rw [inOf_length]; exact hq)
      rw [inOf_at _ _ _ hq, inOf_at _ _ _ hq] at a2 b2
      cases h3 : memb ws q <;> cases h4 : memb vs q
      · rfl
      · rw [h3, h4] at b2; simp at b2
      · rw [h3, h4] at a2; simp at a2
      · rfl
    · rw [h1 q (by omega), h2 q (by omega)]
end Go.Proofs.YthfapneifbjlmaaDoor
end

section
namespace Go.Proofs.YthfapneifbjlmaaDoor
open Go.RowKit Go.Shelf
set_option linter.unusedVariables false
set_option linter.unusedSimpArgs false

/-- What Put, Drop, Turn answer. -/
def rcode (room : Nat) (i : Int) : Int := if 0 ≤ i ∧ i < room then 0 else 30
def putZ (room : Nat) (ws : List Nat) (i : Int) : List Nat := if 0 ≤ i ∧ i < room then putBit ws i.toNat else ws
def dropZ (room : Nat) (ws : List Nat) (i : Int) : List Nat := if 0 ≤ i ∧ i < room then dropBit ws i.toNat else ws
theorem Put_any {W : World} {g h room : Nat} {ws : List Nat} (H : IsSet W g h room ws) (i : Int) :
    Calls Tryd.prog 16 #[.pointer (some ⟨g, 0, none⟩), .int .i64 i] W fun e w' => e = .returned (.int .i64 (rcode room i)) ∧ IsSet w' g h room (putZ room ws i) ∧ Fr (fun k => k = h) W w' := by
  unfold rcode putZ
  by_cases hi : 0 ≤ i ∧ i < room
  · rw [if_pos hi, if_pos hi]
    exact (Put_set H i hi.1 hi.2).mono fun e w' ⟨h1, h2, h3⟩ => ⟨h1, h2, (Fr.of_grownBy h3).mono (fun k _ hk => by injection hk)⟩
  · rw [if_neg hi, if_neg hi]
    exact (Put_out H i hi).mono fun e w' ⟨h1, h2⟩ => ⟨h1, h2 ▸ H, h2 ▸ Fr.refl _ _⟩
theorem Drop_any {W : World} {g h room : Nat} {ws : List Nat} (H : IsSet W g h room ws) (i : Int) :
    Calls Tryd.prog 35 #[.pointer (some ⟨g, 0, none⟩), .int .i64 i] W fun e w' => e = .returned (.int .i64 (rcode room i)) ∧ IsSet w' g h room (dropZ room ws i) ∧ Fr (fun k => k = h) W w' := by
  unfold rcode dropZ
  by_cases hi : 0 ≤ i ∧ i < room
  · rw [if_pos hi, if_pos hi]
    exact (Drop_set H i hi.1 hi.2).mono fun e w' ⟨h1, h2, h3⟩ => ⟨h1, h2, (Fr.of_grownBy h3).mono (fun k _ hk => by injection hk)⟩
  · rw [if_neg hi, if_neg hi]
    exact (Drop_out H i hi).mono fun e w' ⟨h1, h2⟩ => ⟨h1, h2 ▸ H, h2 ▸ Fr.refl _ _⟩
/-- What a call of the reference may turn: its row. -/
def Rw (A : Option Addr) (n : Nat) (k : Nat) : Prop := A = some ⟨k, 0, none⟩ ∧ 0 < n
theorem rPut_any {W : World} {gp : Nat} {A : Option Addr} {room : Nat} {ws : List Nat} (H : RIs W gp A (inOf room ws)) (hl : room ≤ 64 * ws.length) (i : Int) :
    Calls Tryd.prog 51 #[.pointer (some ⟨gp, 0, none⟩), .int .i64 i, .bool true] W fun e w' => e = .returned (.int .i64 (rcode room i)) ∧ RIs w' gp A (inOf room (putZ room ws i)) ∧ Fr (Rw A room) W w' := by
  unfold rcode putZ
  by_cases hi : 0 ≤ i ∧ i < room
  · rw [if_pos hi, if_pos hi]
    obtain ⟨i, rfl⟩ := Int.eq_ofNat_of_zero_le hi.1
    have hlt : i < room := by omega
    refine (rTurn_in H i (by rw [inOf_length]; exact hlt) true).mono fun e w' ⟨h1, h2, h3⟩ => ⟨h1, ?_, ?_⟩
    · rw [inOf_put hl i hlt] at h2; rw [Int.toNat_natCast]; exact h2
    · rw [inOf_length] at h3; exact h3
  · rw [if_neg hi, if_neg hi]
    exact (rTurn_out H i (by rw [inOf_length]; exact hi) true).mono fun e w' ⟨h1, h2⟩ => ⟨h1, h2 ▸ H, h2 ▸ Fr.refl _ _⟩
theorem rDrop_any {W : World} {gp : Nat} {A : Option Addr} {room : Nat} {ws : List Nat} (H : RIs W gp A (inOf room ws)) (hl : room ≤ 64 * ws.length) (hw : Words64 ws) (i : Int) :
    Calls Tryd.prog 51 #[.pointer (some ⟨gp, 0, none⟩), .int .i64 i, .bool false] W fun e w' => e = .returned (.int .i64 (rcode room i)) ∧ RIs w' gp A (inOf room (dropZ room ws i)) ∧ Fr (Rw A room) W w' := by
  unfold rcode dropZ
  by_cases hi : 0 ≤ i ∧ i < room
  · rw [if_pos hi, if_pos hi]
    obtain ⟨i, rfl⟩ := Int.eq_ofNat_of_zero_le hi.1
    have hlt : i < room := by omega
    refine (rTurn_in H i (by rw [inOf_length]; exact hlt) false).mono fun e w' ⟨h1, h2, h3⟩ => ⟨h1, ?_, ?_⟩
    · rw [inOf_drop hl hw i hlt] at h2; rw [Int.toNat_natCast]; exact h2
    · rw [inOf_length] at h3; exact h3
  · rw [if_neg hi, if_neg hi]
    exact (rTurn_out H i (by rw [inOf_length]; exact hi) false).mono fun e w' ⟨h1, h2⟩ => ⟨h1, h2 ▸ H, h2 ▸ Fr.refl _ _⟩
theorem putZ_nohigh {room : Nat} {ws : List Nat} (hl : room ≤ 64 * ws.length) (h : NoHigh room ws) (i : Int) : NoHigh room (putZ room ws i) := by
  unfold putZ; split
  · rename_i hi; exact nohigh_put hl h _ (by omega)
  · exact h
theorem dropZ_nohigh {room : Nat} {ws : List Nat} (hl : room ≤ 64 * ws.length) (hw : Words64 ws) (h : NoHigh room ws) (i : Int) : NoHigh room (dropZ room ws i) := by
  unfold dropZ; split
  · rename_i hi; exact nohigh_drop hl hw h _ (by omega)
  · exact h

/-- What Or, And, Without, Join answer, and leave. -/
def jcode (room room' : Nat) : Int := if room' = room then 0 else 30
def zipZ (f : Nat → Nat → Nat) (room room' : Nat) (ws vs : List Nat) : List Nat := if room' = room then List.zipWith f ws vs else ws
theorem zipZ_nohigh (f : Nat → Nat → Nat) (fb : Bool → Bool → Bool) (hbit : ∀ a b j, a < 18446744073709551616 → b < 18446744073709551616 → (f a b).testBit j = fb (a.testBit j) (b.testBit j)) (h0 : fb false false = false) {room room' : Nat} {ws vs : List Nat} (hl : ws.length = (room + 63) / 64) (hl' : vs.length = (room' + 63) / 64) (hw : Words64 ws) (hv : Words64 vs) (h1 : NoHigh room ws) (h2 : NoHigh room' vs) :
    NoHigh room (zipZ f room room' ws vs) := by
  unfold zipZ; split
  · rename_i e; subst e; exact nohigh_zip f fb hbit h0 (by rw [hl, hl']) hw hv h1 h2
  · exact h1

theorem Or_any {W : World} {g h room : Nat} {ws : List Nat} (H : IsSet W g h room ws) {g' h' room' : Nat} {vs : List Nat} (H' : IsSet W g' h' room' vs) :
    Calls Tryd.prog 20 #[.pointer (some ⟨g, 0, none⟩), .pointer (some ⟨g', 0, none⟩)] W fun e w' => e = .returned (.int .i64 (jcode room room')) ∧ IsSet w' g h room (zipZ wor room room' ws vs) ∧ Fr (fun k => k = h) W w' := by
  unfold jcode zipZ
  by_cases hr : room' = room
  · subst hr
    rw [if_pos rfl, if_pos rfl]
    exact Or_set H H'
  · rw [if_neg hr, if_neg hr]
    exact (Or_30 (fun f => with_room H H' hr f)).mono fun e w' ⟨h1, n, h2⟩ => ⟨h1, h2 ▸ H.drewN n, h2 ▸ Fr.drewN _ _ _⟩
theorem wor_b : ∀ a b j, a < 18446744073709551616 → b < 18446744073709551616 → (wor a b).testBit j = (fun x y => x || y) (a.testBit j) (b.testBit j) := fun a b j ha hb => wor_bit a b j
theorem rJoin_or_any {W : World} {gp : Nat} {A : Option Addr} {room : Nat} {ws : List Nat} (H : RIs W gp A (inOf room ws)) {gp' : Nat} {A' : Option Addr} {room' : Nat} {vs : List Nat} (H' : RIs W gp' A' (inOf room' vs)) (hl : ws.length = (room + 63) / 64) (hl' : vs.length = (room' + 63) / 64) (hw : Words64 ws) (hv : Words64 vs) :
    Calls Tryd.prog 52 #[.pointer (some ⟨gp, 0, none⟩), .int .i64 1, .pointer (some ⟨gp', 0, none⟩)] W fun e w' => e = .returned (.int .i64 (jcode room room')) ∧ RIs w' gp A (inOf room (zipZ wor room room' ws vs)) ∧ Fr (Rw A room) W w' := by
  unfold jcode zipZ
  by_cases hr : room' = room
  · subst hr
    rw [if_pos rfl, if_pos rfl]
    refine (rJoin_or H H' (by rw [inOf_length, inOf_length])).mono fun e w' ⟨h1, h2, h3⟩ => ⟨h1, ?_, ?_⟩
    · rw [inOf_zip wor (fun x y => x || y) wor_b rfl (by rw [hl, hl']) hw hv] at h2; exact h2
    · rw [inOf_length] at h3; exact h3
  · rw [if_neg hr, if_neg hr]
    exact (rJoin_no H H' (by rw [inOf_length, inOf_length]; exact hr) 1).mono fun e w' ⟨h1, n, h2⟩ => ⟨h1, h2 ▸ H.drewN n, h2 ▸ Fr.drewN _ _ _⟩

theorem And_any {W : World} {g h room : Nat} {ws : List Nat} (H : IsSet W g h room ws) {g' h' room' : Nat} {vs : List Nat} (H' : IsSet W g' h' room' vs) :
    Calls Tryd.prog 19 #[.pointer (some ⟨g, 0, none⟩), .pointer (some ⟨g', 0, none⟩)] W fun e w' => e = .returned (.int .i64 (jcode room room')) ∧ IsSet w' g h room (zipZ wand room room' ws vs) ∧ Fr (fun k => k = h) W w' := by
  unfold jcode zipZ
  by_cases hr : room' = room
  · subst hr
    rw [if_pos rfl, if_pos rfl]
    exact And_set H H'
  · rw [if_neg hr, if_neg hr]
    exact (And_30 (fun f => with_room H H' hr f)).mono fun e w' ⟨h1, n, h2⟩ => ⟨h1, h2 ▸ H.drewN n, h2 ▸ Fr.drewN _ _ _⟩
theorem wand_b : ∀ a b j, a < 18446744073709551616 → b < 18446744073709551616 → (wand a b).testBit j = (fun x y => x && y) (a.testBit j) (b.testBit j) := fun a b j ha hb => wand_bit a b j
theorem rJoin_and_any {W : World} {gp : Nat} {A : Option Addr} {room : Nat} {ws : List Nat} (H : RIs W gp A (inOf room ws)) {gp' : Nat} {A' : Option Addr} {room' : Nat} {vs : List Nat} (H' : RIs W gp' A' (inOf room' vs)) (hl : ws.length = (room + 63) / 64) (hl' : vs.length = (room' + 63) / 64) (hw : Words64 ws) (hv : Words64 vs) :
    Calls Tryd.prog 52 #[.pointer (some ⟨gp, 0, none⟩), .int .i64 2, .pointer (some ⟨gp', 0, none⟩)] W fun e w' => e = .returned (.int .i64 (jcode room room')) ∧ RIs w' gp A (inOf room (zipZ wand room room' ws vs)) ∧ Fr (Rw A room) W w' := by
  unfold jcode zipZ
  by_cases hr : room' = room
  · subst hr
    rw [if_pos rfl, if_pos rfl]
    refine (rJoin_and H H' (by rw [inOf_length, inOf_length])).mono fun e w' ⟨h1, h2, h3⟩ => ⟨h1, ?_, ?_⟩
    · rw [inOf_zip wand (fun x y => x && y) wand_b rfl (by rw [hl, hl']) hw hv] at h2; exact h2
    · rw [inOf_length] at h3; exact h3
  · rw [if_neg hr, if_neg hr]
    exact (rJoin_no H H' (by rw [inOf_length, inOf_length]; exact hr) 2).mono fun e w' ⟨h1, n, h2⟩ => ⟨h1, h2 ▸ H.drewN n, h2 ▸ Fr.drewN _ _ _⟩

theorem Without_any {W : World} {g h room : Nat} {ws : List Nat} (H : IsSet W g h room ws) {g' h' room' : Nat} {vs : List Nat} (H' : IsSet W g' h' room' vs) :
    Calls Tryd.prog 18 #[.pointer (some ⟨g, 0, none⟩), .pointer (some ⟨g', 0, none⟩)] W fun e w' => e = .returned (.int .i64 (jcode room room')) ∧ IsSet w' g h room (zipZ wout room room' ws vs) ∧ Fr (fun k => k = h) W w' := by
  unfold jcode zipZ
  by_cases hr : room' = room
  · subst hr
    rw [if_pos rfl, if_pos rfl]
    exact Without_set H H'
  · rw [if_neg hr, if_neg hr]
    exact (Without_30 (fun f => with_room H H' hr f)).mono fun e w' ⟨h1, n, h2⟩ => ⟨h1, h2 ▸ H.drewN n, h2 ▸ Fr.drewN _ _ _⟩
theorem wout_b : ∀ a b j, a < 18446744073709551616 → b < 18446744073709551616 → (wout a b).testBit j = (fun x y => x && !y) (a.testBit j) (b.testBit j) := fun a b j ha hb => wout_bit a b j ha hb
theorem rJoin_out_any {W : World} {gp : Nat} {A : Option Addr} {room : Nat} {ws : List Nat} (H : RIs W gp A (inOf room ws)) {gp' : Nat} {A' : Option Addr} {room' : Nat} {vs : List Nat} (H' : RIs W gp' A' (inOf room' vs)) (hl : ws.length = (room + 63) / 64) (hl' : vs.length = (room' + 63) / 64) (hw : Words64 ws) (hv : Words64 vs) :
    Calls Tryd.prog 52 #[.pointer (some ⟨gp, 0, none⟩), .int .i64 3, .pointer (some ⟨gp', 0, none⟩)] W fun e w' => e = .returned (.int .i64 (jcode room room')) ∧ RIs w' gp A (inOf room (zipZ wout room room' ws vs)) ∧ Fr (Rw A room) W w' := by
  unfold jcode zipZ
  by_cases hr : room' = room
  · subst hr
    rw [if_pos rfl, if_pos rfl]
    refine (rJoin_out H H' (by rw [inOf_length, inOf_length])).mono fun e w' ⟨h1, h2, h3⟩ => ⟨h1, ?_, ?_⟩
    · rw [inOf_zip wout (fun x y => x && !y) wout_b rfl (by rw [hl, hl']) hw hv] at h2; exact h2
    · rw [inOf_length] at h3; exact h3
  · rw [if_neg hr, if_neg hr]
    exact (rJoin_no H H' (by rw [inOf_length, inOf_length]; exact hr) 3).mono fun e w' ⟨h1, n, h2⟩ => ⟨h1, h2 ▸ H.drewN n, h2 ▸ Fr.drewN _ _ _⟩

/-- What Within answers; what Same answers. -/
def wcode (room room' : Nat) (ws vs : List Nat) : Bool := decide (room = room') && withinB (inOf room ws) (inOf room' vs)
theorem Within_any {W : World} {g h room : Nat} {ws : List Nat} (H : IsSet W g h room ws) {g' h' room' : Nat} {vs : List Nat} (H' : IsSet W g' h' room' vs) (hn : NoHigh room ws) :
    Calls Tryd.prog 23 #[.pointer (some ⟨g, 0, none⟩), .pointer (some ⟨g', 0, none⟩)] W fun e w' => e = .returned (.bool (wcode room room' ws vs)) ∧ ∃ n, W.drewN n = w' := by
  unfold wcode
  by_cases hr : room = room'
  · subst hr
    refine (Within_set H H').mono fun e w' ⟨⟨b, h1, h2⟩, h3⟩ => ⟨?_, h3⟩
    rw [h1]
    have := within_iff H.len.1 (by rw [H.len.1, H'.len.1]) H.len.2.2 H'.len.2.2 hn (vs := vs)
    rw [decide_eq_true rfl, Bool.true_and]
    congr 2
    rw [Bool.eq_iff_iff, h2, this]
  · refine (Within_no (fits_room H H' (fun e => hr e.symm))).mono fun e w' ⟨h1, h3⟩ => ⟨?_, h3⟩
    rw [h1]; simp [hr]
theorem rWithin_any {W : World} {gp : Nat} {A : Option Addr} {room : Nat} {ws : List Nat} (H : RIs W gp A (inOf room ws)) {gp' : Nat} {A' : Option Addr} {room' : Nat} {vs : List Nat} (H' : RIs W gp' A' (inOf room' vs)) :
    Calls Tryd.prog 27 #[.pointer (some ⟨gp, 0, none⟩), .pointer (some ⟨gp', 0, none⟩)] W fun e w' => e = .returned (.bool (wcode room room' ws vs)) ∧ ∃ n, W.drewN n = w' := by
  unfold wcode
  by_cases hr : room = room'
  · subst hr
    refine (rWithin H H' (by rw [inOf_length, inOf_length])).mono fun e w' ⟨h1, h3⟩ => ⟨?_, h3⟩
    rw [h1]; simp
  · refine (rWithin_no H H' (by rw [inOf_length, inOf_length]; exact hr)).mono fun e w' ⟨h1, h3⟩ => ⟨?_, h3⟩
    rw [h1]; simp [hr]
theorem Same_any {W : World} {g h room : Nat} {ws : List Nat} (H : IsSet W g h room ws) {g' h' room' : Nat} {vs : List Nat} (H' : IsSet W g' h' room' vs) (hn : NoHigh room ws) (hn' : NoHigh room' vs) :
    Calls Tryd.prog 22 #[.pointer (some ⟨g, 0, none⟩), .pointer (some ⟨g', 0, none⟩)] W fun e w' => e = .returned (.bool (wcode room room' ws vs && wcode room' room vs ws)) ∧ ∃ n, W.drewN n = w' := by
  unfold wcode
  by_cases hr : room = room'
  · subst hr
    refine (Same_set H H').mono fun e w' ⟨⟨b, h1, h2⟩, h3⟩ => ⟨?_, h3⟩
    rw [h1]
    have := same_iff H.len.1 (by rw [H.len.1, H'.len.1]) H.len.2.2 H'.len.2.2 hn hn' (vs := vs)
    rw [decide_eq_true rfl, Bool.true_and, Bool.true_and]
    congr 2
    rw [Bool.eq_iff_iff, h2, this, Bool.and_eq_true]
  · refine (Same_no (fun n => fits_room (H.drewN n) (H'.drewN n) (fun e => hr e.symm))).mono fun e w' ⟨h1, h3⟩ => ⟨?_, h3⟩
    rw [h1]; simp [hr]
end Go.Proofs.YthfapneifbjlmaaDoor
end

section
namespace Go.Proofs.YthfapneifbjlmaaDoor
open Go.RowKit Go.Shelf
set_option linter.unusedVariables false
set_option linter.unusedSimpArgs false

structure PSt where
  g : Nat → Nat
  h : Nat → Nat
  n : Nat → Nat
  ws : Nat → List Nat
  gp : Nat → Nat
  A : Nat → Option Addr
def PSt.upd (s : PSt) (k g' h' : Nat) (ws' : List Nat) : PSt := { s with g := fun i => if i = k then g' else s.g i, h := fun i => if i = k then h' else s.h i, ws := fun i => if i = k then ws' else s.ws i }

/-- Two sets, the reference's two, in blocks from B on. -/
structure PInv (B sb tb : Nat) (s : PSt) (W : World) : Prop where
  set : ∀ k, k < 2 → IsSet W (s.g k) (s.h k) (s.n k) (s.ws k)
  high : ∀ k, k < 2 → NoHigh (s.n k) (s.ws k)
  ris : ∀ k, k < 2 → RIs W (s.gp k) (s.A k) (inOf (s.n k) (s.ws k))
  low : ∀ k, k < 2 → B ≤ s.g k ∧ B ≤ s.h k ∧ B ≤ s.gp k ∧ ∀ rb, s.A k = some ⟨rb, 0, none⟩ → B ≤ rb
  dg : s.g 0 ≠ s.g 1
  dh : s.h 0 ≠ s.h 1
  dp : s.gp 0 ≠ s.gp 1
  da : ∀ rb, Rw (s.A 0) (s.n 0) rb → Rw (s.A 1) (s.n 1) rb → False
  hsb : W.heap[sb]? = some (.cells #[.pointer (some ⟨s.g 0, 0, none⟩), .pointer (some ⟨s.g 1, 0, none⟩)] 33 (0, 0))
  htb : W.heap[tb]? = some (.cells #[.pointer (some ⟨s.gp 0, 0, none⟩), .pointer (some ⟨s.gp 1, 0, none⟩)] 44 (0, 0))
  lows : B ≤ sb ∧ B ≤ tb

/-- A block's type. -/
def TyB (W : World) (b t : Nat) : Prop := ∃ cs, W.heap[b]? = some (.cells cs t (0, 0))
theorem TyB.ne {W : World} {a b t u : Nat} (h : TyB W a t) (k : TyB W b u) (htu : t ≠ u) : a ≠ b := by
  rintro rfl
  obtain ⟨cs, h⟩ := h
  obtain ⟨cs', k⟩ := k
  rw [h] at k; injection k with k; injection k with _ h2 _; exact htu h2
theorem TyB.lt {W : World} {a t : Nat} (h : TyB W a t) : a < W.heap.size := by obtain ⟨cs, h⟩ := h; exact (Array.getElem?_eq_some_iff.1 h).1
theorem IsSet.ty {W : World} {g h room : Nat} {ws : List Nat} (H : IsSet W g h room ws) : TyB W g 55 ∧ TyB W h 42 := by
  obtain ⟨_, _, a, b, _⟩ := H; exact ⟨⟨_, a⟩, ⟨_, b⟩⟩
theorem RIs.ty {W : World} {gp : Nat} {A : Option Addr} {In : List Bool} (H : RIs W gp A In) : TyB W gp 39 ∧ ∀ b, Rw A In.length b → TyB W b 4 := by
  obtain ⟨⟨_, a, _⟩, _, c⟩ := H
  refine ⟨⟨_, a⟩, ?_⟩
  rintro b ⟨hA, hz⟩
  obtain ⟨rb, cs, e, hr, _⟩ := c 0 hz
  rw [hA] at e; cases e
  exact ⟨_, hr⟩
theorem RIs.fr2 {W W' : World} {M : Nat → Prop} {gp : Nat} {A : Option Addr} {In : List Bool} (h : RIs W gp A In) (hf : Fr M W W') (h1 : ¬ M gp) (h2 : ∀ b, Rw A In.length b → ¬ M b) : RIs W' gp A In := by
  obtain ⟨⟨cap, a, a2⟩, b, c⟩ := h
  refine ⟨⟨cap, (hf.block gp (Array.getElem?_eq_some_iff.1 a).1 h1).trans a, a2⟩, b, fun j hj => ?_⟩
  obtain ⟨rb, cs, e, hr, hc⟩ := c j hj
  have := h2 rb ⟨e, by omega⟩
  exact ⟨rb, cs, e, (hf.block rb (Array.getElem?_eq_some_iff.1 hr).1 this).trans hr, hf.cell hc this⟩
section
variable {B sb tb : Nat} {s : PSt} {W W' : World}
theorem PInv.tset (H : PInv B sb tb s W) {k : Nat} (hk : k < 2) : TyB W (s.g k) 55 ∧ TyB W (s.h k) 42 ∧ TyB W (s.gp k) 39 ∧ (∀ b, Rw (s.A k) (s.n k) b → TyB W b 4) ∧ TyB W sb 33 ∧ TyB W tb 44 := by
  have h1 := (H.set k hk).ty
  have h2 := (H.ris k hk).ty
  rw [inOf_length] at h2
  exact ⟨h1.1, h1.2, h2.1, h2.2, ⟨_, H.hsb⟩, ⟨_, H.htb⟩⟩
theorem PInv.below (H : PInv B sb tb s W) (hb : Below W.heap.size W W') : PInv B sb tb s W' :=
  ⟨fun k hk => (H.set k hk).below hb (H.set k hk).lt.1 (H.set k hk).lt.2.1, H.high, fun k hk => (H.ris k hk).below hb (Nat.le_refl _), H.low, H.dg, H.dh, H.dp, H.da,
    (hb.block _ (Array.getElem?_eq_some_iff.1 H.hsb).1).trans H.hsb, (hb.block _ (Array.getElem?_eq_some_iff.1 H.htb).1).trans H.htb, H.lows⟩
theorem PInv.drewN (H : PInv B sb tb s W) (n : Nat) : PInv B sb tb s (W.drewN n) :=
  ⟨H.set, H.high, H.ris, H.low, H.dg, H.dh, H.dp, H.da, H.hsb, H.htb, H.lows⟩
theorem two {k : Nat} (hk : k < 2) : k = 0 ∨ k = 1 := by omega
/-- What a call on set k may turn. -/
def Mk (s : PSt) (sb k b : Nat) : Prop := b = s.g k ∨ b = s.h k ∨ Rw (s.A k) (s.n k) b ∨ b = sb
theorem PInv.apart (H : PInv B sb tb s W) {k i : Nat} (hk : k < 2) (hi : i < 2) (hne : i ≠ k) : ¬ Mk s sb k (s.g i) ∧ ¬ Mk s sb k (s.h i) ∧ ¬ Mk s sb k (s.gp i) ∧ (∀ b, Rw (s.A i) (s.n i) b → ¬ Mk s sb k b) := by
  obtain ⟨a1, a2, a3, a4, a5, a6⟩ := H.tset hk
  obtain ⟨b1, b2, b3, b4, b5, b6⟩ := H.tset hi
  have hg : s.g i ≠ s.g k := by rcases two hk with rfl | rfl <;> rcases two hi with rfl | rfl <;> first | exact absurd rfl hne | exact H.dg | exact H.dg.symm
  have hh : s.h i ≠ s.h k := by rcases two hk with rfl | rfl <;> rcases two hi with rfl | rfl <;> first | exact absurd rfl hne | exact H.dh | exact H.dh.symm
  have ha : ∀ b, Rw (s.A i) (s.n i) b → Rw (s.A k) (s.n k) b → False := by
    rcases two hk with rfl | rfl <;> rcases two hi with rfl | rfl
    · exact absurd rfl hne
    · exact fun b x y => H.da b y x
    · exact fun b x y => H.da b x y
    · exact absurd rfl hne
  refine ⟨?_, ?_, ?_, ?_⟩
  · rintro (h | h | h | h)
    · exact hg h
    · exact b1.ne a2 (by decide) h
    · exact b1.ne (a4 _ h) (by decide) rfl
    · exact b1.ne a5 (by decide) h
  · rintro (h | h | h | h)
    · exact b2.ne a1 (by decide) h
    · exact hh h
    · exact b2.ne (a4 _ h) (by decide) rfl
    · exact b2.ne a5 (by decide) h
  · rintro (h | h | h | h)
    · exact b3.ne a1 (by decide) h
    · exact b3.ne a2 (by decide) h
    · exact b3.ne (a4 _ h) (by decide) rfl
    · exact b3.ne a5 (by decide) h
  · rintro b hb (h | h | h | h)
    · exact (b4 b hb).ne a1 (by decide) h
    · exact (b4 b hb).ne a2 (by decide) h
    · exact ha b hb h
    · exact (b4 b hb).ne a5 (by decide) h
theorem PInv.lowM (H : PInv B sb tb s W) {k : Nat} (hk : k < 2) : ∀ b, Mk s sb k b → B ≤ b := by
  obtain ⟨l1, l2, l3, l4⟩ := H.low k hk
  rintro b (h | h | h | h)
  · omega
  · omega
  · exact l4 b h.1
  · have := H.lows.1; omega
theorem PInv.belowM (H : PInv B sb tb s W) {k : Nat} (hk : k < 2) (hF : Fr (Mk s sb k) W W') : Below B W W' :=
  hF.below2 (fun b hb hm => by have := H.lowM hk b hm; omega) (by have := H.lows.1; have := (H.tset hk).2.2.2.2.1.lt; omega)
/-- The scripts' calls in memory are kept. -/
def Keep62 (W W' : World) : Prop := ∀ b, TyB W b 62 → W'.heap[b]? = W.heap[b]?
theorem PInv.keep62 (H : PInv B sb tb s W) {k : Nat} (hk : k < 2) (hF : Fr (Mk s sb k) W W') : Keep62 W W' := by
  obtain ⟨a1, a2, a3, a4, a5, a6⟩ := H.tset hk
  intro b hb
  refine hF.block b hb.lt ?_
  rintro (h | h | h | h)
  · exact hb.ne a1 (by decide) h
  · exact hb.ne a2 (by decide) h
  · exact hb.ne (a4 _ h) (by decide) rfl
  · exact hb.ne a5 (by decide) h
theorem keep_trans {W0 W1 W2 : World} (hb : Below W0.heap.size W0 W1) (h : Keep62 W1 W2) : Keep62 W0 W2 := fun b hb2 => by
  have h1 := hb.block b hb2.lt
  obtain ⟨cs, hc⟩ := hb2
  exact (h b ⟨cs, h1.trans hc⟩).trans h1
/-- Set k has been turned, or another has taken its place. -/
theorem PInv.re (H : PInv B sb tb s W) {k : Nat} (hk : k < 2) {g' h' : Nat} {ws' : List Nat} (hF : Fr (Mk s sb k) W W') (hS : IsSet W' g' h' (s.n k) ws') (hN : NoHigh (s.n k) ws') (hR : RIs W' (s.gp k) (s.A k) (inOf (s.n k) ws'))
    (hg : (g' = s.g k ∧ h' = s.h k) ∨ (W.heap.size ≤ g' ∧ W.heap.size ≤ h')) (hsb : W'.heap[sb]? = some (.cells #[.pointer (some ⟨(s.upd k g' h' ws').g 0, 0, none⟩), .pointer (some ⟨(s.upd k g' h' ws').g 1, 0, none⟩)] 33 (0, 0))) :
    PInv B sb tb (s.upd k g' h' ws') W' := by
  have hother : ∀ i, i < 2 → i ≠ k → IsSet W' (s.g i) (s.h i) (s.n i) (s.ws i) ∧ RIs W' (s.gp i) (s.A i) (inOf (s.n i) (s.ws i)) := fun i hi hne => by
    obtain ⟨c1, c2, c3, c4⟩ := H.apart hk hi hne
    exact ⟨(H.set i hi).fr hF c1 c2, (H.ris i hi).fr2 hF c3 (by rw [inOf_length]; exact c4)⟩
  have hBs : B ≤ W.heap.size := by have := H.lows.1; have := (H.tset hk).2.2.2.2.1.lt; omega
  obtain ⟨l1, l2, l3, l4⟩ := H.low k hk
  have hgn : ∀ i, i < 2 → i ≠ k → s.g i ≠ g' ∧ s.h i ≠ h' := fun i hi hne => by
    have h1 := (H.set i hi).lt
    have hgg : s.g i ≠ s.g k ∧ s.h i ≠ s.h k := by rcases two hk with rfl | rfl <;> rcases two hi with rfl | rfl <;> first | exact absurd rfl hne | exact ⟨H.dg, H.dh⟩ | exact ⟨H.dg.symm, H.dh.symm⟩
    rcases hg with ⟨rfl, rfl⟩ | ⟨a, b⟩
    · exact hgg
    · omega
  refine ⟨fun i hi => ?_, fun i hi => ?_, fun i hi => ?_, fun i hi => ?_, ?_, ?_, H.dp, H.da, hsb, ?_, H.lows⟩
  · by_cases e : i = k
    · subst e; simpa [PSt.upd] using hS
    · simpa [PSt.upd, e] using (hother i hi e).1
  · by_cases e : i = k
    · subst e; simpa [PSt.upd] using hN
    · simpa [PSt.upd, e] using H.high i hi
  · by_cases e : i = k
    · subst e; simpa [PSt.upd] using hR
    · simpa [PSt.upd, e] using (hother i hi e).2
  · by_cases e : i = k
    · subst e
      refine ⟨?_, ?_, l3, l4⟩
      · simp only [PSt.upd, if_true]; rcases hg with ⟨rfl, rfl⟩ | ⟨a, b⟩ <;> omega
      · simp only [PSt.upd, if_true]; rcases hg with ⟨rfl, rfl⟩ | ⟨a, b⟩ <;> omega
    · simpa [PSt.upd, e] using H.low i hi
  · rcases two hk with rfl | rfl
    · have := (hgn 1 (by omega) (by omega)).1; simpa [PSt.upd] using this.symm
    · have := (hgn 0 (by omega) (by omega)).1; simpa [PSt.upd] using this
  · rcases two hk with rfl | rfl
    · have := (hgn 1 (by omega) (by omega)).2; simpa [PSt.upd] using this.symm
    · have := (hgn 0 (by omega) (by omega)).2; simpa [PSt.upd] using this
  · obtain ⟨a1, a2, a3, a4, a5, a6⟩ := H.tset hk
    refine (hF.block tb a6.lt ?_).trans H.htb
    rintro (h | h | h | h)
    · exact a6.ne a1 (by decide) h
    · exact a6.ne a2 (by decide) h
    · exact a6.ne (a4 _ h) (by decide) rfl
    · exact a6.ne a5 (by decide) h
/-- Behind the program's call on set k. -/
theorem PInv.ris1 (H : PInv B sb tb s W) {k o : Nat} (hk : k < 2) (ho : o < 2) {w1 : World} (hF : Fr (fun b => b = s.h k) W w1) : RIs w1 (s.gp o) (s.A o) (inOf (s.n o) (s.ws o)) := by
  obtain ⟨a1, a2, a3, a4, a5, a6⟩ := H.tset hk
  obtain ⟨b1, b2, b3, b4, b5, b6⟩ := H.tset ho
  exact (H.ris o ho).fr2 hF (fun h => b3.ne a2 (by decide) h) (fun b hb h => (b4 b (by rw [inOf_length] at hb; exact hb)).ne a2 (by decide) h)
theorem PInv.stepped (H : PInv B sb tb s W) {k : Nat} (hk : k < 2) {w1 w2 : World} {ws' : List Nat} (hS1 : IsSet w1 (s.g k) (s.h k) (s.n k) ws') (hF1 : Fr (fun b => b = s.h k) W w1) (hR2 : RIs w2 (s.gp k) (s.A k) (inOf (s.n k) ws')) (hF2 : Fr (Rw (s.A k) (s.n k)) w1 w2) (hN : NoHigh (s.n k) ws') :
    PInv B sb tb (s.upd k (s.g k) (s.h k) ws') w2 ∧ Below B W w2 ∧ Keep62 W w2 := by
  obtain ⟨a1, a2, a3, a4, a5, a6⟩ := H.tset hk
  have hF : Fr (Mk s sb k) W w2 := (hF1.mono (fun b _ h => .inr (.inl h))).trans (hF2.mono (fun b _ h => .inr (.inr (.inl h))))
  have hR1 := (H.ris1 hk hk hF1).ty
  rw [inOf_length] at hR1
  have hS2 : IsSet w2 (s.g k) (s.h k) (s.n k) ws' := hS1.fr hF2 (fun h => (hS1.ty.1).ne (hR1.2 _ h) (by decide) rfl) (fun h => (hS1.ty.2).ne (hR1.2 _ h) (by decide) rfl)
  refine ⟨H.re hk hF hS2 hN hR2 (.inl ⟨rfl, rfl⟩) ?_, H.belowM hk hF, H.keep62 hk hF⟩
  have e0 : (s.upd k (s.g k) (s.h k) ws').g 0 = s.g 0 := by simp only [PSt.upd]; split <;> simp_all
  have e1 : (s.upd k (s.g k) (s.h k) ws').g 1 = s.g 1 := by simp only [PSt.upd]; split <;> simp_all
  rw [e0, e1]
  have h1 := (hF1.block sb a5.lt (fun h => a5.ne a2 (by decide) h)).trans H.hsb
  refine (hF2.block sb (Nat.lt_of_lt_of_le a5.lt hF1.size) (fun h => ?_)).trans h1
  exact TyB.ne (t := 33) ⟨_, h1⟩ (hR1.2 _ h) (by decide) rfl
theorem PInv.scell (H : PInv B sb tb s W) {k : Nat} (hk : k < 2) : W.cell? ⟨sb, k, none⟩ = some (.pointer (some ⟨s.g k, 0, none⟩)) ∧ W.cell? ⟨tb, k, none⟩ = some (.pointer (some ⟨s.gp k, 0, none⟩)) := by
  rcases two hk with rfl | rfl
  · exact ⟨(cell_of_row W sb 0 _ _ _ H.hsb).trans rfl, (cell_of_row W tb 0 _ _ _ H.htb).trans rfl⟩
  · exact ⟨(cell_of_row W sb 1 _ _ _ H.hsb).trans rfl, (cell_of_row W tb 1 _ _ _ H.htb).trans rfl⟩
theorem PSt.upd_same (s : PSt) (k : Nat) : s.upd k (s.g k) (s.h k) (s.ws k) = s := by
  cases s
  simp only [PSt.upd, PSt.mk.injEq, and_true, true_and]
  refine ⟨?_, ?_, ?_⟩ <;> (funext i; split <;> simp_all)
/-- Behind tells: all is as it was. -/
theorem PInv.told (H : PInv B sb tb s W) {k : Nat} (hk : k < 2) {w1 : World} (hS : IsSet w1 (s.g k) (s.h k) (s.n k) (s.ws k)) (hF : Fr (fun b => b = s.g k ∨ b = s.h k) W w1) : PInv B sb tb s w1 ∧ Below B W w1 ∧ Keep62 W w1 := by
  obtain ⟨a1, a2, a3, a4, a5, a6⟩ := H.tset hk
  have hFM : Fr (Mk s sb k) W w1 := hF.mono (fun b _ h => h.elim .inl (fun h => .inr (.inl h)))
  have hR : RIs w1 (s.gp k) (s.A k) (inOf (s.n k) (s.ws k)) := (H.ris k hk).fr2 hF (fun h => h.elim (a3.ne a1 (by decide)) (a3.ne a2 (by decide))) (fun b hb h => by rw [inOf_length] at hb; exact h.elim ((a4 b hb).ne a1 (by decide)) ((a4 b hb).ne a2 (by decide)))
  have h1 := H.re hk hFM hS (H.high k hk) hR (.inl ⟨rfl, rfl⟩) (by rw [PSt.upd_same]; exact (hF.block sb a5.lt (fun h => h.elim (a5.ne a1 (by decide)) (a5.ne a2 (by decide)))).trans H.hsb)
  rw [PSt.upd_same] at h1
  exact ⟨h1, H.belowM hk hFM, H.keep62 hk hFM⟩
/-- What a statement of 'does' loads. -/
def HeldS (sb tb xb k o : Nat) (s : PSt) (num : Int) (w : World) : Prop :=
  w.cell? ⟨sb, k, none⟩ = some (.pointer (some ⟨s.g k, 0, none⟩)) ∧ w.cell? ⟨sb, o, none⟩ = some (.pointer (some ⟨s.g o, 0, none⟩)) ∧ w.cell? ⟨tb, k, none⟩ = some (.pointer (some ⟨s.gp k, 0, none⟩)) ∧ w.cell? ⟨tb, o, none⟩ = some (.pointer (some ⟨s.gp o, 0, none⟩)) ∧ w.cell? ⟨xb, 2, none⟩ = some (.int .i64 num)
theorem PInv.held (H : PInv B sb tb s W) {k o : Nat} (hk : k < 2) (ho : o < 2) {xb : Nat} {num : Int} (hx : W.cell? ⟨xb, 2, none⟩ = some (.int .i64 num)) (hxt : TyB W xb 62) {w : World} (hF : Fr (fun b => b = s.h k ∨ Rw (s.A k) (s.n k) b) W w) : HeldS sb tb xb k o s num w := by
  obtain ⟨a1, a2, a3, a4, a5, a6⟩ := H.tset hk
  have n1 : ∀ c t, TyB W c t → t ≠ 42 → t ≠ 4 → ¬ (c = s.h k ∨ Rw (s.A k) (s.n k) c) := by
    rintro c t hc h1 h2 (h | h)
    · exact hc.ne a2 h1 h
    · exact hc.ne (a4 _ h) h2 rfl
  exact ⟨hF.cell (H.scell hk).1 (n1 _ _ a5 (by decide) (by decide)), hF.cell (H.scell ho).1 (n1 _ _ a5 (by decide) (by decide)), hF.cell (H.scell hk).2 (n1 _ _ a6 (by decide) (by decide)), hF.cell (H.scell ho).2 (n1 _ _ a6 (by decide) (by decide)), hF.cell hx (n1 _ _ hxt (by decide) (by decide))⟩
end
/-- What BitsPlay's last statement of a round loads. -/
def HeldP (sb tb xb k o : Nat) (s : PSt) (num : Int) (w : World) : Prop :=
  w.cell? ⟨sb, 0, none⟩ = some (.pointer (some ⟨s.g 0, 0, none⟩)) ∧ w.cell? ⟨sb, 1, none⟩ = some (.pointer (some ⟨s.g 1, 0, none⟩)) ∧ w.cell? ⟨tb, 0, none⟩ = some (.pointer (some ⟨s.gp 0, 0, none⟩)) ∧ w.cell? ⟨tb, 1, none⟩ = some (.pointer (some ⟨s.gp 1, 0, none⟩)) ∧
  w.cell? ⟨sb, k, none⟩ = some (.pointer (some ⟨s.g k, 0, none⟩)) ∧ w.cell? ⟨sb, o, none⟩ = some (.pointer (some ⟨s.g o, 0, none⟩)) ∧ w.cell? ⟨tb, k, none⟩ = some (.pointer (some ⟨s.gp k, 0, none⟩)) ∧ w.cell? ⟨tb, o, none⟩ = some (.pointer (some ⟨s.gp o, 0, none⟩)) ∧ w.cell? ⟨xb, 2, none⟩ = some (.int .i64 num)
theorem PInv.heldP {B sb tb : Nat} {s : PSt} {W : World} (H : PInv B sb tb s W) {k o : Nat} (hk : k < 2) (ho : o < 2) {xb : Nat} {num : Int} {cs : Array Value} (hx : W.heap[xb]? = some (.cells cs 62 (0, 0))) (h2 : cs[2]? = some (.int .i64 num)) : HeldP sb tb xb k o s num W :=
  ⟨(H.scell (by omega)).1, (H.scell (by omega)).1, (H.scell (by omega)).2, (H.scell (by omega)).2, (H.scell hk).1, (H.scell ho).1, (H.scell hk).2, (H.scell ho).2, (cell_of_row W xb 2 _ _ _ hx).trans h2⟩
/-- Within, of set i and set j. -/
@[irreducible] def wcs (s : PSt) (i j : Nat) : Bool := wcode (s.n i) (s.n j) (s.ws i) (s.ws j)
def DoesPost (B sb tb : Nat) (W : World) (e : Ending) (w' : World) : Prop := e = .returned (.bool true) ∧ (∃ s', PInv B sb tb s' w') ∧ Below B W w' ∧ Keep62 W w'
end Go.Proofs.YthfapneifbjlmaaDoor
end

section
namespace Go.Proofs.YthfapneifbjlmaaDoor
open Go.RowKit Go.Shelf
attribute [local go_sem] Oper.semAt_some
set_option linter.unusedVariables false
set_option linter.unusedSimpArgs false

/-- A script's call, boxed. -/
def xObj (kind on num : Int) (oth : Bool) : Obj := .cells #[.int .i64 kind, .int .i64 on, .int .i64 num, .bool oth] 62
theorem heldX (W : World) (kind on num : Int) (oth : Bool) : (W.alloc (xObj kind on num oth)).cell? ⟨W.heap.size, 2, none⟩ = some (.int .i64 num) ∧ TyB (W.alloc (xObj kind on num oth)) W.heap.size 62 := by
  have h := heap_alloc_new W (xObj kind on num oth)
  exact ⟨(cell_of_row _ W.heap.size 2 _ _ _ h).trans rfl, ⟨_, h⟩⟩

set_option maxHeartbeats 4000000 in
set_option maxRecDepth 100000 in
theorem does_1 {B sb tb : Nat} {s : PSt} {W : World} (H : PInv B sb tb s W) {k o : Nat} (hk : k < 2) (ho : o < 2) (on num : Int) (oth : Bool) :
    Calls Tryd.prog 26 #[.slice (some ⟨sb, 0, none⟩) 2 2, .slice (some ⟨tb, 0, none⟩) 2 2, .agg #[.int .i64 1, .int .i64 on, .int .i64 num, .bool oth], .int .i64 k, .int .i64 o] W (DoesPost B sb tb W) := by
  obtain ⟨W0, hW0⟩ : ∃ W0, W0 = W.alloc (xObj 1 on num oth) := ⟨_, rfl⟩
  have hb0 : Below W.heap.size W W0 := by rw [hW0]; exact (Below.refl _ _).alloc (Nat.le_refl _) _
  have H0 : PInv B sb tb s W0 := H.below hb0
  have hBW : B ≤ W.heap.size := by have := H.lows.1; have := (H.tset hk).2.2.2.2.1.lt; omega
  obtain ⟨hx, hxt⟩ := heldX W 1 on num oth
  rw [← hW0] at hx hxt
  have hk0 : (0 : Int) ≤ (k : Int) := by omega
  have hk1 : (k : Int) < 2 := by omega
  have ho0 : (0 : Int) ≤ (o : Int) := by omega
  have ho1 : (o : Int) < 2 := by omega
  have HH := Lib.hid H0
  have HX := Lib.hid hx
  have HXT := Lib.hid hxt
  have HB := Lib.hid hb0
  have hl : s.n k ≤ 64 * (s.ws k).length := by have := (H0.set k hk).len.1; omega
  have hw := (H0.set k hk).len.2.2
  have hnh := Lib.hid (putZ_nohigh hl (HH.out.high k hk) num)
  have hP := Lib.hid (Put_any (HH.out.set k hk |>.drewN 1) num)
  have hR := Lib.hid (fun (w1 : World) (hF : Fr (fun b => b = s.h k) W0 w1) => rPut_any (HH.out.ris1 hk hk hF) hl num)
  obtain ⟨rc, hrc⟩ : ∃ rc, rc = rcode (s.n k) num := ⟨_, rfl⟩
  rw [← hrc] at hP hR
  clear H H0 hx hxt hl hw hrc hb0
  go_enter Tryd.func26, Tryd.ntmps26
  go_wp2_with fail
  rw [show W.alloc (.cells #[.int .i64 1, .int .i64 on, .int .i64 num, .bool oth] 62) = W0 from hW0.symm]
  clear hW0
  go_region_held3 (fun w => w.cell? ⟨sb, k, none⟩ = some (.pointer (some ⟨s.g k, 0, none⟩)) ∧ w.cell? ⟨sb, o, none⟩ = some (.pointer (some ⟨s.g o, 0, none⟩)) ∧ w.cell? ⟨tb, k, none⟩ = some (.pointer (some ⟨s.gp k, 0, none⟩)) ∧ w.cell? ⟨tb, o, none⟩ = some (.pointer (some ⟨s.gp o, 0, none⟩)) ∧ w.cell? ⟨W.heap.size, 2, none⟩ = some (.int .i64 num)) (first | exact HH.out.held hk ho HX.out HXT.out (Fr.drewN _ W0 1) | exact HH.out.held hk ho HX.out HXT.out (HF1.out.mono (fun b _ h => .inl h)) | exact HH.out.held hk ho HX.out HXT.out ((HF1.out.mono (fun b _ h => .inl h)).trans (HF2.out.mono (fun b _ h => .inr h)))) (first | (go_at_call 16; refine hP.out.mono ?_; rintro e w1 ⟨rfl, hS1, hF1⟩; have HS1 := Lib.hid hS1; have HF1 := Lib.hid ((Fr.drewN _ W0 1).trans hF1); clear hS1 hF1) | (go_at_call 51; refine (hR.out w1 HF1.out).mono ?_; rintro e w2 ⟨rfl, hR2, hF2⟩; have HR2 := Lib.hid hR2; have HF2 := Lib.hid hF2; clear hR2 hF2))
  go_wp2
  go_ret
  obtain ⟨p1, p2, p3⟩ := HH.out.stepped hk HS1.out HF1.out HR2.out HF2.out hnh.out
  exact ⟨by simp, ⟨_, p1⟩, (HB.out.mono hBW).trans p2, keep_trans HB.out p3⟩

set_option maxHeartbeats 4000000 in
set_option maxRecDepth 100000 in
theorem does_2 {B sb tb : Nat} {s : PSt} {W : World} (H : PInv B sb tb s W) {k o : Nat} (hk : k < 2) (ho : o < 2) (on num : Int) (oth : Bool) :
    Calls Tryd.prog 26 #[.slice (some ⟨sb, 0, none⟩) 2 2, .slice (some ⟨tb, 0, none⟩) 2 2, .agg #[.int .i64 2, .int .i64 on, .int .i64 num, .bool oth], .int .i64 k, .int .i64 o] W (DoesPost B sb tb W) := by
  obtain ⟨W0, hW0⟩ : ∃ W0, W0 = W.alloc (xObj 2 on num oth) := ⟨_, rfl⟩
  have hb0 : Below W.heap.size W W0 := by rw [hW0]; exact (Below.refl _ _).alloc (Nat.le_refl _) _
  have H0 : PInv B sb tb s W0 := H.below hb0
  have hBW : B ≤ W.heap.size := by have := H.lows.1; have := (H.tset hk).2.2.2.2.1.lt; omega
  obtain ⟨hx, hxt⟩ := heldX W 2 on num oth
  rw [← hW0] at hx hxt
  have hk0 : (0 : Int) ≤ (k : Int) := by omega
  have hk1 : (k : Int) < 2 := by omega
  have ho0 : (0 : Int) ≤ (o : Int) := by omega
  have ho1 : (o : Int) < 2 := by omega
  have HH := Lib.hid H0
  have HX := Lib.hid hx
  have HXT := Lib.hid hxt
  have HB := Lib.hid hb0
  have hl : s.n k ≤ 64 * (s.ws k).length := by have := (H0.set k hk).len.1; omega
  have hw := (H0.set k hk).len.2.2
  have hnh := Lib.hid (dropZ_nohigh hl hw (HH.out.high k hk) num)
  have hP := Lib.hid (Drop_any (HH.out.set k hk |>.drewN 1) num)
  have hR := Lib.hid (fun (w1 : World) (hF : Fr (fun b => b = s.h k) W0 w1) => rDrop_any (HH.out.ris1 hk hk hF) hl hw num)
  obtain ⟨rc, hrc⟩ : ∃ rc, rc = rcode (s.n k) num := ⟨_, rfl⟩
  rw [← hrc] at hP hR
  clear H H0 hx hxt hl hw hrc hb0
  go_enter Tryd.func26, Tryd.ntmps26
  go_wp2_with fail
  rw [show W.alloc (.cells #[.int .i64 2, .int .i64 on, .int .i64 num, .bool oth] 62) = W0 from hW0.symm]
  clear hW0
  go_region_held3 (fun w => w.cell? ⟨sb, k, none⟩ = some (.pointer (some ⟨s.g k, 0, none⟩)) ∧ w.cell? ⟨sb, o, none⟩ = some (.pointer (some ⟨s.g o, 0, none⟩)) ∧ w.cell? ⟨tb, k, none⟩ = some (.pointer (some ⟨s.gp k, 0, none⟩)) ∧ w.cell? ⟨tb, o, none⟩ = some (.pointer (some ⟨s.gp o, 0, none⟩)) ∧ w.cell? ⟨W.heap.size, 2, none⟩ = some (.int .i64 num)) (first | exact HH.out.held hk ho HX.out HXT.out (Fr.drewN _ W0 1) | exact HH.out.held hk ho HX.out HXT.out (HF1.out.mono (fun b _ h => .inl h)) | exact HH.out.held hk ho HX.out HXT.out ((HF1.out.mono (fun b _ h => .inl h)).trans (HF2.out.mono (fun b _ h => .inr h)))) (first | (go_at_call 35; refine hP.out.mono ?_; rintro e w1 ⟨rfl, hS1, hF1⟩; have HS1 := Lib.hid hS1; have HF1 := Lib.hid ((Fr.drewN _ W0 1).trans hF1); clear hS1 hF1) | (go_at_call 51; refine (hR.out w1 HF1.out).mono ?_; rintro e w2 ⟨rfl, hR2, hF2⟩; have HR2 := Lib.hid hR2; have HF2 := Lib.hid hF2; clear hR2 hF2))
  go_wp2
  go_ret
  obtain ⟨p1, p2, p3⟩ := HH.out.stepped hk HS1.out HF1.out HR2.out HF2.out hnh.out
  exact ⟨by simp, ⟨_, p1⟩, (HB.out.mono hBW).trans p2, keep_trans HB.out p3⟩

set_option maxHeartbeats 4000000 in
set_option maxRecDepth 100000 in
theorem does_3 {B sb tb : Nat} {s : PSt} {W : World} (H : PInv B sb tb s W) {k o : Nat} (hk : k < 2) (ho : o < 2) (on num : Int) (oth : Bool) :
    Calls Tryd.prog 26 #[.slice (some ⟨sb, 0, none⟩) 2 2, .slice (some ⟨tb, 0, none⟩) 2 2, .agg #[.int .i64 3, .int .i64 on, .int .i64 num, .bool oth], .int .i64 k, .int .i64 o] W (DoesPost B sb tb W) := by
  obtain ⟨W0, hW0⟩ : ∃ W0, W0 = W.alloc (xObj 3 on num oth) := ⟨_, rfl⟩
  have hb0 : Below W.heap.size W W0 := by rw [hW0]; exact (Below.refl _ _).alloc (Nat.le_refl _) _
  have H0 : PInv B sb tb s W0 := H.below hb0
  have hBW : B ≤ W.heap.size := by have := H.lows.1; have := (H.tset hk).2.2.2.2.1.lt; omega
  obtain ⟨hx, hxt⟩ := heldX W 3 on num oth
  rw [← hW0] at hx hxt
  have hk0 : (0 : Int) ≤ (k : Int) := by omega
  have hk1 : (k : Int) < 2 := by omega
  have ho0 : (0 : Int) ≤ (o : Int) := by omega
  have ho1 : (o : Int) < 2 := by omega
  have HH := Lib.hid H0
  have HX := Lib.hid hx
  have HXT := Lib.hid hxt
  have HB := Lib.hid hb0
  have hl := (H0.set k hk).len
  have hl' := (H0.set o ho).len
  have hnh := Lib.hid (zipZ_nohigh wor (fun x y => x || y) wor_b rfl hl.1 hl'.1 hl.2.2 hl'.2.2 (HH.out.high k hk) (HH.out.high o ho))
  have hP := Lib.hid (Or_any ((HH.out.set k hk).drewN 1) ((HH.out.set o ho).drewN 1))
  have hR := Lib.hid (fun (w1 : World) (hF : Fr (fun b => b = s.h k) W0 w1) => rJoin_or_any (HH.out.ris1 hk hk hF) (HH.out.ris1 hk ho hF) hl.1 hl'.1 hl.2.2 hl'.2.2)
  obtain ⟨rc, hrc⟩ : ∃ rc, rc = jcode (s.n k) (s.n o) := ⟨_, rfl⟩
  rw [← hrc] at hP hR
  clear H H0 hx hxt hl hl' hrc hb0
  go_enter Tryd.func26, Tryd.ntmps26
  go_wp2_with fail
  rw [show W.alloc (.cells #[.int .i64 3, .int .i64 on, .int .i64 num, .bool oth] 62) = W0 from hW0.symm]
  clear hW0
  go_region_held3 (fun w => w.cell? ⟨sb, k, none⟩ = some (.pointer (some ⟨s.g k, 0, none⟩)) ∧ w.cell? ⟨sb, o, none⟩ = some (.pointer (some ⟨s.g o, 0, none⟩)) ∧ w.cell? ⟨tb, k, none⟩ = some (.pointer (some ⟨s.gp k, 0, none⟩)) ∧ w.cell? ⟨tb, o, none⟩ = some (.pointer (some ⟨s.gp o, 0, none⟩)) ∧ w.cell? ⟨W.heap.size, 2, none⟩ = some (.int .i64 num)) (first | exact HH.out.held hk ho HX.out HXT.out (Fr.drewN _ W0 1) | exact HH.out.held hk ho HX.out HXT.out (HF1.out.mono (fun b _ h => .inl h)) | exact HH.out.held hk ho HX.out HXT.out ((HF1.out.mono (fun b _ h => .inl h)).trans (HF2.out.mono (fun b _ h => .inr h)))) (first | (go_at_call 20; refine hP.out.mono ?_; rintro e w1 ⟨rfl, hS1, hF1⟩; have HS1 := Lib.hid hS1; have HF1 := Lib.hid ((Fr.drewN _ W0 1).trans hF1); clear hS1 hF1) | (go_at_call 52; refine (hR.out w1 HF1.out).mono ?_; rintro e w2 ⟨rfl, hR2, hF2⟩; have HR2 := Lib.hid hR2; have HF2 := Lib.hid hF2; clear hR2 hF2))
  go_wp2
  go_ret
  obtain ⟨p1, p2, p3⟩ := HH.out.stepped hk HS1.out HF1.out HR2.out HF2.out hnh.out
  exact ⟨by simp, ⟨_, p1⟩, (HB.out.mono hBW).trans p2, keep_trans HB.out p3⟩

set_option maxHeartbeats 4000000 in
set_option maxRecDepth 100000 in
theorem does_4 {B sb tb : Nat} {s : PSt} {W : World} (H : PInv B sb tb s W) {k o : Nat} (hk : k < 2) (ho : o < 2) (on num : Int) (oth : Bool) :
    Calls Tryd.prog 26 #[.slice (some ⟨sb, 0, none⟩) 2 2, .slice (some ⟨tb, 0, none⟩) 2 2, .agg #[.int .i64 4, .int .i64 on, .int .i64 num, .bool oth], .int .i64 k, .int .i64 o] W (DoesPost B sb tb W) := by
  obtain ⟨W0, hW0⟩ : ∃ W0, W0 = W.alloc (xObj 4 on num oth) := ⟨_, rfl⟩
  have hb0 : Below W.heap.size W W0 := by rw [hW0]; exact (Below.refl _ _).alloc (Nat.le_refl _) _
  have H0 : PInv B sb tb s W0 := H.below hb0
  have hBW : B ≤ W.heap.size := by have := H.lows.1; have := (H.tset hk).2.2.2.2.1.lt; omega
  obtain ⟨hx, hxt⟩ := heldX W 4 on num oth
  rw [← hW0] at hx hxt
  have hk0 : (0 : Int) ≤ (k : Int) := by omega
  have hk1 : (k : Int) < 2 := by omega
  have ho0 : (0 : Int) ≤ (o : Int) := by omega
  have ho1 : (o : Int) < 2 := by omega
  have HH := Lib.hid H0
  have HX := Lib.hid hx
  have HXT := Lib.hid hxt
  have HB := Lib.hid hb0
  have hl := (H0.set k hk).len
  have hl' := (H0.set o ho).len
  have hnh := Lib.hid (zipZ_nohigh wand (fun x y => x && y) wand_b rfl hl.1 hl'.1 hl.2.2 hl'.2.2 (HH.out.high k hk) (HH.out.high o ho))
  have hP := Lib.hid (And_any ((HH.out.set k hk).drewN 1) ((HH.out.set o ho).drewN 1))
  have hR := Lib.hid (fun (w1 : World) (hF : Fr (fun b => b = s.h k) W0 w1) => rJoin_and_any (HH.out.ris1 hk hk hF) (HH.out.ris1 hk ho hF) hl.1 hl'.1 hl.2.2 hl'.2.2)
  obtain ⟨rc, hrc⟩ : ∃ rc, rc = jcode (s.n k) (s.n o) := ⟨_, rfl⟩
  rw [← hrc] at hP hR
  clear H H0 hx hxt hl hl' hrc hb0
  go_enter Tryd.func26, Tryd.ntmps26
  go_wp2_with fail
  rw [show W.alloc (.cells #[.int .i64 4, .int .i64 on, .int .i64 num, .bool oth] 62) = W0 from hW0.symm]
  clear hW0
  go_region_held3 (fun w => w.cell? ⟨sb, k, none⟩ = some (.pointer (some ⟨s.g k, 0, none⟩)) ∧ w.cell? ⟨sb, o, none⟩ = some (.pointer (some ⟨s.g o, 0, none⟩)) ∧ w.cell? ⟨tb, k, none⟩ = some (.pointer (some ⟨s.gp k, 0, none⟩)) ∧ w.cell? ⟨tb, o, none⟩ = some (.pointer (some ⟨s.gp o, 0, none⟩)) ∧ w.cell? ⟨W.heap.size, 2, none⟩ = some (.int .i64 num)) (first | exact HH.out.held hk ho HX.out HXT.out (Fr.drewN _ W0 1) | exact HH.out.held hk ho HX.out HXT.out (HF1.out.mono (fun b _ h => .inl h)) | exact HH.out.held hk ho HX.out HXT.out ((HF1.out.mono (fun b _ h => .inl h)).trans (HF2.out.mono (fun b _ h => .inr h)))) (first | (go_at_call 19; refine hP.out.mono ?_; rintro e w1 ⟨rfl, hS1, hF1⟩; have HS1 := Lib.hid hS1; have HF1 := Lib.hid ((Fr.drewN _ W0 1).trans hF1); clear hS1 hF1) | (go_at_call 52; refine (hR.out w1 HF1.out).mono ?_; rintro e w2 ⟨rfl, hR2, hF2⟩; have HR2 := Lib.hid hR2; have HF2 := Lib.hid hF2; clear hR2 hF2))
  go_wp2
  go_ret
  obtain ⟨p1, p2, p3⟩ := HH.out.stepped hk HS1.out HF1.out HR2.out HF2.out hnh.out
  exact ⟨by simp, ⟨_, p1⟩, (HB.out.mono hBW).trans p2, keep_trans HB.out p3⟩

set_option maxHeartbeats 4000000 in
set_option maxRecDepth 100000 in
theorem does_5 {B sb tb : Nat} {s : PSt} {W : World} (H : PInv B sb tb s W) {k o : Nat} (hk : k < 2) (ho : o < 2) (on num : Int) (oth : Bool) :
    Calls Tryd.prog 26 #[.slice (some ⟨sb, 0, none⟩) 2 2, .slice (some ⟨tb, 0, none⟩) 2 2, .agg #[.int .i64 5, .int .i64 on, .int .i64 num, .bool oth], .int .i64 k, .int .i64 o] W (DoesPost B sb tb W) := by
  obtain ⟨W0, hW0⟩ : ∃ W0, W0 = W.alloc (xObj 5 on num oth) := ⟨_, rfl⟩
  have hb0 : Below W.heap.size W W0 := by rw [hW0]; exact (Below.refl _ _).alloc (Nat.le_refl _) _
  have H0 : PInv B sb tb s W0 := H.below hb0
  have hBW : B ≤ W.heap.size := by have := H.lows.1; have := (H.tset hk).2.2.2.2.1.lt; omega
  obtain ⟨hx, hxt⟩ := heldX W 5 on num oth
  rw [← hW0] at hx hxt
  have hk0 : (0 : Int) ≤ (k : Int) := by omega
  have hk1 : (k : Int) < 2 := by omega
  have ho0 : (0 : Int) ≤ (o : Int) := by omega
  have ho1 : (o : Int) < 2 := by omega
  have HH := Lib.hid H0
  have HX := Lib.hid hx
  have HXT := Lib.hid hxt
  have HB := Lib.hid hb0
  have hl := (H0.set k hk).len
  have hl' := (H0.set o ho).len
  have hnh := Lib.hid (zipZ_nohigh wout (fun x y => x && !y) wout_b rfl hl.1 hl'.1 hl.2.2 hl'.2.2 (HH.out.high k hk) (HH.out.high o ho))
  have hP := Lib.hid (Without_any ((HH.out.set k hk).drewN 1) ((HH.out.set o ho).drewN 1))
  have hR := Lib.hid (fun (w1 : World) (hF : Fr (fun b => b = s.h k) W0 w1) => rJoin_out_any (HH.out.ris1 hk hk hF) (HH.out.ris1 hk ho hF) hl.1 hl'.1 hl.2.2 hl'.2.2)
  obtain ⟨rc, hrc⟩ : ∃ rc, rc = jcode (s.n k) (s.n o) := ⟨_, rfl⟩
  rw [← hrc] at hP hR
  clear H H0 hx hxt hl hl' hrc hb0
  go_enter Tryd.func26, Tryd.ntmps26
  go_wp2_with fail
  rw [show W.alloc (.cells #[.int .i64 5, .int .i64 on, .int .i64 num, .bool oth] 62) = W0 from hW0.symm]
  clear hW0
  go_region_held3 (fun w => w.cell? ⟨sb, k, none⟩ = some (.pointer (some ⟨s.g k, 0, none⟩)) ∧ w.cell? ⟨sb, o, none⟩ = some (.pointer (some ⟨s.g o, 0, none⟩)) ∧ w.cell? ⟨tb, k, none⟩ = some (.pointer (some ⟨s.gp k, 0, none⟩)) ∧ w.cell? ⟨tb, o, none⟩ = some (.pointer (some ⟨s.gp o, 0, none⟩)) ∧ w.cell? ⟨W.heap.size, 2, none⟩ = some (.int .i64 num)) (first | exact HH.out.held hk ho HX.out HXT.out (Fr.drewN _ W0 1) | exact HH.out.held hk ho HX.out HXT.out (HF1.out.mono (fun b _ h => .inl h)) | exact HH.out.held hk ho HX.out HXT.out ((HF1.out.mono (fun b _ h => .inl h)).trans (HF2.out.mono (fun b _ h => .inr h)))) (first | (go_at_call 18; refine hP.out.mono ?_; rintro e w1 ⟨rfl, hS1, hF1⟩; have HS1 := Lib.hid hS1; have HF1 := Lib.hid ((Fr.drewN _ W0 1).trans hF1); clear hS1 hF1) | (go_at_call 52; refine (hR.out w1 HF1.out).mono ?_; rintro e w2 ⟨rfl, hR2, hF2⟩; have HR2 := Lib.hid hR2; have HF2 := Lib.hid hF2; clear hR2 hF2))
  go_wp2
  go_ret
  obtain ⟨p1, p2, p3⟩ := HH.out.stepped hk HS1.out HF1.out HR2.out HF2.out hnh.out
  exact ⟨by simp, ⟨_, p1⟩, (HB.out.mono hBW).trans p2, keep_trans HB.out p3⟩
end Go.Proofs.YthfapneifbjlmaaDoor
end

section
namespace Go.Proofs.YthfapneifbjlmaaDoor
open Go.RowKit Go.Shelf
attribute [local go_sem] Oper.semAt_some
set_option linter.unusedVariables false
set_option linter.unusedSimpArgs false

theorem upd_cells (s : PSt) {k : Nat} (hk : k < 2) (g' h' : Nat) (ws' : List Nat) : (#[Value.pointer (some ⟨s.g 0, 0, none⟩), .pointer (some ⟨s.g 1, 0, none⟩)] : Array Value).setIfInBounds k (.pointer (some ⟨g', 0, none⟩)) = #[.pointer (some ⟨(s.upd k g' h' ws').g 0, 0, none⟩), .pointer (some ⟨(s.upd k g' h' ws').g 1, 0, none⟩)] := by
  rcases two hk with rfl | rfl <;> simp [PSt.upd]
/-- A new set has been laid in the place of set k. -/
theorem PInv.swap {B sb tb : Nat} {s : PSt} {W : World} (H : PInv B sb tb s W) {k : Nat} (hk : k < 2) {w1 w4 : World} {g' h' : Nat} (hb1 : Below W.heap.size W w1) (hS : IsSet w1 g' h' (s.n k) (s.ws k)) (hg : W.heap.size ≤ g') (hh : W.heap.size ≤ h') (hF : Fr (fun b => b = s.h k) (w1.setCell ⟨sb, k, none⟩ (.pointer (some ⟨g', 0, none⟩))) w4) :
    PInv B sb tb (s.upd k g' h' (s.ws k)) w4 ∧ Below B W w4 ∧ Keep62 W w4 := by
  obtain ⟨a1, a2, a3, a4, a5, a6⟩ := H.tset hk
  have hlt := a2.lt
  have hlt5 := a5.lt
  have hFs : Fr (fun b => b = sb) w1 (w1.setCell ⟨sb, k, none⟩ (.pointer (some ⟨g', 0, none⟩))) := Fr.setCell _ _ _ (fun _ => rfl)
  have hF2 : Fr (fun b => b = s.h k ∨ b = sb) W w4 := ((Fr.of_below hb1).trans (hFs.mono (fun b _ h => .inr h))).trans (hF.mono (fun b _ h => .inl h))
  have hFM : Fr (Mk s sb k) W w4 := hF2.mono (fun b _ h => h.elim (fun h => .inr (.inl h)) (fun h => .inr (.inr (.inr h))))
  have hsb1 := (hb1.block sb hlt5).trans H.hsb
  have hsz : sb < (w1.setCell ⟨sb, k, none⟩ (.pointer (some ⟨g', 0, none⟩))).heap.size := by rw [show (w1.setCell ⟨sb, k, none⟩ (.pointer (some ⟨g', 0, none⟩))).heap.size = w1.heap.size from by simp [World.setCell]]; have := hb1.size; omega
  refine ⟨H.re hk hFM ?_ (H.high k hk) ?_ (.inr ⟨hg, hh⟩) ?_, H.belowM hk hFM, H.keep62 hk hFM⟩
  · exact (hS.fr hFs (show ¬ g' = sb by omega) (show ¬ h' = sb by omega)).fr hF (show ¬ g' = s.h k by omega) (show ¬ h' = s.h k by omega)
  · refine (H.ris k hk).fr2 hF2 ?_ (fun b hb => ?_)
    · rintro (h | h)
      · exact a3.ne a2 (by decide) h
      · exact a3.ne a5 (by decide) h
    · rw [inOf_length] at hb
      rintro (h | h)
      · exact (a4 b hb).ne a2 (by decide) h
      · exact (a4 b hb).ne a5 (by decide) h
  · rw [← upd_cells s hk g' h' (s.ws k)]
    exact (hF.block sb hsz (fun h => a5.ne a2 (by decide) h)).trans (heap_set_same hsb1 k _)
theorem last_zero {n : Nat} {ws : List Nat} (hl : ws.length = (n + 63) / 64) (hw : Words64 ws) (h : NoHigh n ws) : n % 64 = 0 ∨ wd ws (n / 64) / 2 ^ (n % 64) = 0 := by
  by_cases h64 : n % 64 = 0
  · exact .inl h64
  · right
    rcases Nat.eq_zero_or_pos (wd ws (n / 64) / 2 ^ (n % 64)) with h0 | h0
    · exact h0
    · obtain ⟨q, h1, h2, h3⟩ := high_of n ws hl hw h64 (by omega)
      rw [h q h1] at h3; cases h3

set_option maxHeartbeats 4000000 in
set_option maxRecDepth 100000 in
theorem does_6 {B sb tb : Nat} {s : PSt} {W : World} (H : PInv B sb tb s W) {k o : Nat} (hk : k < 2) (ho : o < 2) (on num : Int) (oth : Bool) :
    Calls Tryd.prog 26 #[.slice (some ⟨sb, 0, none⟩) 2 2, .slice (some ⟨tb, 0, none⟩) 2 2, .agg #[.int .i64 6, .int .i64 on, .int .i64 num, .bool oth], .int .i64 k, .int .i64 o] W (DoesPost B sb tb W) := by
  obtain ⟨W0, hW0⟩ : ∃ W0, W0 = W.alloc (xObj 6 on num oth) := ⟨_, rfl⟩
  have hb0 : Below W.heap.size W W0 := by rw [hW0]; exact (Below.refl _ _).alloc (Nat.le_refl _) _
  have H0 : PInv B sb tb s W0 := H.below hb0
  have hBW : B ≤ W.heap.size := by have := H.lows.1; have := (H.tset hk).2.2.2.2.1.lt; omega
  obtain ⟨hx, hxt⟩ := heldX W 6 on num oth
  rw [← hW0] at hx hxt
  have hk0 : (0 : Int) ≤ (k : Int) := by omega
  have hk1 : (k : Int) < 2 := by omega
  have ho0 : (0 : Int) ≤ (o : Int) := by omega
  have ho1 : (o : Int) < 2 := by omega
  have HH := Lib.hid H0
  have HX := Lib.hid hx
  have HXT := Lib.hid hxt
  have HB := Lib.hid hb0
  have hc1 : (W.alloc (.cells #[.int .i64 6, .int .i64 on, .int .i64 num, .bool oth] 62)).cell? ⟨sb, k, none⟩ = some (.pointer (some ⟨s.g k, 0, none⟩)) := by
    have := (H0.scell hk).1
    rw [hW0] at this
    exact this
  have hcp := Lib.hid (Copy_set (HH.out.set k hk))
  clear H H0 hx hxt hb0
  go_enter Tryd.func26, Tryd.ntmps26
  go_wp2_with fail
  rw [show W.alloc (.cells #[.int .i64 6, .int .i64 on, .int .i64 num, .bool oth] 62) = W0 from hW0.symm]
  clear hW0
  go_at_call 17
  refine hcp.out.mono ?_
  rintro e w1 ⟨g', h', rfl, hS, hg, hh, hb1⟩
  have hsb1 := (hb1.block sb (HH.out.tset hk).2.2.2.2.1.lt).trans HH.out.hsb
  have hc2 : w1.cell? ⟨sb, k, none⟩ = some (.pointer (some ⟨s.g k, 0, none⟩)) := (hb1.cell (p := ⟨sb, k, none⟩) (HH.out.tset hk).2.2.2.2.1.lt).trans (HH.out.scell hk).1
  have hf2 : w1.frozen? ⟨sb, k, none⟩ = false := by simp [World.frozen?, hsb1]
  have hold : IsSet (w1.setCell ⟨sb, k, none⟩ (.pointer (some ⟨g', 0, none⟩))) (s.g k) (s.h k) (s.n k) (s.ws k) := by
    obtain ⟨a1, a2, a3, a4, a5, a6⟩ := HH.out.tset hk
    exact ((HH.out.set k hk).below hb1 a1.lt a2.lt).fr (M := fun b => b = sb) (Fr.setCell _ _ _ (fun _ => rfl)) (a1.ne a5 (by decide)) (a2.ne a5 (by decide))
  have HS := Lib.hid hS
  have HB1 := Lib.hid hb1
  have hp := Lib.hid (Put_any hold 0)
  clear hS hb1 hsb1 hold
  go_wp2_with fail
  go_at_call 16
  refine hp.out.mono ?_
  rintro e w3 ⟨rfl, hS3, hF3⟩
  have hd := Lib.hid (Drop_any hS3 1)
  have HF3 := Lib.hid hF3
  clear hS3 hF3
  go_wp2_with fail
  go_at_call 35
  refine hd.out.mono ?_
  rintro e w4 ⟨rfl, hS4, hF4⟩
  have HF4 := Lib.hid hF4
  clear hS4 hF4
  go_wp2
  go_ret
  obtain ⟨p1, p2, p3⟩ := HH.out.swap hk HB1.out HS.out hg hh (HF3.out.trans HF4.out)
  exact ⟨rfl, ⟨_, p1⟩, (HB.out.mono hBW).trans p2, keep_trans HB.out p3⟩

set_option maxHeartbeats 4000000 in
set_option maxRecDepth 100000 in
theorem does_7 {B sb tb : Nat} {s : PSt} {W : World} (H : PInv B sb tb s W) {k o : Nat} (hk : k < 2) (ho : o < 2) (on num : Int) (oth : Bool) :
    Calls Tryd.prog 26 #[.slice (some ⟨sb, 0, none⟩) 2 2, .slice (some ⟨tb, 0, none⟩) 2 2, .agg #[.int .i64 7, .int .i64 on, .int .i64 num, .bool oth], .int .i64 k, .int .i64 o] W (DoesPost B sb tb W) := by
  obtain ⟨W0, hW0⟩ : ∃ W0, W0 = W.alloc (xObj 7 on num oth) := ⟨_, rfl⟩
  have hb0 : Below W.heap.size W W0 := by rw [hW0]; exact (Below.refl _ _).alloc (Nat.le_refl _) _
  have H0 : PInv B sb tb s W0 := H.below hb0
  have hBW : B ≤ W.heap.size := by have := H.lows.1; have := (H.tset hk).2.2.2.2.1.lt; omega
  obtain ⟨hx, hxt⟩ := heldX W 7 on num oth
  rw [← hW0] at hx hxt
  have hk0 : (0 : Int) ≤ (k : Int) := by omega
  have hk1 : (k : Int) < 2 := by omega
  have ho0 : (0 : Int) ≤ (o : Int) := by omega
  have ho1 : (o : Int) < 2 := by omega
  have HH := Lib.hid H0
  have HX := Lib.hid hx
  have HXT := Lib.hid hxt
  have HB := Lib.hid hb0
  have hlen := (H0.set k hk).len
  have hrm := Lib.hid (Room_set ((HH.out.set k hk).drewN 1))
  have hwd := Lib.hid (Words_set ((HH.out.set k hk).drewN 1))
  have hof := Lib.hid (fun (w1 : World) (kw cw : Nat) (ho : w1.ownsRow W0.heap.size 42 1 (.slice (some ⟨kw, 0, none⟩) (s.ws k).length cw) (s.ws k).length (u64s (s.ws k))) => Of_ok w1 (s.n k) ⟨kw, 0, none⟩ (s.ws k) cw (ho.cells (g := kw) rfl) hlen.2.2 hlen.2.1 hlen.1 (last_zero hlen.1 hlen.2.2 (HH.out.high k hk)))
  have hkeep := Lib.hid (fun (w : World) (hb : Below W0.heap.size W0 w) => (hb.cell (p := ⟨sb, k, none⟩) (HH.out.tset hk).2.2.2.2.1.lt).trans (HH.out.scell hk).1)
  clear hlen
  clear H H0 hx hxt hb0
  go_enter Tryd.func26, Tryd.ntmps26
  go_wp2_with fail
  rw [show W.alloc (.cells #[.int .i64 7, .int .i64 on, .int .i64 num, .bool oth] 62) = W0 from hW0.symm]
  clear hW0
  go_region_held3 (fun w => w.cell? ⟨sb, k, none⟩ = some (.pointer (some ⟨s.g k, 0, none⟩))) (first | exact hkeep.out _ ((Below.refl _ _).drew) | exact hkeep.out _ HB1.out | exact hkeep.out _ (HB1.out.trans (HB2.out.mono HB1.out.size))) (first | (go_at_call 40; refine hrm.out.mono ?_; rintro e w9 ⟨rfl, rfl⟩) | (go_at_call 32; refine hwd.out.mono ?_; rintro e w1 ⟨kw, cw, rfl, how, hb1⟩; have HOW := Lib.hid how; have HB1 := Lib.hid ((Below.refl W0.heap.size W0).drew.trans hb1); clear how hb1) | (go_at_call 12; refine (hof.out w1 kw cw HOW.out).mono ?_; rintro e w2 ⟨g', h', rfl, hS2, hg2, hh2, hb2⟩; have HS2 := Lib.hid hS2; have HB2 := Lib.hid hb2; clear hS2 hb2))
  have hb12 : Below W0.heap.size W0 w2 := HB1.out.trans (HB2.out.mono HB1.out.size)
  have hsz := HB1.out.size
  have hsb1 := (hb12.block sb (HH.out.tset hk).2.2.2.2.1.lt).trans HH.out.hsb
  have hc2 := hkeep.out w2 hb12
  have hf2 : w2.frozen? ⟨sb, k, none⟩ = false := by simp [World.frozen?, hsb1]
  have HB12 := Lib.hid hb12
  clear hb12 hsb1
  go_wp2
  go_ret
  obtain ⟨p1, p2, p3⟩ := HH.out.swap hk HB12.out HS2.out (by omega) (by omega) (Fr.refl _ _)
  exact ⟨rfl, ⟨_, p1⟩, (HB.out.mono hBW).trans p2, keep_trans HB.out p3⟩

set_option maxHeartbeats 4000000 in
set_option maxRecDepth 100000 in
theorem does_8 {B sb tb : Nat} {s : PSt} {W : World} (H : PInv B sb tb s W) {k o : Nat} (hk : k < 2) (ho : o < 2) (on num : Int) (oth : Bool) :
    Calls Tryd.prog 26 #[.slice (some ⟨sb, 0, none⟩) 2 2, .slice (some ⟨tb, 0, none⟩) 2 2, .agg #[.int .i64 8, .int .i64 on, .int .i64 num, .bool oth], .int .i64 k, .int .i64 o] W (DoesPost B sb tb W) := by
  obtain ⟨W0, hW0⟩ : ∃ W0, W0 = W.alloc (xObj 8 on num oth) := ⟨_, rfl⟩
  have hb0 : Below W.heap.size W W0 := by rw [hW0]; exact (Below.refl _ _).alloc (Nat.le_refl _) _
  have H0 : PInv B sb tb s W0 := H.below hb0
  have hBW : B ≤ W.heap.size := by have := H.lows.1; have := (H.tset hk).2.2.2.2.1.lt; omega
  obtain ⟨hx, hxt⟩ := heldX W 8 on num oth
  rw [← hW0] at hx hxt
  have hk0 : (0 : Int) ≤ (k : Int) := by omega
  have hk1 : (k : Int) < 2 := by omega
  have ho0 : (0 : Int) ≤ (o : Int) := by omega
  have ho1 : (o : Int) < 2 := by omega
  have HH := Lib.hid H0
  have HX := Lib.hid hx
  have HXT := Lib.hid hxt
  have HB := Lib.hid hb0
  obtain ⟨W1, hW1⟩ : ∃ W1, W1 = W0.alloc (.cells #[.int .i64 0, .slice none 0 0, .bool false] 55) := ⟨_, rfl⟩
  have hb1 : Below W0.heap.size W0 W1 := by rw [hW1]; exact (Below.refl _ _).alloc (Nat.le_refl _) _
  have H1 : PInv B sb tb s W1 := H0.below hb1
  have hws : W0.heap.size = W.heap.size + 1 := by rw [hW0]; simp
  have hz : W1.heap[W0.heap.size]? = some (.cells #[.int .i64 0, .slice none 0 0, .bool false] 55 (0, 0)) := by rw [hW1]; exact heap_alloc_new W0 _
  have hdz : ∀ n, Dead (W1.drewN n) (.pointer (some ⟨W0.heap.size, 0, none⟩)) := fun n => .inr ⟨_, rfl, (cell_of_row W1 W0.heap.size 2 _ _ _ hz).trans rfl⟩
  have hdn : ∀ n, Dead (W1.drewN n) (.pointer none) := fun n => .inl rfl
  have hgz : Value.pointer (some ⟨W0.heap.size, 0, none⟩) ≠ .pointer (some ⟨s.g k, 0, none⟩) := by
    intro h; injection h with h; injection h with h; injection h with h
    have := (H0.set k hk).lt; omega
  have hS : ∀ n, IsSet (W1.drewN n) (s.g k) (s.h k) (s.n k) (s.ws k) := fun n => (H1.set k hk).drewN n
  have hc1 : ((W.alloc (.cells #[.int .i64 8, .int .i64 on, .int .i64 num, .bool oth] 62)).alloc (.cells #[.int .i64 0, .slice none 0 0, .bool false] 55)).cell? ⟨sb, k, none⟩ = some (.pointer (some ⟨s.g k, 0, none⟩)) := by
    have := (H1.scell hk).1
    rw [hW1, hW0] at this
    exact this
  have hc1z := (H1.scell hk).1
  have hor := Lib.hid (fun n => Or_30 (fun f => with_none (hS n) (hdn n) f))
  have han := Lib.hid (fun n => And_30 (fun f => with_none (hS n) (hdz n) f))
  have hwo := Lib.hid (fun n => Without_30 (fun f => with_none (hS n) (hdn n) f))
  have hwi := Lib.hid (fun n => Within_no (fits_none (hS n) (hdz n) hgz))
  have hsa := Lib.hid (fun n => Same_no (W := W1.drewN n) (fun m => fits_none ((hS n).drewN m) (.inl rfl) (by simp)))
  have HH1 := Lib.hid H1
  have HB1 := Lib.hid hb1
  rw [hws] at han hwi
  clear H1 hb1 hz hdz hdn hgz hS hws
  rw [hW0] at hW1
  clear H H0 hx hxt hb0 hW0
  go_enter Tryd.func26, Tryd.ntmps26
  go_wp2_with fail
  rw [show (W.alloc (.cells #[.int .i64 8, .int .i64 on, .int .i64 num, .bool oth] 62)).alloc (.cells #[.int .i64 0, .slice none 0 0, .bool false] 55) = W1 from hW1.symm]
  clear hW1 hc1
  go_at_call 20
  refine (hor.out 0).mono ?_
  rintro e w1 ⟨rfl, n1, rfl⟩
  go_wp2_with fail
  go_at_call 19
  refine (han.out _).mono ?_
  rintro e w1 ⟨rfl, n2, rfl⟩
  go_wp2_with fail
  go_at_call 18
  refine (hwo.out _).mono ?_
  rintro e w1 ⟨rfl, n3, rfl⟩
  go_wp2_with fail
  go_at_call 23
  refine (hwi.out _).mono ?_
  rintro e w1 ⟨rfl, n4, rfl⟩
  go_wp2_with fail
  go_at_call 22
  refine (hsa.out _).mono ?_
  rintro e w1 ⟨rfl, n5, rfl⟩
  go_wp2
  go_ret
  exact ⟨rfl, ⟨_, HH1.out.drewN _⟩, (HB.out.mono hBW).trans ((HB1.out.mono (Nat.le_trans hBW HB.out.size)).trans (Fr.below2 (Fr.drewN (fun _ => False) W1 _) (fun _ _ => id) (Nat.le_trans hBW (Nat.le_trans HB.out.size HB1.out.size)))), keep_trans HB.out (keep_trans HB1.out (fun b _ => rfl))⟩

set_option maxHeartbeats 4000000 in
set_option maxRecDepth 100000 in
theorem does_0 {B sb tb : Nat} {s : PSt} {W : World} (H : PInv B sb tb s W) {k o : Nat} (hk : k < 2) (ho : o < 2) (kind on num : Int) (oth : Bool) (h1 : kind ≠ 1) (h2 : kind ≠ 2) (h3 : kind ≠ 3) (h4 : kind ≠ 4) (h5 : kind ≠ 5) (h6 : kind ≠ 6) (h7 : kind ≠ 7) (h8 : kind ≠ 8) :
    Calls Tryd.prog 26 #[.slice (some ⟨sb, 0, none⟩) 2 2, .slice (some ⟨tb, 0, none⟩) 2 2, .agg #[.int .i64 kind, .int .i64 on, .int .i64 num, .bool oth], .int .i64 k, .int .i64 o] W (DoesPost B sb tb W) := by
  have hb0 : Below W.heap.size W (W.alloc (xObj kind on num oth)) := (Below.refl _ _).alloc (Nat.le_refl _) _
  have H0 : PInv B sb tb s (W.alloc (xObj kind on num oth)) := H.below hb0
  have hBW : B ≤ W.heap.size := by have := H.lows.1; have := (H.tset hk).2.2.2.2.1.lt; omega
  have b1 : (kind == 1) = false := by simpa using h1
  have b2 : (kind == 2) = false := by simpa using h2
  have b3 : (kind == 3) = false := by simpa using h3
  have b4 : (kind == 4) = false := by simpa using h4
  have b5 : (kind == 5) = false := by simpa using h5
  have b6 : (kind == 6) = false := by simpa using h6
  have b7 : (kind == 7) = false := by simpa using h7
  have b8 : (kind == 8) = false := by simpa using h8
  have HH := Lib.hid H0
  have HB := Lib.hid hb0
  clear H H0 hb0 h1 h2 h3 h4 h5 h6 h7 h8
  go_enter Tryd.func26, Tryd.ntmps26
  go_wp2
  go_ret
  exact ⟨rfl, ⟨_, HH.out⟩, HB.out.mono hBW, fun b hb => HB.out.block b hb.lt⟩
theorem does_any {B sb tb : Nat} {s : PSt} {W : World} (H : PInv B sb tb s W) {k o : Nat} (hk : k < 2) (ho : o < 2) (kind on num : Int) (oth : Bool) :
    Calls Tryd.prog 26 #[.slice (some ⟨sb, 0, none⟩) 2 2, .slice (some ⟨tb, 0, none⟩) 2 2, .agg #[.int .i64 kind, .int .i64 on, .int .i64 num, .bool oth], .int .i64 k, .int .i64 o] W (DoesPost B sb tb W) := by
  by_cases h1 : kind = 1
  · subst h1; exact does_1 H hk ho on num oth
  by_cases h2 : kind = 2
  · subst h2; exact does_2 H hk ho on num oth
  by_cases h3 : kind = 3
  · subst h3; exact does_3 H hk ho on num oth
  by_cases h4 : kind = 4
  · subst h4; exact does_4 H hk ho on num oth
  by_cases h5 : kind = 5
  · subst h5; exact does_5 H hk ho on num oth
  by_cases h6 : kind = 6
  · subst h6; exact does_6 H hk ho on num oth
  by_cases h7 : kind = 7
  · subst h7; exact does_7 H hk ho on num oth
  by_cases h8 : kind = 8
  · subst h8; exact does_8 H hk ho on num oth
  exact does_0 H hk ho kind on num oth h1 h2 h3 h4 h5 h6 h7 h8
end Go.Proofs.YthfapneifbjlmaaDoor
end
