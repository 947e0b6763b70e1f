/- Layer 3: Or, And, Without of two sets. -/
import Derived.Test.YthfapneifbjlmaaDoorM
import Derived.Test.YthfapneifbjlmaaDoorI
import Derived.StillTailTactics
namespace Go.Proofs.YthfapneifbjlmaaDoor
open Go.RowKit Go.Shelf
set_option linter.unusedVariables false
set_option linter.unusedSimpArgs false

def wor (a b : Nat) : Nat := a ||| b
def wand (a b : Nat) : Nat := a &&& b
def wout (a b : Nat) : Nat := a &&& (18446744073709551615 - b)
theorem wor_lt {a b : Nat} (ha : a < 18446744073709551616) (hb : b < 18446744073709551616) : wor a b < 18446744073709551616 := or_lt ha hb
theorem wand_lt {a b : Nat} (ha : a < 18446744073709551616) (hb : b < 18446744073709551616) : wand a b < 18446744073709551616 := and_lt _ ha
theorem wout_lt {a b : Nat} (ha : a < 18446744073709551616) (hb : b < 18446744073709551616) : wout a b < 18446744073709551616 := and_lt _ ha
theorem or_cl (W : World) (a b : Nat) (ha : a < 18446744073709551616) (hb : b < 18446744073709551616) : Calls Tryd.prog 47 #[.int .u64 a, .int .u64 b] W fun e w' => e = .returned (.int .u64 (wor a b)) ∧ w' = W := by
  have hq := u64_or_nat a b ha hb
  go_enter Tryd.func47, Tryd.ntmps47
  go_wp2
  go_ret
  exact ⟨rfl, rfl⟩
theorem and_cl (W : World) (a b : Nat) (ha : a < 18446744073709551616) (hb : b < 18446744073709551616) : Calls Tryd.prog 46 #[.int .u64 a, .int .u64 b] W fun e w' => e = .returned (.int .u64 (wand a b)) ∧ w' = W := by
  have hq := bits_and_u64_nat a b ha hb
  go_enter Tryd.func46, Tryd.ntmps46
  go_wp2
  go_ret
  exact ⟨rfl, rfl⟩
theorem out_cl (W : World) (a b : Nat) (ha : a < 18446744073709551616) (hb : b < 18446744073709551616) : Calls Tryd.prog 45 #[.int .u64 a, .int .u64 b] W fun e w' => e = .returned (.int .u64 (wout a b)) ∧ w' = W := by
  have hq := u64_andNot_nat a b ha hb
  go_enter Tryd.func45, Tryd.ntmps45
  go_wp2
  go_ret
  exact ⟨rfl, rfl⟩
/-- The words of which the first k are done. -/
def mix (f : Nat → Nat → Nat) (ws vs : List Nat) (k : Nat) : List Nat := (List.zipWith f ws vs).take k ++ ws.drop k
theorem mix_zero (f : Nat → Nat → Nat) (ws vs : List Nat) : mix f ws vs 0 = ws := by simp [mix]
theorem mix_all (f : Nat → Nat → Nat) (ws vs : List Nat) (h : vs.length = ws.length) : mix f ws vs ws.length = List.zipWith f ws vs := by
  simp only [mix, List.drop_length, List.append_nil]; exact List.take_of_length_le (by simp [h])
theorem mix_length (f : Nat → Nat → Nat) (ws vs : List Nat) (h : vs.length = ws.length) (k : Nat) (hk : k ≤ ws.length) : (mix f ws vs k).length = ws.length := by
  simp [mix, h]; omega
theorem mix_at (f : Nat → Nat → Nat) (ws vs : List Nat) (h : vs.length = ws.length) (k : Nat) (hk : k < ws.length) : wd (mix f ws vs k) k = wd ws k := by
  have hl : ((List.zipWith f ws vs).take k).length = k := by simp [h]; omega
  simp only [wd, List.getD_eq_getElem?_getD, mix]
  rw [List.getElem?_append_right (by omega), hl, List.getElem?_drop]; simp
theorem mix_set (f : Nat → Nat → Nat) (ws vs : List Nat) (h : vs.length = ws.length) (k : Nat) (hk : k < ws.length) : (mix f ws vs k).set k (f (wd ws k) (wd vs k)) = mix f ws vs (k + 1) := by
  have hl : ((List.zipWith f ws vs).take k).length = k := by simp [h]; omega
  have hz : k < (List.zipWith f ws vs).length := by simp [h]; omega
  unfold mix
  rw [List.set_append_right _ _ (by omega), hl, Nat.sub_self, List.drop_eq_getElem_cons hk, List.set_cons_zero, List.take_succ_eq_append_getElem hz]
  simp [wd, List.getElem?_eq_getElem hk, List.getElem?_eq_getElem (show k < vs.length by omega)]
theorem IsSet.notWords {W : World} {g h room g' h' room' : Nat} {ws vs : List Nat} (H : IsSet W g h room ws) (H' : IsSet W g' h' room' vs) : g ≠ h' := by
  obtain ⟨_, _, a, _⟩ := H
  obtain ⟨_, _, _, b, _⟩ := H'
  rintro rfl
  rw [a] at b
  simp at b
/-- Set t holds its words from place k on (its block may be the one that is written). -/
def From (W : World) (h : Nat) (vs : List Nat) (k : Nat) : Prop := ∀ j, k ≤ j → j < vs.length → W.cell? ⟨h, j, none⟩ = some (.int .u64 (wd vs j))

set_option maxHeartbeats 800000 in
theorem with_or {W : World} {g h room : Nat} {ws : List Nat} (H : IsSet W g h room ws) {g' h' : Nat} {vs : List Nat} (H' : IsSet W g' h' room vs) :
    Calls Tryd.prog 44 #[.pointer (some ⟨g, 0, none⟩), .pointer (some ⟨g', 0, none⟩), .func (.func 47) #[] #[]] W fun e w' => e = .returned (.int .i64 0) ∧ IsSet w' g h room (List.zipWith wor ws vs) ∧ Fr (fun k => k = h) W w' := by
  obtain ⟨cap, h0, h1, h2, hcap⟩ := H.cells
  obtain ⟨cap', h0', h1', h2', hcap'⟩ := H'.cells
  have hvl : vs.length = ws.length := by rw [H.len.1, H'.len.1]
  have al := Lib.hid (alive_set H)
  have al' := Lib.hid (fun n => alive_set (H'.drewN n))
  have HS := Lib.hid H
  have HS' := Lib.hid H'
  have hsm := H.small.1
  have hgh : g ≠ h := H.lt.2.2
  have hgh' : g' ≠ h := H'.notWords H
  clear H H'
  go_enter Tryd.func44, Tryd.ntmps44
  go_wp2_with (go_at_call 42; refine al.out.mono ?_; rintro e w' ⟨rfl, rfl⟩)
  go_quiet ((go_at_call 42; exact Calls.quiet_of_same ((al'.out _).mono (fun e w' h => ⟨h.1, h.2.symm⟩))))
  go_wp2_with fail
  go_loopw [7, 32] (fun u i wr => ∃ k : Nat, k ≤ ws.length ∧ i = .int .i64 k ∧ IsSet wr g h room (mix wor ws vs k) ∧ From wr h' vs k ∧ wr.cell? ⟨g', 1, none⟩ = some (.slice (some ⟨h', 0, none⟩) vs.length cap') ∧ Fr (fun k => k = h) W wr) (fun u i wr => ws.length - (intOf i).toNat)
  case atStart => exact ⟨0, Nat.zero_le _, rfl, by rw [mix_zero]; exact HS.out.drewN nq, fun j _ hj => (HS'.out.word j hj).1, h1', Fr.drewN _ W nq⟩
  case round =>
    obtain ⟨k, hk, rfl, hset, hfrom, hb1, hfr⟩ := hrel
    by_cases hlt : k < ws.length
    · have hml := mix_length wor ws vs hvl k hk
      obtain ⟨hc, hf⟩ := hset.word k (by omega)
      rw [mix_at wor ws vs hvl k hlt] at hc
      have hcv := hfrom k (Nat.le_refl _) (by omega)
      obtain ⟨capr, c0, c1, c2, hcapr⟩ := hset.cells
      rw [hml] at c1 hcapr
      have hcl := Lib.hid (or_cl wr.drew (wd ws k) (wd vs k) (HS.out.small.2 k) (HS'.out.small.2 k))
      have hst := Lib.hid (hset.store k (by omega) (wor (wd ws k) (wd vs k)) (wor_lt (HS.out.small.2 k) (HS'.out.small.2 k)))
      have HFM := Lib.hid hfrom
      have HSET := Lib.hid hset
      clear hset hfrom
      go_wp2_with fail
      refine wp_region_still_tail 22 (by kernel_rfl) (by kernel_rfl) ?_
      simp only [List.take_succ_cons, List.take_zero, List.drop_succ_cons, List.drop_zero]
      repeat still_step
      still_call hcl.out
      repeat still_step
      try refine wpStill_nil ?_
      change wpList _ _ _ _ _ wr.drew
      go_wp2
      go_roundw
      case rel =>
        refine ⟨k + 1, by omega, by simp, ?_, ?_, ?_, ?_⟩
        · rw [← mix_set wor ws vs hvl k hlt]; exact hst.out
        · exact fun j hj1 hj2 => (World.cell?_setCell_other _ _ _ _ (by intro h; injection h with h1 h2 h3; omega)).trans (HFM.out j (by omega) hj2)
        · exact (World.cell?_setCell_other _ _ _ _ (by intro h; injection h with h1 h2 h3; exact hgh' h1.symm)).trans hb1
        · exact (hfr.trans (Fr.drewN _ wr 1)).trans (Fr.setCell _ _ _ (fun _ => rfl))
      case measure => simp [intOf]; omega
    · obtain rfl : k = ws.length := by omega
      go_wp2
      go_ret
      refine ⟨rfl, ?_, hfr⟩
      rw [← mix_all wor ws vs hvl]
      exact hset

set_option maxHeartbeats 800000 in
theorem with_and {W : World} {g h room : Nat} {ws : List Nat} (H : IsSet W g h room ws) {g' h' : Nat} {vs : List Nat} (H' : IsSet W g' h' room vs) :
    Calls Tryd.prog 44 #[.pointer (some ⟨g, 0, none⟩), .pointer (some ⟨g', 0, none⟩), .func (.func 46) #[] #[]] W fun e w' => e = .returned (.int .i64 0) ∧ IsSet w' g h room (List.zipWith wand ws vs) ∧ Fr (fun k => k = h) W w' := by
  obtain ⟨cap, h0, h1, h2, hcap⟩ := H.cells
  obtain ⟨cap', h0', h1', h2', hcap'⟩ := H'.cells
  have hvl : vs.length = ws.length := by rw [H.len.1, H'.len.1]
  have al := Lib.hid (alive_set H)
  have al' := Lib.hid (fun n => alive_set (H'.drewN n))
  have HS := Lib.hid H
  have HS' := Lib.hid H'
  have hsm := H.small.1
  have hgh : g ≠ h := H.lt.2.2
  have hgh' : g' ≠ h := H'.notWords H
  clear H H'
  go_enter Tryd.func44, Tryd.ntmps44
  go_wp2_with (go_at_call 42; refine al.out.mono ?_; rintro e w' ⟨rfl, rfl⟩)
  go_quiet ((go_at_call 42; exact Calls.quiet_of_same ((al'.out _).mono (fun e w' h => ⟨h.1, h.2.symm⟩))))
  go_wp2_with fail
  go_loopw [7, 32] (fun u i wr => ∃ k : Nat, k ≤ ws.length ∧ i = .int .i64 k ∧ IsSet wr g h room (mix wand ws vs k) ∧ From wr h' vs k ∧ wr.cell? ⟨g', 1, none⟩ = some (.slice (some ⟨h', 0, none⟩) vs.length cap') ∧ Fr (fun k => k = h) W wr) (fun u i wr => ws.length - (intOf i).toNat)
  case atStart => exact ⟨0, Nat.zero_le _, rfl, by rw [mix_zero]; exact HS.out.drewN nq, fun j _ hj => (HS'.out.word j hj).1, h1', Fr.drewN _ W nq⟩
  case round =>
    obtain ⟨k, hk, rfl, hset, hfrom, hb1, hfr⟩ := hrel
    by_cases hlt : k < ws.length
    · have hml := mix_length wand ws vs hvl k hk
      obtain ⟨hc, hf⟩ := hset.word k (by omega)
      rw [mix_at wand ws vs hvl k hlt] at hc
      have hcv := hfrom k (Nat.le_refl _) (by omega)
      obtain ⟨capr, c0, c1, c2, hcapr⟩ := hset.cells
      rw [hml] at c1 hcapr
      have hcl := Lib.hid (and_cl wr.drew (wd ws k) (wd vs k) (HS.out.small.2 k) (HS'.out.small.2 k))
      have hst := Lib.hid (hset.store k (by omega) (wand (wd ws k) (wd vs k)) (wand_lt (HS.out.small.2 k) (HS'.out.small.2 k)))
      have HFM := Lib.hid hfrom
      have HSET := Lib.hid hset
      clear hset hfrom
      go_wp2_with fail
      refine wp_region_still_tail 22 (by kernel_rfl) (by kernel_rfl) ?_
      simp only [List.take_succ_cons, List.take_zero, List.drop_succ_cons, List.drop_zero]
      repeat still_step
      still_call hcl.out
      repeat still_step
      try refine wpStill_nil ?_
      change wpList _ _ _ _ _ wr.drew
      go_wp2
      go_roundw
      case rel =>
        refine ⟨k + 1, by omega, by simp, ?_, ?_, ?_, ?_⟩
        · rw [← mix_set wand ws vs hvl k hlt]; exact hst.out
        · exact fun j hj1 hj2 => (World.cell?_setCell_other _ _ _ _ (by intro h; injection h with h1 h2 h3; omega)).trans (HFM.out j (by omega) hj2)
        · exact (World.cell?_setCell_other _ _ _ _ (by intro h; injection h with h1 h2 h3; exact hgh' h1.symm)).trans hb1
        · exact (hfr.trans (Fr.drewN _ wr 1)).trans (Fr.setCell _ _ _ (fun _ => rfl))
      case measure => simp [intOf]; omega
    · obtain rfl : k = ws.length := by omega
      go_wp2
      go_ret
      refine ⟨rfl, ?_, hfr⟩
      rw [← mix_all wand ws vs hvl]
      exact hset

set_option maxHeartbeats 800000 in
theorem with_out {W : World} {g h room : Nat} {ws : List Nat} (H : IsSet W g h room ws) {g' h' : Nat} {vs : List Nat} (H' : IsSet W g' h' room vs) :
    Calls Tryd.prog 44 #[.pointer (some ⟨g, 0, none⟩), .pointer (some ⟨g', 0, none⟩), .func (.func 45) #[] #[]] W fun e w' => e = .returned (.int .i64 0) ∧ IsSet w' g h room (List.zipWith wout ws vs) ∧ Fr (fun k => k = h) W w' := by
  obtain ⟨cap, h0, h1, h2, hcap⟩ := H.cells
  obtain ⟨cap', h0', h1', h2', hcap'⟩ := H'.cells
  have hvl : vs.length = ws.length := by rw [H.len.1, H'.len.1]
  have al := Lib.hid (alive_set H)
  have al' := Lib.hid (fun n => alive_set (H'.drewN n))
  have HS := Lib.hid H
  have HS' := Lib.hid H'
  have hsm := H.small.1
  have hgh : g ≠ h := H.lt.2.2
  have hgh' : g' ≠ h := H'.notWords H
  clear H H'
  go_enter Tryd.func44, Tryd.ntmps44
  go_wp2_with (go_at_call 42; refine al.out.mono ?_; rintro e w' ⟨rfl, rfl⟩)
  go_quiet ((go_at_call 42; exact Calls.quiet_of_same ((al'.out _).mono (fun e w' h => ⟨h.1, h.2.symm⟩))))
  go_wp2_with fail
  go_loopw [7, 32] (fun u i wr => ∃ k : Nat, k ≤ ws.length ∧ i = .int .i64 k ∧ IsSet wr g h room (mix wout ws vs k) ∧ From wr h' vs k ∧ wr.cell? ⟨g', 1, none⟩ = some (.slice (some ⟨h', 0, none⟩) vs.length cap') ∧ Fr (fun k => k = h) W wr) (fun u i wr => ws.length - (intOf i).toNat)
  case atStart => exact ⟨0, Nat.zero_le _, rfl, by rw [mix_zero]; exact HS.out.drewN nq, fun j _ hj => (HS'.out.word j hj).1, h1', Fr.drewN _ W nq⟩
  case round =>
    obtain ⟨k, hk, rfl, hset, hfrom, hb1, hfr⟩ := hrel
    by_cases hlt : k < ws.length
    · have hml := mix_length wout ws vs hvl k hk
      obtain ⟨hc, hf⟩ := hset.word k (by omega)
      rw [mix_at wout ws vs hvl k hlt] at hc
      have hcv := hfrom k (Nat.le_refl _) (by omega)
      obtain ⟨capr, c0, c1, c2, hcapr⟩ := hset.cells
      rw [hml] at c1 hcapr
      have hcl := Lib.hid (out_cl wr.drew (wd ws k) (wd vs k) (HS.out.small.2 k) (HS'.out.small.2 k))
      have hst := Lib.hid (hset.store k (by omega) (wout (wd ws k) (wd vs k)) (wout_lt (HS.out.small.2 k) (HS'.out.small.2 k)))
      have HFM := Lib.hid hfrom
      have HSET := Lib.hid hset
      clear hset hfrom
      go_wp2_with fail
      refine wp_region_still_tail 22 (by kernel_rfl) (by kernel_rfl) ?_
      simp only [List.take_succ_cons, List.take_zero, List.drop_succ_cons, List.drop_zero]
      repeat still_step
      still_call hcl.out
      repeat still_step
      try refine wpStill_nil ?_
      change wpList _ _ _ _ _ wr.drew
      go_wp2
      go_roundw
      case rel =>
        refine ⟨k + 1, by omega, by simp, ?_, ?_, ?_, ?_⟩
        · rw [← mix_set wout ws vs hvl k hlt]; exact hst.out
        · exact fun j hj1 hj2 => (World.cell?_setCell_other _ _ _ _ (by intro h; injection h with h1 h2 h3; omega)).trans (HFM.out j (by omega) hj2)
        · exact (World.cell?_setCell_other _ _ _ _ (by intro h; injection h with h1 h2 h3; exact hgh' h1.symm)).trans hb1
        · exact (hfr.trans (Fr.drewN _ wr 1)).trans (Fr.setCell _ _ _ (fun _ => rfl))
      case measure => simp [intOf]; omega
    · obtain rfl : k = ws.length := by omega
      go_wp2
      go_ret
      refine ⟨rfl, ?_, hfr⟩
      rw [← mix_all wout ws vs hvl]
      exact hset

set_option maxHeartbeats 400000 in
theorem Or_set {W : World} {g h room : Nat} {ws : List Nat} (H : IsSet W g h room ws) {g' h' : Nat} {vs : List Nat} (H' : IsSet W g' h' room vs) :
    Calls Tryd.prog 20 #[.pointer (some ⟨g, 0, none⟩), .pointer (some ⟨g', 0, none⟩)] W fun e w' => e = .returned (.int .i64 0) ∧ IsSet w' g h room (List.zipWith wor ws vs) ∧ Fr (fun k => k = h) W w' := by
  have hw := Lib.hid (with_or H H')
  clear H H'
  go_enter Tryd.func20, Tryd.ntmps20
  go_wp2_with (go_at_call 44; refine hw.out.mono ?_; rintro e w' ⟨rfl, h2, h3⟩)
  go_ret
  exact ⟨rfl, h2, h3⟩

set_option maxHeartbeats 400000 in
theorem And_set {W : World} {g h room : Nat} {ws : List Nat} (H : IsSet W g h room ws) {g' h' : Nat} {vs : List Nat} (H' : IsSet W g' h' room vs) :
    Calls Tryd.prog 19 #[.pointer (some ⟨g, 0, none⟩), .pointer (some ⟨g', 0, none⟩)] W fun e w' => e = .returned (.int .i64 0) ∧ IsSet w' g h room (List.zipWith wand ws vs) ∧ Fr (fun k => k = h) W w' := by
  have hw := Lib.hid (with_and H H')
  clear H H'
  go_enter Tryd.func19, Tryd.ntmps19
  go_wp2_with (go_at_call 44; refine hw.out.mono ?_; rintro e w' ⟨rfl, h2, h3⟩)
  go_ret
  exact ⟨rfl, h2, h3⟩

set_option maxHeartbeats 400000 in
theorem Without_set {W : World} {g h room : Nat} {ws : List Nat} (H : IsSet W g h room ws) {g' h' : Nat} {vs : List Nat} (H' : IsSet W g' h' room vs) :
    Calls Tryd.prog 18 #[.pointer (some ⟨g, 0, none⟩), .pointer (some ⟨g', 0, none⟩)] W fun e w' => e = .returned (.int .i64 0) ∧ IsSet w' g h room (List.zipWith wout ws vs) ∧ Fr (fun k => k = h) W w' := by
  have hw := Lib.hid (with_out H H')
  clear H H'
  go_enter Tryd.func18, Tryd.ntmps18
  go_wp2_with (go_at_call 44; refine hw.out.mono ?_; rintro e w' ⟨rfl, h2, h3⟩)
  go_ret
  exact ⟨rfl, h2, h3⟩
end Go.Proofs.YthfapneifbjlmaaDoor
