/- Layer 3: Within, Same of two sets. -/
import Derived.Test.YthfapneifbjlmaaDoorN
namespace Go.Proofs.YthfapneifbjlmaaDoor
open Go.RowKit Go.Shelf
set_option linter.unusedVariables false
set_option linter.unusedSimpArgs false

set_option maxHeartbeats 800000 in
theorem fits_set {W : World} {g h room : Nat} {ws : List Nat} (H : IsSet W g h room ws) {g' h' : Nat} {vs : List Nat} (H' : IsSet W g' h' room vs) :
    Calls Tryd.prog 49 #[.pointer (some ⟨g, 0, none⟩), .pointer (some ⟨g', 0, none⟩)] W fun e w' => e = .returned (.bool true) ∧ ∃ n, W.drewN n = w' := by
  obtain ⟨cap, h0, h1, h2, hcap⟩ := H.cells
  obtain ⟨cap', h0', h1', h2', hcap'⟩ := H'.cells
  have al : ∀ n v, (v = .pointer (some ⟨g, 0, none⟩) ∨ v = .pointer (some ⟨g', 0, none⟩)) → Calls Tryd.prog 42 #[v] (W.drewN n) fun e w' => e = .returned (.bool true) ∧ w' = W.drewN n := by
    rintro n v (rfl | rfl)
    · exact (alive_set (H.drewN n)).mono (fun e w' h => ⟨h.1, h.2.symm⟩)
    · exact (alive_set (H'.drewN n)).mono (fun e w' h => ⟨h.1, h.2.symm⟩)
  have al := Lib.hid al
  clear H H'
  go_enter Tryd.func49, Tryd.ntmps49
  go_wp2
  go_quiet ((go_at_call 42; exact Calls.quiet_of_same (al.out _ _ (by first | exact .inl rfl | exact .inr rfl))))
  go_wp2
  go_ret
  exact ⟨rfl, nq, rfl⟩

set_option maxHeartbeats 800000 in
theorem Within_set {W : World} {g h room : Nat} {ws : List Nat} (H : IsSet W g h room ws) {g' h' : Nat} {vs : List Nat} (H' : IsSet W g' h' room vs) :
    Calls Tryd.prog 23 #[.pointer (some ⟨g, 0, none⟩), .pointer (some ⟨g', 0, none⟩)] W fun e w' => (∃ b, e = .returned (.bool b) ∧ (b = true ↔ ∀ j, j < ws.length → wout (wd ws j) (wd vs j) = 0)) ∧ ∃ n, W.drewN n = w' := by
  obtain ⟨cap, h0, h1, h2, hcap⟩ := H.cells
  obtain ⟨cap', h0', h1', h2', hcap'⟩ := H'.cells
  have hvl : vs.length = ws.length := by rw [H.len.1, H'.len.1]
  have hf := Lib.hid (fits_set H H')
  have HS := Lib.hid H
  have HS' := Lib.hid H'
  have hsm := H.small.1
  clear H H'
  go_enter Tryd.func23, Tryd.ntmps23
  go_wp2_with (go_at_call 49; refine hf.out.mono ?_; rintro e w' ⟨rfl, n, rfl⟩)
  go_loopw [5, 6, 16] (fun v u i wr => ∃ k : Nat, k ≤ ws.length ∧ i = .int .i64 k ∧ wr = W.drewN n ∧ ∀ j, j < k → wout (wd ws j) (wd vs j) = 0) (fun v u i wr => ws.length - (intOf i).toNat)
  case atStart => exact ⟨0, Nat.zero_le _, rfl, rfl, fun j hj => by omega⟩
  case round =>
    obtain ⟨k, hk, rfl, rfl, hall⟩ := hrel
    by_cases hlt : k < ws.length
    · have hc := (HS.out.word k hlt).1
      have hc' := (HS'.out.word k (by omega)).1
      have ha := u64_andNot_nat (wd ws k) (wd vs k) (HS.out.small.2 k) (HS'.out.small.2 k)
      have HALL := Lib.hid hall
      clear hall
      obtain ⟨x, hx⟩ : ∃ x, x = wout (wd ws k) (wd vs k) := ⟨_, rfl⟩
      rw [show (wd ws k &&& (18446744073709551615 - wd vs k)) = x from hx.symm] at ha
      have HX := Lib.hid hx
      clear hx
      by_cases h0x : x = 0
      · subst h0x
        go_wp2
        go_roundw
        case rel =>
          refine ⟨k + 1, by omega, by simp, by simp, fun j hj => ?_⟩
          by_cases hjk : j < k
          · exact HALL.out j hjk
          · obtain rfl : j = k := by omega
            exact HX.out.symm
        case measure => simp [intOf]; omega
      · have hne : ((x : Int) != 0) = true := by rw [bne_iff_ne]; omega
        go_wp2
        go_ret
        refine ⟨⟨false, rfl, by simp; exact ⟨k, hlt, fun h => h0x (HX.out.trans h)⟩⟩, n, rfl⟩
    · obtain rfl : k = ws.length := by omega
      go_wp2
      go_ret
      exact ⟨⟨true, rfl, by simpa using hall⟩, n, rfl⟩
/-- Words in a row. -/
def Row (W : World) (h : Nat) (ws : List Nat) : Prop := ∀ j, j < ws.length → W.cell? ⟨h, j, none⟩ = some (.int .u64 (wd ws j))

set_option maxHeartbeats 800000 in
theorem Equal_rows (W : World) (h h' : Nat) (ws vs : List Nat) (c c' : Nat) (hr : Row W h ws) (hr' : Row W h' vs) (hl : vs.length = ws.length) (hsm : ws.length ≤ 64) :
    Calls Tryd.prog 50 #[.slice (some ⟨h, 0, none⟩) ws.length c, .slice (some ⟨h', 0, none⟩) vs.length c'] W fun e w' => (∃ b, e = .returned (.bool b) ∧ (b = true ↔ ws = vs)) ∧ ∃ n, W.drewN n = w' := by
  have HR := Lib.hid hr
  have HR' := Lib.hid hr'
  have HL := Lib.hid hl
  rw [hl]
  clear hr hr' hl
  go_enter Tryd.func50, Tryd.ntmps50
  go_wp2
  go_loopw [5, 13] (fun v i wr => ∃ k n : Nat, k ≤ ws.length ∧ i = .int .i64 k ∧ wr = W.drewN n ∧ ∀ j, j < k → wd ws j = wd vs j) (fun v i wr => ws.length - (intOf i).toNat)
  case atStart => exact ⟨0, 0, Nat.zero_le _, rfl, rfl, fun j hj => by omega⟩
  case round =>
    obtain ⟨k, n, hk, rfl, rfl, hall⟩ := hrel
    by_cases hlt : k < ws.length
    · have hc := HR.out k hlt
      have hc' := HR'.out k (by rw [HL.out]; exact hlt)
      have HALL := Lib.hid hall
      clear hall
      by_cases he : wd ws k = wd vs k
      · rw [← he] at hc'
        have HE := Lib.hid he
        clear he
        go_wp2_with fail
        go_quiet (fail)
        go_wp2
        go_roundw
        case rel =>
          refine ⟨k + 1, n + nq, by omega, by simp, rfl, fun j hj => ?_⟩
          by_cases hjk : j < k
          · exact HALL.out j hjk
          · obtain rfl : j = k := by omega
            exact HE.out
        case measure => simp [intOf]; omega
      · have hne : (((wd ws k : Nat) : Int) != ((wd vs k : Nat) : Int)) = true := by rw [bne_iff_ne]; omega
        have HE := Lib.hid he
        clear he
        go_wp2_with fail
        go_quiet (fail)
        go_wp2
        go_ret
        exact ⟨⟨false, rfl, by simp; rintro rfl; exact HE.out rfl⟩, n + nq, (World.drewN_drewN _ _ _).symm⟩
    · obtain rfl : k = ws.length := by omega
      go_wp2
      go_ret
      refine ⟨⟨true, rfl, by simp; exact List.ext_getElem HL.out.symm (fun j h1 h2 => by have := hall j h1; simpa [wd, h1, h2] using this)⟩, n, rfl⟩
theorem IsSet.row {W : World} {g h room : Nat} {ws : List Nat} (H : IsSet W g h room ws) : Row W h ws := fun j hj => (H.word j hj).1

set_option maxHeartbeats 800000 in
theorem Same_set {W : World} {g h room : Nat} {ws : List Nat} (H : IsSet W g h room ws) {g' h' : Nat} {vs : List Nat} (H' : IsSet W g' h' room vs) :
    Calls Tryd.prog 22 #[.pointer (some ⟨g, 0, none⟩), .pointer (some ⟨g', 0, none⟩)] W fun e w' => (∃ b, e = .returned (.bool b) ∧ (b = true ↔ ws = vs)) ∧ ∃ n, W.drewN n = w' := by
  obtain ⟨cap, h0, h1, h2, hcap⟩ := H.cells
  obtain ⟨cap', h0', h1', h2', hcap'⟩ := H'.cells
  have hvl : vs.length = ws.length := by rw [H.len.1, H'.len.1]
  have hf := Lib.hid (fun n => fits_set (H.drewN n) (H'.drewN n))
  have hq := Lib.hid (fun n => Equal_rows (W.drewN n) h h' ws vs cap cap' (H.drewN n).row (H'.drewN n).row hvl H.small.1)
  clear H H' hvl
  go_enter Tryd.func22, Tryd.ntmps22
  go_wp2_with fail
  by_cases hb : ws = vs
  · have hq2 : ∀ n, Calls Tryd.prog 50 #[.slice (some ⟨h, 0, none⟩) ws.length cap, .slice (some ⟨h', 0, none⟩) vs.length cap'] (W.drewN n) fun e w' => e = .returned (.bool true) ∧ ∃ m, w' = (W.drewN n).drewN m := fun n => (hq.out n).mono (fun e w' ⟨⟨b, h1, h2⟩, m, h3⟩ => ⟨by rw [h1, h2.2 hb], m, h3.symm⟩)
    have HQ2 := Lib.hid hq2
    have HB := Lib.hid hb
    clear hq2 hb
    go_quiet ((first | (go_at_call 49; exact Calls.quiet_of ((hf.out _).mono (fun e w' h => ⟨h.1, h.2.imp (fun _ h => h.symm)⟩))) | (go_at_call 50; exact Calls.quiet_of (HQ2.out _))))
    go_wp2
    go_ret
    exact ⟨⟨true, rfl, by simp [HB.out]⟩, nq, rfl⟩
  · have hq2 : ∀ n, Calls Tryd.prog 50 #[.slice (some ⟨h, 0, none⟩) ws.length cap, .slice (some ⟨h', 0, none⟩) vs.length cap'] (W.drewN n) fun e w' => e = .returned (.bool false) ∧ ∃ m, w' = (W.drewN n).drewN m := fun n => (hq.out n).mono (fun e w' ⟨⟨b, h1, h2⟩, m, h3⟩ => ⟨by rw [h1]; cases b with | true => exact absurd (h2.1 rfl) hb | false => rfl, m, h3.symm⟩)
    have HQ2 := Lib.hid hq2
    have HB := Lib.hid hb
    clear hq2 hb
    go_quiet ((first | (go_at_call 49; exact Calls.quiet_of ((hf.out _).mono (fun e w' h => ⟨h.1, h.2.imp (fun _ h => h.symm)⟩))) | (go_at_call 50; exact Calls.quiet_of (HQ2.out _))))
    go_wp2
    go_ret
    exact ⟨⟨false, rfl, by simp [HB.out]⟩, nq, rfl⟩
end Go.Proofs.YthfapneifbjlmaaDoor
