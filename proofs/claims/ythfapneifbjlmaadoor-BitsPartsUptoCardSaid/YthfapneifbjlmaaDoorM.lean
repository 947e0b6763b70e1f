/- Layer 3: Count of a set. -/
import Derived.Test.YthfapneifbjlmaaDoorL
namespace Go.Proofs.YthfapneifbjlmaaDoor
open Go.RowKit Go.Shelf
set_option linter.unusedVariables false
set_option linter.unusedSimpArgs false

theorem mems_len_snoc (ws : List Nat) (k : Nat) (hk : k < ws.length) : (mems 0 (ws.take (k + 1))).length = (mems 0 (ws.take k)).length + (wbits (wd ws k)).length := by
  have e : ws.take (k + 1) = ws.take k ++ [wd ws k] := by rw [List.take_succ_eq_append_getElem hk]; simp [wd, hk]
  rw [e, mems_snoc]; simp
theorem wbits_le (w : Nat) : (wbits w).length ≤ 64 := by
  unfold wbits; exact Nat.le_trans (List.length_filter_le _ _) (by simp)
theorem mems_len_le : ∀ (ws : List Nat) (i : Nat), (mems i ws).length ≤ 64 * ws.length
  | [], i => by simp [mems]
  | w :: ws, i => by
    have := mems_len_le ws (i + 1)
    have := wbits_le w
    simp only [mems, List.length_append, List.length_map, List.length_cons]; omega
theorem IsSet.small {W : World} {g h room : Nat} {ws : List Nat} (H : IsSet W g h room ws) : ws.length ≤ 64 ∧ ∀ j, wd ws j < 18446744073709551616 := by
  obtain ⟨cap, cur, _, _, _, _, _, _, h1, h2, h3⟩ := H
  refine ⟨by omega, fun j => ?_⟩
  unfold wd
  rw [List.getD_eq_getElem?_getD]
  cases hj : ws[j]? with
  | none => simp
  | some x => exact h3 x (List.mem_of_getElem? hj)

set_option maxHeartbeats 400000 in
theorem Count_set {W : World} {g h room : Nat} {ws : List Nat} (H : IsSet W g h room ws) :
    Calls Tryd.prog 21 #[.pointer (some ⟨g, 0, none⟩)] W fun e w' => e = .returned (.int .i64 (mems 0 ws).length) ∧ W = w' := by
  have halive := Lib.hid (alive_set H)
  obtain ⟨cap, h0, h1, h2, hcap⟩ := H.cells
  have HS := Lib.hid H
  obtain ⟨hsm, hwd⟩ := H.small
  clear H
  go_enter Tryd.func21, Tryd.ntmps21
  go_wp2_with (go_at_call 42; refine halive.out.mono ?_; rintro e w' ⟨rfl, rfl⟩)
  go_loopw [3, 5, 13] (fun v u i wr => ∃ k : Nat, k ≤ ws.length ∧ v = .int .i64 (mems 0 (ws.take k)).length ∧ i = .int .i64 k ∧ wr = W) (fun v u i wr => ws.length - (intOf i).toNat)
  case atStart => exact ⟨0, Nat.zero_le _, rfl, rfl, rfl⟩
  case round =>
    obtain ⟨k, hk, rfl, rfl, rfl⟩ := hrel
    by_cases hlt : k < ws.length
    · have hcl := (HS.out.word k hlt).1
      have hones := Lib.hid (Ones_any wr (wd ws k) (hwd k))
      have hl1 := mems_len_le (ws.take k) 0
      have hl2 := wbits_le (wd ws k)
      have hl3 : (ws.take k).length ≤ 64 := by simp; omega
      have hw : wrap64 (((mems 0 (ws.take k)).length : Int) + ((wbits (wd ws k)).length : Int)) = ((mems 0 (ws.take k)).length : Int) + ((wbits (wd ws k)).length : Int) := by unfold wrap64; omega
      go_wp2_with (go_at_call 48; refine hones.out.mono ?_; rintro e w' ⟨rfl, rfl⟩)
      go_roundw
      case rel => exact ⟨k + 1, by omega, by rw [mems_len_snoc ws k hlt]; simp, by simp, by simp⟩
      case measure => simp [intOf]; omega
    · go_wp2
      obtain rfl : k = ws.length := by omega
      go_ret
      simp
end Go.Proofs.YthfapneifbjlmaaDoor
