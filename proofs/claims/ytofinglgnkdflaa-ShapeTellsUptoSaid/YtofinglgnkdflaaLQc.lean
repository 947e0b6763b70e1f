/- The reference of layer 2: a text's runes, letters, names. -/
import Derived.Test.YtofinglgnkdflaaLQb
import Derived.Test.YtofinglgnkdflaaLXQ
namespace Go.Proofs.Ytofinglgnkdflaa
open Go.RowKit
open Go.Proofs.Ytofinglgnkdflaa.PHistoryChecks Go.Proofs.YtofinglgnkdflaaW.PrintWords Go.Proofs.YtofinglgnkdflaaW.PrintLast Go.Proofs.YtofinglgnkdflaaW.PrintMore
set_option linter.unusedVariables false
set_option linter.unusedSimpArgs false
def SameRune (x : S153) (r : Int) : Prop := x.f0 = r ∨ (x.f0 = -1 ∧ r = 65533)
def Runes2 : List S153 → List Int → Prop
  | [], [] => True
  | x :: l, r :: m => SameRune x r ∧ Runes2 l m
  | [], _ :: _ => False
  | _ :: _, [] => False
theorem Runes2_snoc : ∀ (L : List S153) (m : List Int) (x : S153) (r : Int), Runes2 L m → SameRune x r → Runes2 (L ++ [x]) (m ++ [r])
  | [], [], x, r, _, h => ⟨h, trivial⟩
  | y :: l, t :: m, x, r, h, h2 => ⟨h.1, Runes2_snoc l m x r h.2 h2⟩
  | [], _ :: _, _, _, h, _ => h.elim
  | _ :: _, [], _, _, h, _ => h.elim
theorem width_le (s : ByteArray) (i : Nat) (hi : i < s.size) : (Utf8.decode s i).2 ≤ 4 ∧ i + (Utf8.decode s i).2 ≤ s.size := by
  have h1 : contB s (i + 1) = true → i + 2 ≤ s.size := fun h => (contB_spec h).1
  have h2 : contB s (i + 2) = true → i + 3 ≤ s.size := fun h => (contB_spec h).1
  have h3 : contB s (i + 3) = true → i + 4 ≤ s.size := fun h => (contB_spec h).1
  rw [decode_bb]; unfold decB
  repeat' split
  all_goals (simp only [Bool.and_eq_true] at *; (try dsimp only); constructor <;> first | omega | (have := h1 (by simp_all); omega) | (have := h2 (by simp_all); omega) | (have := h3 (by simp_all); omega))
def RunP (s : ByteArray) (W : World) (e : Ending) (w' : World) : Prop := ∃ v L, e = .returned v ∧ Kd.R k153 153 w' W.heap.size (fun _ => True) v L ∧ Runes2 L (runesOf s 0) ∧ L.length ≤ s.size ∧ Below W.heap.size W w'
set_option maxHeartbeats 4000000 in
set_option maxRecDepth 100000 in
theorem runes_any (W : World) (s : ByteArray) (hs : s.size ≤ 1000000000) : Calls Try.prog 107 #[.string s] W (RunP s W) := by
  have HO := Lib.hid (fun W1 (j : Nat) hj => rune_any W1 s j (j : Int) rfl hj (by omega))
  unfold OneP at HO
  have HBW := Lib.hid (Below.refl W.heap.size W)
  have HS := Lib.hid hs
  go_enter Try.func107, Try.ntmps107
  go_wp2
  go_loopw [3, 4] (fun sv iv wr => ∃ (j : Nat) (A : Option Addr) (c : Nat) (L : List S153) (m : List Int), iv = .int .i64 (j : Int) ∧ sv = .slice A L.length c ∧ j ≤ s.size ∧ L.length ≤ j ∧ Hid (runesOf s 0 = m ++ runesOf s j ∧ Runes2 L m) ∧ Hid (Kd.R k153 153 wr W.heap.size (fun _ => True) sv L) ∧ Hid (Below W.heap.size W wr)) (fun _ iv _ => s.size - (intOf iv).toNat)
  case atStart => exact ⟨0, none, 0, [], [], rfl, rfl, by omega, by simp, ⟨rfl, trivial⟩, Kd.R_nil _ _ _ _ _, HBW.out⟩
  case round =>
    obtain ⟨j, A, c, L, m, rfl, rfl, hj, hlj, HM, HR, HB⟩ := hrel
    by_cases hlt : j < s.size
    · have c9 : decide ((j : Int) < (s.size : Int)) = true := decide_eq_true (by omega)
      have hns := HS.out
      go_wp2_with fail
      refine (HO.out _ j hlt).mono ?_
      rintro e w1 ⟨R, wd, rfl, ⟨hwd, hR⟩, hw1⟩
      have hwp := width_pos s j hlt
      have hwl := width_le s j hlt
      have hsn := Runes2_snoc L m ⟨R, (j : Int), wd⟩ ((Utf8.decode s j).1 : Int) HM.out.2 (hR.imp id (fun h => ⟨h.1, by rw [h.2]; rfl⟩))
      have hnx := runesOf_next s j hlt
      have HM2 := Lib.hid (show runesOf s 0 = (m ++ [((Utf8.decode s j).1 : Int)]) ++ runesOf s (j + (Utf8.decode s j).2) ∧ Runes2 (L ++ [⟨R, (j : Int), wd⟩]) (m ++ [((Utf8.decode s j).1 : Int)]) from ⟨by rw [HM.out.1, hnx]; simp, hsn⟩)
      obtain ⟨k, hk⟩ : ∃ k, k = (Utf8.decode s j).2 := ⟨_, rfl⟩
      rw [← hk] at hwd hwp hwl HM2
      subst hwd
      have ha := heap_alloc_new w1 (.cells #[.int .i64 R, .int .i64 j, .int .i64 k] 153)
      have hb1 := hw1.mono HB.out.size
      have hb2 := below_alloc (Below.refl w1.heap.size w1) (.cells #[.int .i64 R, .int .i64 j, .int .i64 k] 153)
      have HBa := Lib.hid ((HB.out.trans hb1).trans (hb2.mono (Nat.le_trans HB.out.size hw1.size)))
      have hw1r := Kd.R_below (Kd.R_elderB HR.out w1.heap.size hw1.size) (hw1.trans (hb2.mono hw1.size))
      clear hb1 hb2 hw1 hR hsn hnx hk HM HR HO
      go_upto_region 5 with fail
      obtain ⟨w2, hw2⟩ : ∃ w2, w2 = w1.alloc (.cells #[.int .i64 R, .int .i64 j, .int .i64 k] 153) := ⟨_, rfl⟩
      rw [← hw2] at HBa ha hw1r ⊢
      have d0 : w2.cell? ⟨w1.heap.size, 0, none⟩ = some (.int .i64 R) := (blk_cell ha 0).trans rfl
      have d1 : w2.cell? ⟨w1.heap.size, 1, none⟩ = some (.int .i64 j) := (blk_cell ha 1).trans rfl
      have d2 : w2.cell? ⟨w1.heap.size, 2, none⟩ = some (.int .i64 k) := (blk_cell ha 2).trans rfl
      have HRR := Lib.hid hw1r
      have HA := Lib.hid ha
      clear hw2 ha HB hw1r
      go_wp2_with (at_builtin; (refine Kd.R_append (w0 := W) k153 W.heap.size rfl _ _ 149 153 _ 24 rfl Try.underlying149 info153 rfl (by decide) (by decide) (.slice A L.length c) L (⟨R, (j : Int), (k : Int)⟩ : S153) [.int .i64 R, .int .i64 j, .int .i64 k] (fun k => True ∧ k ≠ w1.heap.size) (fun _ => False) rfl rfl (k153_mkM _ _ _ (⟨R, (j : Int), (k : Int)⟩ : S153)) (fun _ h => h.elim) (fun k hk => ⟨trivial, Kd.freshB HA.out k hk⟩) HRR.out HBa.out HBa.out.size (by omega) ?_; intro v1 w8 hR8 hb8 hg8 hat8; have HG8 := Lib.hid hg8; have HR8 := Lib.hid hR8; have HB8 := Lib.hid hb8; clear hR8 hb8 hg8 hat8; have HA8 := Lib.hid (blk_grown (g := w1.heap.size) (o := .cells #[.int .i64 R, .int .i64 j, .int .i64 k] 153 (0, 0)) HA.out HG8.out (Kd.R_away HRR.out (fun _ hk => hk.2))); have d8 : w8.cell? ⟨w1.heap.size, 2, none⟩ = some (.int .i64 k) := (blk_cell HA8.out 2).trans rfl))
      go_roundw
      case rel =>
        obtain ⟨A8, c8, hv⟩ := Kd.R_slice HR8.out
        subst hv
        refine ⟨j + k, A8, c8, _, _, by simp, rfl, by omega, by simp; omega, HM2.out, Kd.R_mono HR8.out (fun _ _ => trivial), HB8.out⟩
      case measure => simp [intOf]; omega
    · have c9 : decide ((j : Int) < (s.size : Int)) = false := decide_eq_false (by omega)
      have HM2 := Lib.hid (show Runes2 L (runesOf s 0) from by rw [HM.out.1, runesOf_end s j hlt, List.append_nil]; exact HM.out.2)
      clear HO HM
      go_wp2
      go_ret
      exact ⟨_, L, rfl, HR.out, HM2.out, by omega, HB.out⟩
theorem isLetter_eq (r : Int) : isLetter r = (decide (97 ≤ r ∧ r ≤ 122) || decide (65 ≤ r ∧ r ≤ 90) || decide (r = 95) || decide (192 ≤ r ∧ r ≤ 214) || decide (216 ≤ r ∧ r ≤ 246) || decide (248 ≤ r ∧ r ≤ 591) || decide (913 ≤ r ∧ r ≤ 929) || decide (931 ≤ r ∧ r ≤ 969)) := by
  rw [Bool.eq_iff_iff]
  unfold isLetter letterRows
  simp only [List.any_cons, List.any_nil, Bool.or_false, Bool.or_eq_true, Bool.and_eq_true, decide_eq_true_eq]
  omega
set_option maxHeartbeats 4000000 in
set_option maxRecDepth 100000 in
theorem letter_any2 (W : World) (r : Int) : Calls Try.prog 108 #[.int .i64 r] W (fun e w' => e = .returned (.bool (isLetter r)) ∧ Below W.heap.size W w') := by
  have HB := Lib.hid (Below.refl W.heap.size W)
  have HL := Lib.hid (isLetter_eq r)
  by_cases h0 : r < 65
  · have HV := Lib.hid (show isLetter r = false from by rw [HL.out]; simp only [Bool.or_eq_false_iff, decide_eq_false_iff_not]; omega)
    rw [HV.out]
    have g97 : decide (r ≥ 97) = false := decide_eq_false (by omega)
    have g65 : decide (r ≥ 65) = false := decide_eq_false (by omega)
    have e95 : (r == 95) = false := by rw [beq_eq_false_iff_ne]; omega
    have g192 : decide (r ≥ 192) = false := decide_eq_false (by omega)
    have g913 : decide (r ≥ 913) = false := decide_eq_false (by omega)
    clear h0 HL
    go_enter Try.func108, Try.ntmps108
    go_wp2
    go_ret
    exact ⟨rfl, HB.out⟩
  by_cases h0 : r ≤ 90
  · have HV := Lib.hid (show isLetter r = true from by rw [HL.out]; simp only [Bool.or_eq_true, decide_eq_true_eq]; omega)
    rw [HV.out]
    have g97 : decide (r ≥ 97) = false := decide_eq_false (by omega)
    have g65 : decide (r ≥ 65) = true := decide_eq_true (by omega)
    have l90 : decide (r ≤ 90) = true := decide_eq_true (by omega)
    clear h0 HL
    go_enter Try.func108, Try.ntmps108
    go_wp2
    go_ret
    exact ⟨rfl, HB.out⟩
  by_cases h0 : r < 95
  · have HV := Lib.hid (show isLetter r = false from by rw [HL.out]; simp only [Bool.or_eq_false_iff, decide_eq_false_iff_not]; omega)
    rw [HV.out]
    have g97 : decide (r ≥ 97) = false := decide_eq_false (by omega)
    have g65 : decide (r ≥ 65) = true := decide_eq_true (by omega)
    have l90 : decide (r ≤ 90) = false := decide_eq_false (by omega)
    have e95 : (r == 95) = false := by rw [beq_eq_false_iff_ne]; omega
    have g192 : decide (r ≥ 192) = false := decide_eq_false (by omega)
    have g913 : decide (r ≥ 913) = false := decide_eq_false (by omega)
    clear h0 HL
    go_enter Try.func108, Try.ntmps108
    go_wp2
    go_ret
    exact ⟨rfl, HB.out⟩
  by_cases h0 : r = 95
  · have HV := Lib.hid (show isLetter r = true from by rw [HL.out]; simp only [Bool.or_eq_true, decide_eq_true_eq]; omega)
    rw [HV.out]
    have g97 : decide (r ≥ 97) = false := decide_eq_false (by omega)
    have g65 : decide (r ≥ 65) = true := decide_eq_true (by omega)
    have l90 : decide (r ≤ 90) = false := decide_eq_false (by omega)
    have e95 : (r == 95) = true := by rw [beq_iff_eq]; omega
    clear h0 HL
    go_enter Try.func108, Try.ntmps108
    go_wp2
    go_ret
    exact ⟨rfl, HB.out⟩
  by_cases h0 : r = 96
  · have HV := Lib.hid (show isLetter r = false from by rw [HL.out]; simp only [Bool.or_eq_false_iff, decide_eq_false_iff_not]; omega)
    rw [HV.out]
    have g97 : decide (r ≥ 97) = false := decide_eq_false (by omega)
    have g65 : decide (r ≥ 65) = true := decide_eq_true (by omega)
    have l90 : decide (r ≤ 90) = false := decide_eq_false (by omega)
    have e95 : (r == 95) = false := by rw [beq_eq_false_iff_ne]; omega
    have g192 : decide (r ≥ 192) = false := decide_eq_false (by omega)
    have g913 : decide (r ≥ 913) = false := decide_eq_false (by omega)
    clear h0 HL
    go_enter Try.func108, Try.ntmps108
    go_wp2
    go_ret
    exact ⟨rfl, HB.out⟩
  by_cases h0 : r ≤ 122
  · have HV := Lib.hid (show isLetter r = true from by rw [HL.out]; simp only [Bool.or_eq_true, decide_eq_true_eq]; omega)
    rw [HV.out]
    have g97 : decide (r ≥ 97) = true := decide_eq_true (by omega)
    have l122 : decide (r ≤ 122) = true := decide_eq_true (by omega)
    clear h0 HL
    go_enter Try.func108, Try.ntmps108
    go_wp2
    go_ret
    exact ⟨rfl, HB.out⟩
  by_cases h0 : r < 192
  · have HV := Lib.hid (show isLetter r = false from by rw [HL.out]; simp only [Bool.or_eq_false_iff, decide_eq_false_iff_not]; omega)
    rw [HV.out]
    have g97 : decide (r ≥ 97) = true := decide_eq_true (by omega)
    have l122 : decide (r ≤ 122) = false := decide_eq_false (by omega)
    have g65 : decide (r ≥ 65) = true := decide_eq_true (by omega)
    have l90 : decide (r ≤ 90) = false := decide_eq_false (by omega)
    have e95 : (r == 95) = false := by rw [beq_eq_false_iff_ne]; omega
    have g192 : decide (r ≥ 192) = false := decide_eq_false (by omega)
    have g913 : decide (r ≥ 913) = false := decide_eq_false (by omega)
    clear h0 HL
    go_enter Try.func108, Try.ntmps108
    go_wp2
    go_ret
    exact ⟨rfl, HB.out⟩
  by_cases h0 : r = 215
  · have HV := Lib.hid (show isLetter r = false from by rw [HL.out]; simp only [Bool.or_eq_false_iff, decide_eq_false_iff_not]; omega)
    rw [HV.out]
    have g97 : decide (r ≥ 97) = true := decide_eq_true (by omega)
    have l122 : decide (r ≤ 122) = false := decide_eq_false (by omega)
    have g65 : decide (r ≥ 65) = true := decide_eq_true (by omega)
    have l90 : decide (r ≤ 90) = false := decide_eq_false (by omega)
    have e95 : (r == 95) = false := by rw [beq_eq_false_iff_ne]; omega
    have g192 : decide (r ≥ 192) = true := decide_eq_true (by omega)
    have l591 : decide (r ≤ 591) = true := decide_eq_true (by omega)
    have n215 : (r != 215) = false := by rw [bne_eq_false_iff_eq]; omega
    clear h0 HL
    go_enter Try.func108, Try.ntmps108
    go_wp2
    go_ret
    exact ⟨rfl, HB.out⟩
  by_cases h0 : r = 247
  · have HV := Lib.hid (show isLetter r = false from by rw [HL.out]; simp only [Bool.or_eq_false_iff, decide_eq_false_iff_not]; omega)
    rw [HV.out]
    have g97 : decide (r ≥ 97) = true := decide_eq_true (by omega)
    have l122 : decide (r ≤ 122) = false := decide_eq_false (by omega)
    have g65 : decide (r ≥ 65) = true := decide_eq_true (by omega)
    have l90 : decide (r ≤ 90) = false := decide_eq_false (by omega)
    have e95 : (r == 95) = false := by rw [beq_eq_false_iff_ne]; omega
    have g192 : decide (r ≥ 192) = true := decide_eq_true (by omega)
    have l591 : decide (r ≤ 591) = true := decide_eq_true (by omega)
    have n215 : (r != 215) = true := by rw [bne_iff_ne]; omega
    have n247 : (r != 247) = false := by rw [bne_eq_false_iff_eq]; omega
    clear h0 HL
    go_enter Try.func108, Try.ntmps108
    go_wp2
    go_ret
    exact ⟨rfl, HB.out⟩
  by_cases h0 : r ≤ 591
  · have HV := Lib.hid (show isLetter r = true from by rw [HL.out]; simp only [Bool.or_eq_true, decide_eq_true_eq]; omega)
    rw [HV.out]
    have g97 : decide (r ≥ 97) = true := decide_eq_true (by omega)
    have l122 : decide (r ≤ 122) = false := decide_eq_false (by omega)
    have g65 : decide (r ≥ 65) = true := decide_eq_true (by omega)
    have l90 : decide (r ≤ 90) = false := decide_eq_false (by omega)
    have e95 : (r == 95) = false := by rw [beq_eq_false_iff_ne]; omega
    have g192 : decide (r ≥ 192) = true := decide_eq_true (by omega)
    have l591 : decide (r ≤ 591) = true := decide_eq_true (by omega)
    have n215 : (r != 215) = true := by rw [bne_iff_ne]; omega
    have n247 : (r != 247) = true := by rw [bne_iff_ne]; omega
    clear h0 HL
    go_enter Try.func108, Try.ntmps108
    go_wp2
    go_ret
    exact ⟨rfl, HB.out⟩
  by_cases h0 : r < 913
  · have HV := Lib.hid (show isLetter r = false from by rw [HL.out]; simp only [Bool.or_eq_false_iff, decide_eq_false_iff_not]; omega)
    rw [HV.out]
    have g97 : decide (r ≥ 97) = true := decide_eq_true (by omega)
    have l122 : decide (r ≤ 122) = false := decide_eq_false (by omega)
    have g65 : decide (r ≥ 65) = true := decide_eq_true (by omega)
    have l90 : decide (r ≤ 90) = false := decide_eq_false (by omega)
    have e95 : (r == 95) = false := by rw [beq_eq_false_iff_ne]; omega
    have g192 : decide (r ≥ 192) = true := decide_eq_true (by omega)
    have l591 : decide (r ≤ 591) = false := decide_eq_false (by omega)
    have g913 : decide (r ≥ 913) = false := decide_eq_false (by omega)
    clear h0 HL
    go_enter Try.func108, Try.ntmps108
    go_wp2
    go_ret
    exact ⟨rfl, HB.out⟩
  by_cases h0 : r = 930
  · have HV := Lib.hid (show isLetter r = false from by rw [HL.out]; simp only [Bool.or_eq_false_iff, decide_eq_false_iff_not]; omega)
    rw [HV.out]
    have g97 : decide (r ≥ 97) = true := decide_eq_true (by omega)
    have l122 : decide (r ≤ 122) = false := decide_eq_false (by omega)
    have g65 : decide (r ≥ 65) = true := decide_eq_true (by omega)
    have l90 : decide (r ≤ 90) = false := decide_eq_false (by omega)
    have e95 : (r == 95) = false := by rw [beq_eq_false_iff_ne]; omega
    have g192 : decide (r ≥ 192) = true := decide_eq_true (by omega)
    have l591 : decide (r ≤ 591) = false := decide_eq_false (by omega)
    have g913 : decide (r ≥ 913) = true := decide_eq_true (by omega)
    have l969 : decide (r ≤ 969) = true := decide_eq_true (by omega)
    have n930 : (r != 930) = false := by rw [bne_eq_false_iff_eq]; omega
    clear h0 HL
    go_enter Try.func108, Try.ntmps108
    go_wp2
    go_ret
    exact ⟨rfl, HB.out⟩
  by_cases h0 : r ≤ 969
  · have HV := Lib.hid (show isLetter r = true from by rw [HL.out]; simp only [Bool.or_eq_true, decide_eq_true_eq]; omega)
    rw [HV.out]
    have g97 : decide (r ≥ 97) = true := decide_eq_true (by omega)
    have l122 : decide (r ≤ 122) = false := decide_eq_false (by omega)
    have g65 : decide (r ≥ 65) = true := decide_eq_true (by omega)
    have l90 : decide (r ≤ 90) = false := decide_eq_false (by omega)
    have e95 : (r == 95) = false := by rw [beq_eq_false_iff_ne]; omega
    have g192 : decide (r ≥ 192) = true := decide_eq_true (by omega)
    have l591 : decide (r ≤ 591) = false := decide_eq_false (by omega)
    have g913 : decide (r ≥ 913) = true := decide_eq_true (by omega)
    have l969 : decide (r ≤ 969) = true := decide_eq_true (by omega)
    have n930 : (r != 930) = true := by rw [bne_iff_ne]; omega
    clear h0 HL
    go_enter Try.func108, Try.ntmps108
    go_wp2
    go_ret
    exact ⟨rfl, HB.out⟩
  have HV := Lib.hid (show isLetter r = false from by rw [HL.out]; simp only [Bool.or_eq_false_iff, decide_eq_false_iff_not]; omega)
  rw [HV.out]
  have g97 : decide (r ≥ 97) = true := decide_eq_true (by omega)
  have l122 : decide (r ≤ 122) = false := decide_eq_false (by omega)
  have g65 : decide (r ≥ 65) = true := decide_eq_true (by omega)
  have l90 : decide (r ≤ 90) = false := decide_eq_false (by omega)
  have e95 : (r == 95) = false := by rw [beq_eq_false_iff_ne]; omega
  have g192 : decide (r ≥ 192) = true := decide_eq_true (by omega)
  have l591 : decide (r ≤ 591) = false := decide_eq_false (by omega)
  have g913 : decide (r ≥ 913) = true := decide_eq_true (by omega)
  have l969 : decide (r ≤ 969) = false := decide_eq_false (by omega)
  clear HL
  go_enter Try.func108, Try.ntmps108
  go_wp2
  go_ret
  exact ⟨rfl, HB.out⟩
theorem rest_any (W : World) (r : Int) : Calls Try.prog 109 #[.int .i64 r] W (fun e w' => e = .returned (.bool (runeOk 1 r)) ∧ Below W.heap.size W w') := by
  have HL := Lib.hid (fun W1 => letter_any2 W1 r)
  have HE := Lib.hid (show runeOk 1 r = (isLetter r || (decide (r = 39) || (decide (48 ≤ r) && decide (r ≤ 57)))) from rfl)
  obtain ⟨b, hb⟩ : ∃ b, b = isLetter r := ⟨_, rfl⟩
  rw [← hb] at HL HE
  clear hb
  by_cases h1 : r < 48 ∨ 57 < r
  · by_cases h2 : r = 39
    · have c1 : decide (r ≥ 48) = false := decide_eq_false (by omega)
      have c3 : (r == 39) = true := by rw [beq_iff_eq]; exact h2
      have HV := Lib.hid (show runeOk 1 r = true from by rw [HE.out, decide_eq_true h2]; cases b <;> rfl)
      rw [HV.out]
      clear h1 h2 HE
      go_enter Try.func109, Try.ntmps109
      go_wp2_with fail
      refine (HL.out _).mono ?_
      rintro e w1 ⟨rfl, hw1⟩
      have HB1 := Lib.hid hw1
      clear hw1 HL
      cases b <;> (go_wp2; go_ret; exact ⟨rfl, HB1.out⟩)
    · have c3 : (r == 39) = false := by rw [beq_eq_false_iff_ne]; exact h2
      have HV := Lib.hid (show runeOk 1 r = b from by
        rw [HE.out, decide_eq_false h2, show (decide (48 ≤ r) && decide (r ≤ 57)) = false from by rw [Bool.and_eq_false_iff, decide_eq_false_iff_not, decide_eq_false_iff_not]; omega]; cases b <;> rfl)
      rw [HV.out]
      by_cases h3 : 48 ≤ r
      · have c1 : decide (r ≥ 48) = true := decide_eq_true h3
        have c2 : decide (r ≤ 57) = false := decide_eq_false (by omega)
        clear h1 h2 h3 HE
        go_enter Try.func109, Try.ntmps109
        go_wp2_with fail
        refine (HL.out _).mono ?_
        rintro e w1 ⟨rfl, hw1⟩
        have HB1 := Lib.hid hw1
        clear hw1 HL
        cases b <;> (go_wp2; go_ret; exact ⟨rfl, HB1.out⟩)
      · have c1 : decide (r ≥ 48) = false := decide_eq_false h3
        clear h1 h2 h3 HE
        go_enter Try.func109, Try.ntmps109
        go_wp2_with fail
        refine (HL.out _).mono ?_
        rintro e w1 ⟨rfl, hw1⟩
        have HB1 := Lib.hid hw1
        clear hw1 HL
        cases b <;> (go_wp2; go_ret; exact ⟨rfl, HB1.out⟩)
  · have c1 : decide (r ≥ 48) = true := decide_eq_true (by omega)
    have c2 : decide (r ≤ 57) = true := decide_eq_true (by omega)
    have HV := Lib.hid (show runeOk 1 r = true from by rw [HE.out, decide_eq_true (show 48 ≤ r by omega), c2]; cases b <;> simp)
    rw [HV.out]
    clear h1 HE
    go_enter Try.func109, Try.ntmps109
    go_wp2_with fail
    refine (HL.out _).mono ?_
    rintro e w1 ⟨rfl, hw1⟩
    have HB1 := Lib.hid hw1
    clear hw1 HL
    cases b <;> (go_wp2; go_ret; exact ⟨rfl, HB1.out⟩)
theorem letter_same {x : S153} {r : Int} (h : SameRune x r) : isLetter x.f0 = isLetter r := by
  rcases h with h | ⟨h, h'⟩
  · rw [h]
  · rw [h, h']; decide
theorem ok_same {x : S153} {r : Int} (h : SameRune x r) (n : Nat) (hn : n ≠ 0) : runeOk 1 x.f0 = runeOk n r := by
  unfold runeOk
  rw [letter_same h, decide_eq_true hn, show decide ((1 : Nat) ≠ 0) = true from rfl]
  rcases h with h | ⟨h, h'⟩
  · rw [h]
  · rw [h, h']; rfl
theorem scan_same : ∀ (L : List S153) (m : List Int), Runes2 L m → ∀ n : Nat, n ≠ 0 → scanB n m = (L.all (fun x => runeOk 1 x.f0) && decide (n + L.length ≤ 32))
  | [], [], _, n, hn => by
    simp only [scanB, List.all_nil, List.length_nil, Nat.add_zero, decide_eq_true hn, Bool.true_and]
  | x :: l, r :: m, h, n, hn => by
    simp only [scanB, List.all_cons, List.length_cons]
    rw [scan_same l m h.2 (n + 1) (by omega), ok_same h.1 n hn, Bool.and_assoc, show n + 1 + l.length = n + (l.length + 1) by omega]
  | [], _ :: _, h, _, _ => h.elim
  | _ :: _, [], h, _, _ => h.elim
theorem name_runes {s : ByteArray} {L : List S153} (h : Runes2 L (runesOf s 0)) : nameB s = (decide (1 ≤ L.length) && (decide (L.length ≤ 32) && (isLetter (rd_T153 L 0).f0 && (L.drop 1).all (fun x => runeOk 1 x.f0)))) := by
  unfold nameB
  generalize runesOf s 0 = m at h
  match L, m, h with
  | [], [], _ => rfl
  | x :: l, r :: m, h =>
    simp only [scanB, List.length_cons, List.drop_succ_cons, List.drop_zero]
    rw [scan_same l m h.2 (0 + 1) (by omega)]
    have e : runeOk 0 r = isLetter x.f0 := by
      rw [letter_same h.1]; unfold runeOk
      rw [show decide ((0 : Nat) ≠ 0) = false from rfl, Bool.false_and, Bool.or_false]
    rw [e, show rd_T153 (x :: l) 0 = x from rfl, decide_eq_true (show 1 ≤ l.length + 1 by omega), Bool.true_and]
    rw [show decide (0 + 1 + l.length ≤ 32) = decide (l.length + 1 ≤ 32) from by rw [Bool.eq_iff_iff, decide_eq_true_eq, decide_eq_true_eq]; omega]
    cases isLetter x.f0 <;> cases decide (l.length + 1 ≤ 32) <;> simp
end Go.Proofs.Ytofinglgnkdflaa
