/- The reference of layer 2: one rune: the walk. -/
import Derived.Test.YtofinglgnkdflaaLQa
namespace Go.Proofs.Ytofinglgnkdflaa
open Go.RowKit
open Go.Proofs.Ytofinglgnkdflaa.PHistoryChecks Go.Proofs.YtofinglgnkdflaaW.PrintWords Go.Proofs.YtofinglgnkdflaaW.PrintLast Go.Proofs.YtofinglgnkdflaaW.PrintMore
set_option linter.unusedVariables false
set_option linter.unusedSimpArgs false
theorem at_bb (s : ByteArray) (j : Nat) (x : Int) (e : x = (j : Int)) (hj : j < s.size) : ∀ h : x.toNat < s.size, ((s[x.toNat]'h).toNat : Int) = (bb s j : Int) := by
  subst e
  exact fun h => (bt_at s (j : Int) h).trans (bt_bb s j hj)
theorem contV_in (s : ByteArray) (i lo hi : Nat) (x l h : Int) (e : x = (i : Int)) (e1 : l = (lo : Int)) (e2 : h = (hi : Int)) (hlo : 128 ≤ lo) (hhi : hi ≤ 191) : contV s x l h = (contB s i && (decide (lo ≤ bb s i) && decide (bb s i ≤ hi))) := by
  subst e; subst e1; subst e2
  exact contV_bb s i lo hi hlo hhi
theorem contV_all (s : ByteArray) (i : Nat) (x : Int) (e : x = (i : Int)) : contV s x 128 191 = contB s i := by
  rw [contV_in s i 128 191 x 128 191 e rfl rfl (Nat.le_refl _) (Nat.le_refl _)]
  cases h : contB s i with
  | false => exact Bool.false_and _
  | true =>
    have := contB_spec h
    rw [decide_eq_true this.2.1, decide_eq_true this.2.2, Bool.and_self, Bool.and_self]
theorem or_lo2 (k x y : Nat) (X Y : Int) (hX : X = ((2 ^ k * x : Nat) : Int)) (hY : Y = (y : Int)) (hb : y < 2 ^ k) (ha : 2 ^ k * x < 4294967296) (hb2 : y < 4294967296) : Go.bits .or .i64 X Y = ((2 ^ k * x + y : Nat) : Int) := by
  subst hX; subst hY
  exact or_low k x y hb ha hb2
theorem three_val {s : ByteArray} {i c n : Nat} (h : Utf8.decode s i = (c, n)) : ∀ R : Int, R = (c : Int) → OneR s i R n := fun R hR => one_good h hR rfl
set_option maxHeartbeats 8000000 in
set_option maxRecDepth 100000 in
theorem rune_any (W : World) (s : ByteArray) (i : Nat) (a : Int) (ha : a = (i : Int)) (hi : i < s.size) (hs : s.size ≤ 140737488351232) : Calls Try.prog 117 #[.string s, .int .i64 a] W (OneP s i a W) := by
  have hb0 := bb_lt s i
  have p0 := at_bb s i a ha hi
  have ha0 : 0 ≤ a := by omega
  have his : a < (s.size : Int) := by omega
  have HA := Lib.hid ha
  obtain ⟨b, hb⟩ : ∃ b, b = bb s i := ⟨_, rfl⟩
  rw [← hb] at hb0 p0
  by_cases h1 : b < 128
  · have c1 : decide ((b : Int) < 128) = true := decide_eq_true (by omega)
    have hw : wrap64 (b : Int) = (b : Int) := w64i (by omega) (by omega)
    have HONE := Lib.hid (show OneR s i (b : Int) 1 from one_good (dec_low (by omega)) (by rw [hb]) rfl)
    clear hb ha hi
    go_enter Try.func117, Try.ntmps117
    go_wp2
    exact one_fin0 rfl rfl HONE.out
  · have c1 : decide ((b : Int) < 128) = false := decide_eq_false (by omega)
    by_cases h2 : b ≤ 193 ∨ 245 ≤ b
    · have HONE := Lib.hid (show OneR s i (-1) 1 from one_bad (dec_bad (by omega)))
      clear hb ha hi
      by_cases h3 : b ≤ 193
      · have c2 : decide ((b : Int) ≥ 194) = false := decide_eq_false (by omega)
        have c3 : decide ((b : Int) ≥ 224) = false := decide_eq_false (by omega)
        have c4 : decide ((b : Int) ≥ 240) = false := decide_eq_false (by omega)
        go_enter Try.func117, Try.ntmps117
        go_wp2
        exact one_fin0 rfl rfl HONE.out
      · have c2 : decide ((b : Int) ≥ 194) = true := decide_eq_true (by omega)
        have c3 : decide ((b : Int) ≥ 224) = true := decide_eq_true (by omega)
        have c4 : decide ((b : Int) ≥ 240) = true := decide_eq_true (by omega)
        have d2 : decide ((b : Int) ≤ 223) = false := decide_eq_false (by omega)
        have d3 : decide ((b : Int) ≤ 239) = false := decide_eq_false (by omega)
        have d4 : decide ((b : Int) ≤ 244) = false := decide_eq_false (by omega)
        go_enter Try.func117, Try.ntmps117
        go_wp2
        exact one_fin0 rfl rfl HONE.out
    · by_cases h3 : b ≤ 223
      · have c2 : decide ((b : Int) ≥ 194) = true := decide_eq_true (by omega)
        have d2 : decide ((b : Int) ≤ 223) = true := decide_eq_true (by omega)
        have HD := Lib.hid (dec_two (s := s) (i := i) (by omega) (by omega))
        have HX := Lib.hid (heap_alloc_new W (.cells #[.int .i64 0, .int .i64 0, .int .i64 0] 153))
        have HB := Lib.hid (below_alloc (Below.refl W.heap.size W) (.cells #[.int .i64 0, .int .i64 0, .int .i64 0] 153))
        have HC := Lib.hid (contV_all s (i + 1) (a + 1) (by omega))
        have hov : a ≤ 140737488351232 := by omega
        have HBB := Lib.hid hb
        clear hb ha
        go_enter Try.func117, Try.ntmps117
        go_wp2_with fail
        refine (cont_any _ s (a + 1) 128 191 (by omega)).mono ?_
        rintro e w1 ⟨rfl, hw1⟩
        have HX1 := Lib.hid ((hw1.block _ (blk_lt HX.out)).trans HX.out)
        have HB1 := Lib.hid (HB.out.trans (hw1.mono HB.out.size))
        rw [HC.out]
        clear hw1 HX HB HC
        rcases hc : contB s (i + 1)
        · have HONE := Lib.hid (show OneR s i (-1) 1 from one_bad (by rw [HD.out, hc]; rfl))
          have hgW : W.heap.size < w1.heap.size := blk_lt HX1.out
          have f0 := blk_frozen HX1.out 0
          have f1 := blk_frozen HX1.out 1
          have f2 := blk_frozen HX1.out 2
          have r0 : w1.cell? ⟨W.heap.size, 0, none⟩ = some (.int .i64 0) := (blk_cell HX1.out 0).trans rfl
          have r1 : w1.cell? ⟨W.heap.size, 1, none⟩ = some (.int .i64 0) := (blk_cell HX1.out 1).trans rfl
          have r2 : w1.cell? ⟨W.heap.size, 2, none⟩ = some (.int .i64 0) := (blk_cell HX1.out 2).trans rfl
          clear hc
          go_wp2
          exact one_fin HX1.out rfl HB1.out rfl rfl HONE.out
        · have e1 := contB_spec hc
          have p1 := at_bb s (i + 1) (a + 1) (by have := HA.out; omega) e1.1
          have hb1 := bb_lt s (i + 1)
          have g0 := and31 ⟨b, hb0⟩
          have g1 := and63 ⟨bb s (i + 1), hb1⟩
          simp only at g0 g1
          have his1 : a + 1 < (s.size : Int) := by have := HA.out; omega
          have hgW : W.heap.size < w1.heap.size := blk_lt HX1.out
          have f0 := blk_frozen HX1.out 0
          have f1 := blk_frozen HX1.out 1
          have f2 := blk_frozen HX1.out 2
          have r0 : w1.cell? ⟨W.heap.size, 0, none⟩ = some (.int .i64 0) := (blk_cell HX1.out 0).trans rfl
          have r1 : w1.cell? ⟨W.heap.size, 1, none⟩ = some (.int .i64 0) := (blk_cell HX1.out 1).trans rfl
          have r2 : w1.cell? ⟨W.heap.size, 2, none⟩ = some (.int .i64 0) := (blk_cell HX1.out 2).trans rfl
          obtain ⟨x0, hx0⟩ : ∃ x, x = b % 32 := ⟨_, rfl⟩
          obtain ⟨x1, hx1⟩ : ∃ x, x = bb s (i + 1) % 64 := ⟨_, rfl⟩
          have l0 : x0 < 32 := by omega
          have l1 : x1 < 64 := by omega
          obtain ⟨b1, hb1'⟩ : ∃ x, x = bb s (i + 1) := ⟨_, rfl⟩
          have HONE := Lib.hid (show OneR s i (Go.bits .or .i64 ((x0 : Int) * 64) (x1 : Int)) 2 from one_good (by rw [HD.out, hc]; rfl) (by rw [show (x0 : Int) * 64 = ((2 ^ 6 * x0 : Nat) : Int) from by omega, or_low 6 x0 x1 (by omega) (by omega) (by omega), hx0, hx1, HBB.out]; congr 1; omega) rfl)
          rw [← hx0] at g0
          rw [← hb1'] at p1 g1 hb1 hx1
          rw [← hx1] at g1
          clear e1 hx0 hx1 hb1' hc
          go_wp2
          exact one_fin HX1.out rfl HB1.out rfl rfl HONE.out
      · have c2 : decide ((b : Int) ≥ 194) = true := decide_eq_true (by omega)
        have d2 : decide ((b : Int) ≤ 223) = false := decide_eq_false (by omega)
        have HX := Lib.hid (heap_alloc_new W (.cells #[.int .i64 0, .int .i64 0, .int .i64 0] 153))
        have HB := Lib.hid (below_alloc (Below.refl W.heap.size W) (.cells #[.int .i64 0, .int .i64 0, .int .i64 0] 153))
        have hov : a ≤ 140737488351232 := by omega
        have HC2 := Lib.hid (contV_all s (i + 2) (a + 2) (by omega))
        have HC3 := Lib.hid (contV_all s (i + 3) (a + 3) (by omega))
        by_cases h4 : b ≤ 239
        · have c3 : decide ((b : Int) ≥ 224) = true := decide_eq_true (by omega)
          have d3 : decide ((b : Int) ≤ 239) = true := decide_eq_true (by omega)
          obtain ⟨lo, hlo⟩ : ∃ x : Nat, x = if bb s i = 224 then 160 else 128 := ⟨_, rfl⟩
          obtain ⟨hh, hhh⟩ : ∃ x : Nat, x = if bb s i = 237 then 159 else 191 := ⟨_, rfl⟩
          have hlo2 : 128 ≤ lo := by rw [hlo]; split <;> omega
          have hhi2 : hh ≤ 191 := by rw [hhh]; split <;> omega
          have HC := Lib.hid (fun l h e1 e2 => contV_in s (i + 1) lo hh (a + 1) l h (by omega) e1 e2 hlo2 hhi2)
          have HD := Lib.hid (dec_three (s := s) (i := i) (by omega) (by omega) hlo hhh)
          have hcase : (b = 224 ∧ lo = 160 ∧ hh = 191) ∨ (b = 237 ∧ lo = 128 ∧ hh = 159) ∨ (b ≠ 224 ∧ b ≠ 237 ∧ lo = 128 ∧ hh = 191) := by
            rw [hlo, hhh, ← hb]
            by_cases e1 : b = 224
            · rw [if_pos e1, if_neg (by omega)]; exact .inl ⟨e1, rfl, rfl⟩
            · by_cases e2 : b = 237
              · rw [if_neg e1, if_pos e2]; exact .inr (.inl ⟨e2, rfl, rfl⟩)
              · rw [if_neg e1, if_neg e2]; exact .inr (.inr ⟨e1, e2, rfl, rfl⟩)
          have HBB := Lib.hid hb
          clear hb ha hlo hhh hlo2 hhi2
          rcases hcase with ⟨e, rfl, rfl⟩ | ⟨e, rfl, rfl⟩ | ⟨e, e', rfl, rfl⟩
          have q1 : ((b : Int) == 224) = true := by rw [beq_iff_eq]; omega
          have q2 : ((b : Int) == 237) = false := by rw [beq_eq_false_iff_ne]; omega
          have HCE := Lib.hid (HC.out 160 191 rfl rfl)
          clear e HC
          rotate_left
          have q1 : ((b : Int) == 224) = false := by rw [beq_eq_false_iff_ne]; omega
          have q2 : ((b : Int) == 237) = true := by rw [beq_iff_eq]; omega
          have HCE := Lib.hid (HC.out 128 159 rfl rfl)
          clear e HC
          rotate_left
          have q1 : ((b : Int) == 224) = false := by rw [beq_eq_false_iff_ne]; omega
          have q2 : ((b : Int) == 237) = false := by rw [beq_eq_false_iff_ne]; omega
          have HCE := Lib.hid (HC.out 128 191 rfl rfl)
          clear e e' HC
          rotate_left
          all_goals
            go_enter Try.func117, Try.ntmps117
            go_wp2_with fail
            refine (cont_any _ s (a + 1) _ _ (by omega)).mono ?_
            rintro e w1 ⟨rfl, hw1⟩
            have HX1 := Lib.hid ((hw1.block _ (blk_lt HX.out)).trans HX.out)
            have HB1 := Lib.hid (HB.out.trans (hw1.mono HB.out.size))
            rw [HCE.out]
            clear hw1 HX HB HCE
            have hgW : W.heap.size < w1.heap.size := blk_lt HX1.out
            have f0 := blk_frozen HX1.out 0
            have f1 := blk_frozen HX1.out 1
            have f2 := blk_frozen HX1.out 2
            have r0 : w1.cell? ⟨W.heap.size, 0, none⟩ = some (.int .i64 0) := (blk_cell HX1.out 0).trans rfl
            have r1 : w1.cell? ⟨W.heap.size, 1, none⟩ = some (.int .i64 0) := (blk_cell HX1.out 1).trans rfl
            have r2 : w1.cell? ⟨W.heap.size, 2, none⟩ = some (.int .i64 0) := (blk_cell HX1.out 2).trans rfl
            cases hc : (contB s (i + 1) && (decide (_ ≤ bb s (i + 1)) && decide (bb s (i + 1) ≤ _))) with
            | false =>
              have HONE := Lib.hid (show OneR s i (-1) 1 from one_bad (by rw [HD.out, hc]; rfl))
              clear hc
              go_wp2
              exact one_fin HX1.out rfl HB1.out rfl rfl HONE.out
            | true =>
              clear f0 f1 f2 r0 r1 r2 hgW
              go_wp2_with fail
              refine (cont_any _ s (a + 2) 128 191 (by omega)).mono ?_
              rintro e w2 ⟨rfl, hw2⟩
              have HX2 := Lib.hid ((hw2.block _ (blk_lt HX1.out)).trans HX1.out)
              have HB2 := Lib.hid (HB1.out.trans (hw2.mono HB1.out.size))
              rw [HC2.out]
              clear hw2 HX1 HB1 HC2
              have hgW : W.heap.size < w2.heap.size := blk_lt HX2.out
              have f0 := blk_frozen HX2.out 0
              have f1 := blk_frozen HX2.out 1
              have f2 := blk_frozen HX2.out 2
              have r0 : w2.cell? ⟨W.heap.size, 0, none⟩ = some (.int .i64 0) := (blk_cell HX2.out 0).trans rfl
              have r1 : w2.cell? ⟨W.heap.size, 1, none⟩ = some (.int .i64 0) := (blk_cell HX2.out 1).trans rfl
              have r2 : w2.cell? ⟨W.heap.size, 2, none⟩ = some (.int .i64 0) := (blk_cell HX2.out 2).trans rfl
              cases hc2 : contB s (i + 2) with
              | false =>
                have HONE := Lib.hid (show OneR s i (-1) 1 from one_bad (by rw [HD.out, hc, hc2]; first | done | rfl))
                clear hc hc2
                go_wp2
                exact one_fin HX2.out rfl HB2.out rfl rfl HONE.out
              | true =>
                have e1 := contB_spec (by simp only [Bool.and_eq_true] at hc; exact hc.1 : contB s (i + 1) = true)
                have e2 := contB_spec hc2
                have HR3 := Lib.hid (three_val (s := s) (i := i) (c := bb s i % 16 * 4096 + bb s (i + 1) % 64 * 64 + bb s (i + 2) % 64) (n := 3) (by rw [HD.out, hc, hc2]; rfl))
                have p1 := at_bb s (i + 1) (a + 1) (by have := HA.out; omega) e1.1
                have p2 := at_bb s (i + 2) (a + 2) (by have := HA.out; omega) e2.1
                have his1 : a + 1 < (s.size : Int) := by have := HA.out; omega
                have his2 : a + 2 < (s.size : Int) := by have := HA.out; omega
                have hb1 := bb_lt s (i + 1)
                have hb2 := bb_lt s (i + 2)
                rw [← HBB.out] at HR3
                obtain ⟨b1, hb1'⟩ : ∃ x, x = bb s (i + 1) := ⟨_, rfl⟩
                obtain ⟨b2, hb2'⟩ : ∃ x, x = bb s (i + 2) := ⟨_, rfl⟩
                rw [← hb1'] at p1 hb1 HR3
                rw [← hb2'] at p2 hb2 HR3
                have g0 := and15 ⟨b, hb0⟩
                have g1 := and63 ⟨b1, hb1⟩
                have g2 := and63 ⟨b2, hb2⟩
                simp only at g0 g1 g2
                obtain ⟨x0, hx0⟩ : ∃ x, x = b % 16 := ⟨_, rfl⟩
                obtain ⟨x1, hx1⟩ : ∃ x, x = b1 % 64 := ⟨_, rfl⟩
                obtain ⟨x2, hx2⟩ : ∃ x, x = b2 % 64 := ⟨_, rfl⟩
                rw [← hx0] at g0 HR3
                rw [← hx1] at g1 HR3
                rw [← hx2] at g2 HR3
                have l0 : x0 < 16 := by omega
                have l1 : x1 < 64 := by omega
                have l2 : x2 < 64 := by omega
                have o1 := or_lo2 12 x0 (x1 * 64) ((x0 : Int) * 4096) ((x1 : Int) * 64) (by omega) (by omega) (by omega) (by omega) (by omega)
                obtain ⟨x3, hx3⟩ : ∃ x, x = 2 ^ 12 * x0 + x1 * 64 := ⟨_, rfl⟩
                rw [← hx3] at o1
                have l3 : x3 < 65536 := by omega
                have HONE := Lib.hid (show OneR s i (Go.bits .or .i64 (x3 : Int) (x2 : Int)) 3 from HR3.out _ (by rw [or_lo2 6 (64 * x0 + x1) x2 (x3 : Int) (x2 : Int) (by omega) (by omega) (by omega) (by omega) (by omega)]; congr 1; omega))
                clear e1 e2 hx0 hx1 hx2 hx3 hb1' hb2' hc hc2 HR3 HD
                go_upto_region 14 with fail
                go_region
                go_wp2
                exact one_finD HX2.out rfl HB2.out rfl rfl HONE.out
        · have c3 : decide ((b : Int) ≥ 224) = true := decide_eq_true (by omega)
          have d3 : decide ((b : Int) ≤ 239) = false := decide_eq_false (by omega)
          have c4 : decide ((b : Int) ≥ 240) = true := decide_eq_true (by omega)
          have d4 : decide ((b : Int) ≤ 244) = true := decide_eq_true (by omega)
          obtain ⟨lo, hlo⟩ : ∃ x : Nat, x = if bb s i = 240 then 144 else 128 := ⟨_, rfl⟩
          obtain ⟨hh, hhh⟩ : ∃ x : Nat, x = if bb s i = 244 then 143 else 191 := ⟨_, rfl⟩
          have hlo2 : 128 ≤ lo := by rw [hlo]; split <;> omega
          have hhi2 : hh ≤ 191 := by rw [hhh]; split <;> omega
          have HC := Lib.hid (fun l h e1 e2 => contV_in s (i + 1) lo hh (a + 1) l h (by omega) e1 e2 hlo2 hhi2)
          have HD := Lib.hid (dec_four (s := s) (i := i) (by omega) (by omega) hlo hhh)
          have hcase : (b = 240 ∧ lo = 144 ∧ hh = 191) ∨ (b = 244 ∧ lo = 128 ∧ hh = 143) ∨ (b ≠ 240 ∧ b ≠ 244 ∧ lo = 128 ∧ hh = 191) := by
            rw [hlo, hhh, ← hb]
            by_cases e1 : b = 240
            · rw [if_pos e1, if_neg (by omega)]; exact .inl ⟨e1, rfl, rfl⟩
            · by_cases e2 : b = 244
              · rw [if_neg e1, if_pos e2]; exact .inr (.inl ⟨e2, rfl, rfl⟩)
              · rw [if_neg e1, if_neg e2]; exact .inr (.inr ⟨e1, e2, rfl, rfl⟩)
          have HBB := Lib.hid hb
          clear hb ha hlo hhh hlo2 hhi2
          rcases hcase with ⟨e, rfl, rfl⟩ | ⟨e, rfl, rfl⟩ | ⟨e, e', rfl, rfl⟩
          have q1 : ((b : Int) == 240) = true := by rw [beq_iff_eq]; omega
          have q2 : ((b : Int) == 244) = false := by rw [beq_eq_false_iff_ne]; omega
          have HCE := Lib.hid (HC.out 144 191 rfl rfl)
          clear e HC
          rotate_left
          have q1 : ((b : Int) == 240) = false := by rw [beq_eq_false_iff_ne]; omega
          have q2 : ((b : Int) == 244) = true := by rw [beq_iff_eq]; omega
          have HCE := Lib.hid (HC.out 128 143 rfl rfl)
          clear e HC
          rotate_left
          have q1 : ((b : Int) == 240) = false := by rw [beq_eq_false_iff_ne]; omega
          have q2 : ((b : Int) == 244) = false := by rw [beq_eq_false_iff_ne]; omega
          have HCE := Lib.hid (HC.out 128 191 rfl rfl)
          clear e e' HC
          rotate_left
          all_goals
            go_enter Try.func117, Try.ntmps117
            go_wp2_with fail
            refine (cont_any _ s (a + 1) _ _ (by omega)).mono ?_
            rintro e w1 ⟨rfl, hw1⟩
            have HX1 := Lib.hid ((hw1.block _ (blk_lt HX.out)).trans HX.out)
            have HB1 := Lib.hid (HB.out.trans (hw1.mono HB.out.size))
            rw [HCE.out]
            clear hw1 HX HB HCE
            have hgW : W.heap.size < w1.heap.size := blk_lt HX1.out
            have f0 := blk_frozen HX1.out 0
            have f1 := blk_frozen HX1.out 1
            have f2 := blk_frozen HX1.out 2
            have r0 : w1.cell? ⟨W.heap.size, 0, none⟩ = some (.int .i64 0) := (blk_cell HX1.out 0).trans rfl
            have r1 : w1.cell? ⟨W.heap.size, 1, none⟩ = some (.int .i64 0) := (blk_cell HX1.out 1).trans rfl
            have r2 : w1.cell? ⟨W.heap.size, 2, none⟩ = some (.int .i64 0) := (blk_cell HX1.out 2).trans rfl
            cases hc : (contB s (i + 1) && (decide (_ ≤ bb s (i + 1)) && decide (bb s (i + 1) ≤ _))) with
            | false =>
              have HONE := Lib.hid (show OneR s i (-1) 1 from one_bad (by rw [HD.out, hc]; rfl))
              clear hc
              go_wp2
              exact one_fin HX1.out rfl HB1.out rfl rfl HONE.out
            | true =>
              clear f0 f1 f2 r0 r1 r2 hgW
              go_wp2_with fail
              refine (cont_any _ s (a + 2) 128 191 (by omega)).mono ?_
              rintro e w2 ⟨rfl, hw2⟩
              have HX2 := Lib.hid ((hw2.block _ (blk_lt HX1.out)).trans HX1.out)
              have HB2 := Lib.hid (HB1.out.trans (hw2.mono HB1.out.size))
              rw [HC2.out]
              clear hw2 HX1 HB1 HC2
              have hgW : W.heap.size < w2.heap.size := blk_lt HX2.out
              have f0 := blk_frozen HX2.out 0
              have f1 := blk_frozen HX2.out 1
              have f2 := blk_frozen HX2.out 2
              have r0 : w2.cell? ⟨W.heap.size, 0, none⟩ = some (.int .i64 0) := (blk_cell HX2.out 0).trans rfl
              have r1 : w2.cell? ⟨W.heap.size, 1, none⟩ = some (.int .i64 0) := (blk_cell HX2.out 1).trans rfl
              have r2 : w2.cell? ⟨W.heap.size, 2, none⟩ = some (.int .i64 0) := (blk_cell HX2.out 2).trans rfl
              cases hc2 : contB s (i + 2) with
              | false =>
                have HONE := Lib.hid (show OneR s i (-1) 1 from one_bad (by rw [HD.out, hc, hc2]; first | done | rfl))
                clear hc hc2
                go_wp2
                exact one_fin HX2.out rfl HB2.out rfl rfl HONE.out
              | true =>
                clear f0 f1 f2 r0 r1 r2 hgW
                go_wp2_with fail
                refine (cont_any _ s (a + 3) 128 191 (by omega)).mono ?_
                rintro e w3 ⟨rfl, hw3⟩
                have HX3 := Lib.hid ((hw3.block _ (blk_lt HX2.out)).trans HX2.out)
                have HB3 := Lib.hid (HB2.out.trans (hw3.mono HB2.out.size))
                rw [HC3.out]
                clear hw3 HX2 HB2 HC3
                have hgW : W.heap.size < w3.heap.size := blk_lt HX3.out
                have f0 := blk_frozen HX3.out 0
                have f1 := blk_frozen HX3.out 1
                have f2 := blk_frozen HX3.out 2
                have r0 : w3.cell? ⟨W.heap.size, 0, none⟩ = some (.int .i64 0) := (blk_cell HX3.out 0).trans rfl
                have r1 : w3.cell? ⟨W.heap.size, 1, none⟩ = some (.int .i64 0) := (blk_cell HX3.out 1).trans rfl
                have r2 : w3.cell? ⟨W.heap.size, 2, none⟩ = some (.int .i64 0) := (blk_cell HX3.out 2).trans rfl
                cases hc3 : contB s (i + 3) with
                | false =>
                  have HONE := Lib.hid (show OneR s i (-1) 1 from one_bad (by rw [HD.out, hc, hc2, hc3]; first | done | rfl))
                  clear hc hc2 hc3
                  go_wp2
                  exact one_fin HX3.out rfl HB3.out rfl rfl HONE.out
                | true =>
                  have e1 := contB_spec (by simp only [Bool.and_eq_true] at hc; exact hc.1 : contB s (i + 1) = true)
                  have e2 := contB_spec hc2
                  have e3 := contB_spec hc3
                  have HR3 := Lib.hid (three_val (s := s) (i := i) (c := bb s i % 8 * 262144 + bb s (i + 1) % 64 * 4096 + bb s (i + 2) % 64 * 64 + bb s (i + 3) % 64) (n := 4) (by rw [HD.out, hc, hc2, hc3]; rfl))
                  have p1 := at_bb s (i + 1) (a + 1) (by have := HA.out; omega) e1.1
                  have p2 := at_bb s (i + 2) (a + 2) (by have := HA.out; omega) e2.1
                  have p3 := at_bb s (i + 3) (a + 3) (by have := HA.out; omega) e3.1
                  have his1 : a + 1 < (s.size : Int) := by have := HA.out; omega
                  have his2 : a + 2 < (s.size : Int) := by have := HA.out; omega
                  have his3 : a + 3 < (s.size : Int) := by have := HA.out; omega
                  have hb1 := bb_lt s (i + 1)
                  have hb2 := bb_lt s (i + 2)
                  have hb3 := bb_lt s (i + 3)
                  rw [← HBB.out] at HR3
                  obtain ⟨b1, hb1'⟩ : ∃ x, x = bb s (i + 1) := ⟨_, rfl⟩
                  obtain ⟨b2, hb2'⟩ : ∃ x, x = bb s (i + 2) := ⟨_, rfl⟩
                  obtain ⟨b3, hb3'⟩ : ∃ x, x = bb s (i + 3) := ⟨_, rfl⟩
                  rw [← hb1'] at p1 hb1 HR3
                  rw [← hb2'] at p2 hb2 HR3
                  rw [← hb3'] at p3 hb3 HR3
                  have g0 := and7 ⟨b, hb0⟩
                  have g1 := and63 ⟨b1, hb1⟩
                  have g2 := and63 ⟨b2, hb2⟩
                  have g3 := and63 ⟨b3, hb3⟩
                  simp only at g0 g1 g2 g3
                  obtain ⟨x0, hx0⟩ : ∃ x, x = b % 8 := ⟨_, rfl⟩
                  obtain ⟨x1, hx1⟩ : ∃ x, x = b1 % 64 := ⟨_, rfl⟩
                  obtain ⟨x2, hx2⟩ : ∃ x, x = b2 % 64 := ⟨_, rfl⟩
                  obtain ⟨x3, hx3⟩ : ∃ x, x = b3 % 64 := ⟨_, rfl⟩
                  rw [← hx0] at g0 HR3
                  rw [← hx1] at g1 HR3
                  rw [← hx2] at g2 HR3
                  rw [← hx3] at g3 HR3
                  have l0 : x0 < 8 := by omega
                  have l1 : x1 < 64 := by omega
                  have l2 : x2 < 64 := by omega
                  have l3 : x3 < 64 := by omega
                  have o1 := or_lo2 18 x0 (x1 * 4096) ((x0 : Int) * 262144) ((x1 : Int) * 4096) (by omega) (by omega) (by omega) (by omega) (by omega)
                  obtain ⟨x4, hx4⟩ : ∃ x, x = 2 ^ 18 * x0 + x1 * 4096 := ⟨_, rfl⟩
                  rw [← hx4] at o1
                  have l4 : x4 < 2097152 := by omega
                  have o2 := or_lo2 12 (64 * x0 + x1) (x2 * 64) (x4 : Int) ((x2 : Int) * 64) (by omega) (by omega) (by omega) (by omega) (by omega)
                  obtain ⟨x5, hx5⟩ : ∃ x, x = 2 ^ 12 * (64 * x0 + x1) + x2 * 64 := ⟨_, rfl⟩
                  rw [← hx5] at o2
                  have l5 : x5 < 2097152 := by omega
                  have HONE := Lib.hid (show OneR s i (Go.bits .or .i64 (x5 : Int) (x3 : Int)) 4 from HR3.out _ (by rw [or_lo2 6 (4096 * x0 + 64 * x1 + x2) x3 (x5 : Int) (x3 : Int) (by omega) (by omega) (by omega) (by omega) (by omega)]; congr 1; omega))
                  clear e1 e2 e3 hx0 hx1 hx2 hx3 hx4 hx5 hb1' hb2' hb3' hc hc2 hc3 HR3 HD
                  go_upto_region 21 with fail
                  go_region
                  go_wp2
                  exact one_finD HX3.out rfl HB3.out rfl rfl HONE.out
end Go.Proofs.Ytofinglgnkdflaa
