/- The reference of layer 7: Same: the walk. -/
import Derived.Test.YtofinglgnkdflaaLQl
namespace Go.Proofs.Ytofinglgnkdflaa
open Go.RowKit
open Go.Proofs.Ytofinglgnkdflaa.PHistoryChecks Go.Proofs.YtofinglgnkdflaaW.PrintWords Go.Proofs.YtofinglgnkdflaaW.PrintLast Go.Proofs.YtofinglgnkdflaaW.PrintMore
set_option linter.unusedVariables false
set_option linter.unusedSimpArgs false
theorem sg_int {x y : Int} (h : x ≠ y) : sg (decide (x < y)) (decide (x > y)) ≠ 0 := by
  unfold sg
  by_cases h1 : x < y
  · rw [decide_eq_true h1]; simp
  · rw [decide_eq_false h1, decide_eq_true (show x > y by omega)]; simp
theorem sg_nat {x y : Nat} (h : x ≠ y) : sg (decide (x < y)) (decide (x > y)) ≠ 0 := by
  unfold sg
  by_cases h1 : x < y
  · rw [decide_eq_true h1]; simp
  · rw [decide_eq_false h1, decide_eq_true (show x > y by omega)]; simp
theorem rord_same (k : Nat) : ∀ a b : S43, nd a ≤ k → (rordV a b = 0 ↔ sameV a b = true) := by
  induction k with
  | zero => intro a; intros; have := nd_pos a; omega
  | succ k ih =>
    intro a b hk
    rw [rordV_eq, sameV_eq]
    unfold rHead
    simp only [Bool.and_eq_true, decide_eq_true_eq, beq_iff_eq]
    by_cases h0 : a.f0 = b.f0
    · rw [if_neg (show ¬ (a.f0 ≠ b.f0) from fun h => h h0)]
      by_cases h1 : a.f1 = b.f1
      · rw [if_neg (show ¬ (a.f1 ≠ b.f1) from fun h => h h1)]
        by_cases h2 : a.f2 = b.f2
        · rw [if_neg (show ¬ (a.f2 ≠ b.f2) from fun h => h h2)]
          by_cases h3 : a.f3 = b.f3
          · rw [if_neg (show ¬ (a.f3 ≠ b.f3) from fun h => h h3)]
            by_cases h4 : a.f4.length = b.f4.length
            · rw [if_neg (show ¬ (a.f4.length ≠ b.f4.length) from fun h => h h4)]
              have hL : rordL a.f4 b.f4 = 0 ↔ sameL a.f4 b.f4 = true := by
                have hle : ndL a.f4 ≤ k := by have := nd_eq a; omega
                generalize a.f4 = l at hle h4
                generalize b.f4 = m at h4
                induction l generalizing m with
                | nil =>
                  cases m with
                  | nil => exact ⟨fun _ => rfl, fun _ => rfl⟩
                  | cons y m => simp at h4
                | cons x l ihl =>
                  cases m with
                  | nil => simp at h4
                  | cons y m =>
                    simp only [ndL] at hle
                    simp only [rordL, sameL, Bool.and_eq_true]
                    have i1 := ih x y (by omega)
                    have i2 := ihl (by omega) m (by simpa using h4)
                    by_cases e : rordV x y = 0
                    · rw [if_neg (fun h => h e)]; exact ⟨fun h => ⟨i1.1 e, i2.1 h⟩, fun h => i2.2 h.2⟩
                    · rw [if_pos e]; exact ⟨fun h => absurd h e, fun h => absurd (i1.2 h.1) e⟩
              exact ⟨fun h => ⟨h0, h1, h2, by rw [h3], hL.1 h⟩, fun h => hL.2 h.2.2.2.2⟩
            · rw [if_pos (show a.f4.length ≠ b.f4.length from h4)]
              exact ⟨fun h => absurd h (sg_nat h4), fun h => by rw [sameL_len _ _ h4] at h; exact absurd h.2.2.2.2 (by decide)⟩
          · rw [if_pos (show a.f3 ≠ b.f3 from h3)]
            refine ⟨fun h => absurd h ?_, fun h => absurd (ba_ext h.2.2.2.1) h3⟩
            show sg (ltS a.f3 b.f3) (!ltS a.f3 b.f3) ≠ 0
            unfold sg; cases ltS a.f3 b.f3 <;> decide
        · rw [if_pos (show a.f2 ≠ b.f2 from h2)]
          exact ⟨fun h => absurd h (sg_int h2), fun h => absurd h.2.2.1 h2⟩
      · rw [if_pos (show a.f1 ≠ b.f1 from h1)]
        exact ⟨fun h => absurd h (sg_int h1), fun h => absurd h.2.1 h1⟩
    · rw [if_pos (show a.f0 ≠ b.f0 from h0)]
      exact ⟨fun h => absurd h (sg_int h0), fun h => absurd h.1 h0⟩
theorem rsame_V (W : World) (a b : S43) (A B : Option Addr) (c d : Nat) (hCa : Kd.C k43 W A a.f4.length a.f4) (hc : a.f4.length ≤ c) (hCb : Kd.C k43 W B b.f4.length b.f4) (hd : b.f4.length ≤ d) :
    Calls Try.prog 50 #[v43 a A c, v43 b B d] W (fun e w' => e = .returned (.bool (sameV a b)) ∧ Below W.heap.size W w') := by
  have h := rsame_any W a b A B c d hCa hc hCb hd
  rw [show (rordV a b == 0) = sameV a b from by rw [Bool.eq_iff_iff, beq_iff_eq]; exact rord_same (nd a) a b (Nat.le_refl _)] at h
  exact h
theorem box50 {w : World} {g : Nat} {x : S50} {A7 A14 : Option Addr} {c7 c14 : Nat} (h : w.heap[g]? = some (.cells (c50 x A7 c7 A14 c14) 50 (0, 0))) :
    w.cell? ⟨g, 0, none⟩ = some (.int .i64 x.f0) ∧ w.cell? ⟨g, 1, none⟩ = some (.int .i64 x.f1) ∧ w.cell? ⟨g, 2, none⟩ = some (.string x.f2) ∧ w.cell? ⟨g, 3, none⟩ = some (.int .i64 x.f3.f0) ∧ w.cell? ⟨g, 4, none⟩ = some (.int .i64 x.f3.f1) ∧ w.cell? ⟨g, 5, none⟩ = some (.int .i64 x.f3.f2) ∧ w.cell? ⟨g, 6, none⟩ = some (.string x.f3.f3) ∧ w.cell? ⟨g, 7, none⟩ = some (.slice A7 x.f3.f4.length c7) ∧ w.cell? ⟨g, 8, none⟩ = some (.int .i64 x.f4) ∧ w.cell? ⟨g, 9, none⟩ = some (.int .i64 x.f5) ∧ w.cell? ⟨g, 10, none⟩ = some (.int .i64 x.f6.f0) ∧ w.cell? ⟨g, 11, none⟩ = some (.int .i64 x.f6.f1) ∧ w.cell? ⟨g, 12, none⟩ = some (.int .i64 x.f6.f2) ∧ w.cell? ⟨g, 13, none⟩ = some (.string x.f6.f3) ∧ w.cell? ⟨g, 14, none⟩ = some (.slice A14 x.f6.f4.length c14) :=
  ⟨(blk_cell h 0).trans rfl, (blk_cell h 1).trans rfl, (blk_cell h 2).trans rfl, (blk_cell h 3).trans rfl, (blk_cell h 4).trans rfl, (blk_cell h 5).trans rfl, (blk_cell h 6).trans rfl, (blk_cell h 7).trans rfl, (blk_cell h 8).trans rfl, (blk_cell h 9).trans rfl, (blk_cell h 10).trans rfl, (blk_cell h 11).trans rfl, (blk_cell h 12).trans rfl, (blk_cell h 13).trans rfl, (blk_cell h 14).trans rfl⟩
set_option maxHeartbeats 8000000 in
set_option maxRecDepth 100000 in
theorem rSame_any (W : World) (P Q : PastL) (R S : Rw3) (hP : RdP W P R) (hQ : RdP W Q S) :
    Calls Try.prog 17 #[.agg (cP P R), .agg (cP Q S)] W (fun e w' => e = .returned (.bool (sameP P Q)) ∧ Below W.heap.size W w') := by
  have H1 := Lib.hid (fun W1 (h : Below W.heap.size W W1) => rnames_any P.pr Q.pr R.a1 S.a1 R.c1 S.c1 W1 (Kd.C_below hP.pr h) hP.prc (Kd.C_below hQ.pr h) hQ.prc)
  have H2 := Lib.hid (fun W1 (h : Below W.heap.size W W1) => rnames_any P.ob Q.ob R.a2 S.a2 R.c2 S.c2 W1 (Kd.C_below hP.ob h) hP.obc (Kd.C_below hQ.ob h) hQ.obc)
  have hlp := Kd.C_max hP.cl
  have hlq := Kd.C_max hQ.cl
  have HCP := Lib.hid hP.cl
  have HCQ := Lib.hid hQ.cl
  have HB := Lib.hid (below_alloc (below_alloc (Below.refl W.heap.size W) (.cells (cP P R) 30)) (.cells (cP Q S) 30))
  have HT := Lib.hid (Two.of W (cP P R) (cP Q S) 30 30)
  obtain ⟨q, hq⟩ : ∃ q, q = sameP P Q := ⟨_, rfl⟩
  obtain ⟨b1, hb1⟩ : ∃ r, r = eqS P.pr Q.pr := ⟨_, rfl⟩
  obtain ⟨b2, hb2⟩ : ∃ r, r = eqS P.ob Q.ob := ⟨_, rfl⟩
  have HD := Lib.hid (show q = (b1 && (b2 && sameCL P.cl Q.cl)) from by rw [hq, hb1, hb2]; rfl)
  rw [← hb1] at H1
  rw [← hb2] at H2
  rw [← hq]
  obtain ⟨l, hl⟩ : ∃ l, l = P.cl := ⟨_, rfl⟩
  obtain ⟨m, hm⟩ : ∃ l, l = Q.cl := ⟨_, rfl⟩
  obtain ⟨a1, n1, a2, n2, a3, n3⟩ := R
  obtain ⟨e1, m1, e2, m2, e3, m3⟩ := S
  unfold cP at HB HT ⊢
  rw [← hl] at HB HT HD hlp HCP ⊢
  rw [← hm] at HB HT HD hlq HCQ ⊢
  clear hb1 hb2 hq hP hQ hl hm
  go_enter Try.func17, Try.ntmps17
  go_wp2_with fail
  refine (H1.out _ HB.out).mono ?_
  rintro e w1 ⟨rfl, hw1⟩
  have HB1 := Lib.hid (HB.out.trans (hw1.mono HB.out.size))
  have HT1 := Lib.hid (HT.out.below hw1)
  clear hw1 HB HT H1
  have p1 := HT1.out.ca 1 _ rfl
  have p2 := HT1.out.ca 2 _ rfl
  have q1 := HT1.out.cb 1 _ rfl
  have q2 := HT1.out.cb 2 _ rfl
  cases b1
  · have HV := Lib.hid (show q = false from HD.out)
    clear HD
    go_wp2
    go_ret
    exact ⟨by rw [HV.out]; rfl, HB1.out⟩
  · go_wp2_with fail
    refine (H2.out _ HB1.out).mono ?_
    rintro e w2 ⟨rfl, hw2⟩
    have HB2 := Lib.hid (HB1.out.trans (hw2.mono HB1.out.size))
    have HT2 := Lib.hid (HT1.out.below hw2)
    clear hw2 HB1 HT1 H2 p1 p2 q1 q2
    have p2 := HT2.out.ca 2 _ rfl
    have q2 := HT2.out.cb 2 _ rfl
    cases b2
    · have HV := Lib.hid (show q = false from HD.out)
      clear HD
      go_wp2
      go_ret
      exact ⟨by rw [HV.out]; rfl, HB2.out⟩
    · by_cases hlm : l.length = m.length
      · have g4 : ((l.length : Int) != (m.length : Int)) = false := by rw [bne_eq_false_iff_eq]; omega
        have HLM := Lib.hid hlm
        have HST := Lib.hid (show q = sameCL (l.drop (0 : Int).toNat) (m.drop (0 : Int).toNat) from HD.out)
        clear HD hlm
        go_wp2
        clear g4 p2 q2
        go_loopw [5, 6, 7] (fun iv av bv wr => ∃ i : Int, iv = .int .i64 i ∧ 0 ≤ i ∧ i ≤ (l.length : Int) ∧ Hid (q = sameCL (l.drop i.toNat) (m.drop i.toNat)) ∧ Hid (Below w2.heap.size w2 wr)) (fun i _ _ _ => l.length - (intOf i).toNat)
        case atStart => exact ⟨0, rfl, by omega, by omega, HST.out, Below.refl _ _⟩
        case round =>
          obtain ⟨i, rfl, hi0, hi1, HI, HW⟩ := hrel
          have HWW := Lib.hid (HB2.out.trans (HW.out.mono HB2.out.size))
          have HT3 := HT2.out.below HW.out
          have p2 := HT3.ca 2 _ rfl
          have q2 := HT3.cb 2 _ rfl
          by_cases hlt : i < (l.length : Int)
          · have hltm : i < (m.length : Int) := by have := HLM.out; omega
            obtain ⟨ad, A7, c7, A14, c14, hAd, x0, x1, x2, x3, x4, x5, x6, x7, x8, x9, x10, x11, x12, x13, x14, xr⟩ := at_T50 (Kd.C_below HCP.out HWW.out) i hi0 hlt
            obtain ⟨bd, B7, d7, B14, d14, hBd, y0, y1, y2, y3, y4, y5, y6, y7, y8, y9, y10, y11, y12, y13, y14, yr⟩ := at_T50 (Kd.C_below HCQ.out HWW.out) i hi0 hltm
            have hstep := sameCL_from l m HLM.out i hi0 hlt
            obtain ⟨x, hx⟩ : ∃ x, x = rd_T50 l i := ⟨_, rfl⟩
            obtain ⟨y, hy⟩ : ∃ x, x = rd_T50 m i := ⟨_, rfl⟩
            rw [← hx] at x0 x1 x2 x3 x4 x5 x6 x7 x8 x9 x10 x11 x12 x13 x14 xr
            rw [← hy] at y0 y1 y2 y3 y4 y5 y6 y7 y8 y9 y10 y11 y12 y13 y14 yr
            rw [← hx, ← hy] at hstep
            subst hAd
            subst hBd
            have XR := Lib.hid (show RdC wr x A7 c7 A14 c14 from ⟨xr.2.1, xr.1, xr.2.2.2, xr.2.2.1⟩)
            have YR := Lib.hid (show RdC wr y B7 d7 B14 d14 from ⟨yr.2.1, yr.1, yr.2.2.2, yr.2.2.1⟩)
            have HTX := Lib.hid (Two.of wr (c50 x A7 c7 A14 c14) (c50 y B7 d7 B14 d14) 50 50)
            have HBX := Lib.hid (below_alloc (below_alloc (Below.refl wr.heap.size wr) (.cells (c50 x A7 c7 A14 c14) 50)) (.cells (c50 y B7 d7 B14 d14) 50))
            have hbb : (bd.add (i.toNat * 15)).block < wr.heap.size := World.block_lt_of_cell? wr _ y0
            have hbw : W.heap.size + 1 < wr.heap.size := blk_lt HT3.b
            have HTR := Lib.hid HT3
            clear hx hy xr yr HT3
            go_upto_region 8 with fail
            obtain ⟨w3, hw3⟩ : ∃ w3, w3 = (wr.alloc (.cells (c50 x A7 c7 A14 c14) 50)).alloc (.cells (c50 y B7 d7 B14 d14) 50) := ⟨_, rfl⟩
            rw [← hw3] at HTX HBX
            unfold c50 at hw3
            rw [← hw3]
            clear hw3 x0 x1 x2 x3 x4 x5 x6 x7 x8 x9 x10 x11 x12 x13 x14 y0 y1 y2 y3 y4 y5 y6 y7 y8 y9 y10 y11 y12 y13 y14 hbb hbw p2 q2
            have HW3 := Lib.hid (HW.out.trans (HBX.out.mono HW.out.size))
            have HWW3 := Lib.hid (HWW.out.trans (HBX.out.mono HWW.out.size))
            have HQ3 := Lib.hid (fun W1 (h : Below wr.heap.size wr W1) => rsame_V W1 x.f3 y.f3 A7 B7 c7 d7 (Kd.C_below XR.out.a h) XR.out.ac (Kd.C_below YR.out.a h) YR.out.ac)
            have HQ6 := Lib.hid (fun W1 (h : Below wr.heap.size wr W1) => rsame_V W1 x.f6 y.f6 A14 B14 c14 d14 (Kd.C_below XR.out.b h) XR.out.bc (Kd.C_below YR.out.b h) YR.out.bc)
            obtain ⟨s3, hs3⟩ : ∃ r, r = sameV x.f3 y.f3 := ⟨_, rfl⟩
            obtain ⟨s6, hs6⟩ : ∃ r, r = sameV x.f6 y.f6 := ⟨_, rfl⟩
            rw [← hs3] at HQ3
            rw [← hs6] at HQ6
            unfold v43 at HQ3 HQ6
            obtain ⟨k0, hk0⟩ : ∃ r, decide (x.f0 = y.f0) = r := ⟨_, rfl⟩
            obtain ⟨k1, hk1⟩ : ∃ r, decide (x.f1 = y.f1) = r := ⟨_, rfl⟩
            obtain ⟨k2, hk2⟩ : ∃ r, (x.f2.toList == y.f2.toList) = r := ⟨_, rfl⟩
            obtain ⟨k4, hk4⟩ : ∃ r, decide (x.f4 = y.f4) = r := ⟨_, rfl⟩
            obtain ⟨k5, hk5⟩ : ∃ r, decide (x.f5 = y.f5) = r := ⟨_, rfl⟩
            have HS := Lib.hid (show q = ((k0 && (k1 && (k2 && (k4 && (k5 && (s3 && s6)))))) && sameCL (l.drop (i + 1).toNat) (m.drop (i + 1).toNat)) from by rw [HI.out, hstep, hs3, hs6, ← hk0, ← hk1, ← hk2, ← hk4, ← hk5]; rfl)
            have n0 : (x.f0 != y.f0) = !k0 := by rw [← hk0]; rfl
            have n1 : (x.f1 != y.f1) = !k1 := by rw [← hk1]; rfl
            have n4 : (x.f4 != y.f4) = !k4 := by rw [← hk4]; rfl
            have n5 : (x.f5 != y.f5) = !k5 := by rw [← hk5]; rfl
            clear hstep hs3 hs6 hk0 hk1 hk4 hk5 HI
            obtain ⟨x0, x1, x2, x3, x4, x5, x6, x7, x8, x9, x10, x11, x12, x13, x14⟩ := box50 HTX.out.a
            obtain ⟨y0, y1, y2, y3, y4, y5, y6, y7, y8, y9, y10, y11, y12, y13, y14⟩ := box50 HTX.out.b
            cases k0 <;> cases k1 <;> cases k2 <;> cases k4 <;> cases k5
            rotate_right
            · simp only [Bool.not_true] at n0 n1 n4 n5
              go_wp2_with fail
              refine (HQ3.out _ HBX.out).mono ?_
              rintro e w4 ⟨rfl, hw4⟩
              have HTX4 := Lib.hid (HTX.out.below hw4)
              have HB4 := Lib.hid (HBX.out.trans (hw4.mono HBX.out.size))
              clear hw4 x0 x1 x2 x3 x4 x5 x6 x7 x8 x9 x10 x11 x12 x13 x14 y0 y1 y2 y3 y4 y5 y6 y7 y8 y9 y10 y11 y12 y13 y14 HTX HBX HW3 HWW3 n0 n1 n4 n5 HQ3
              cases s3
              · have HV := Lib.hid (show q = false from HS.out)
                clear HS
                go_wp2
                go_ret
                exact ⟨by rw [HV.out]; rfl, HWW.out.trans (HB4.out.mono HWW.out.size)⟩
              · obtain ⟨x0, x1, x2, x3, x4, x5, x6, x7, x8, x9, x10, x11, x12, x13, x14⟩ := box50 HTX4.out.a
                obtain ⟨y0, y1, y2, y3, y4, y5, y6, y7, y8, y9, y10, y11, y12, y13, y14⟩ := box50 HTX4.out.b
                go_wp2_with fail
                refine (HQ6.out _ HB4.out).mono ?_
                rintro e w5 ⟨rfl, hw5⟩
                have HB5 := Lib.hid (HB4.out.trans (hw5.mono HB4.out.size))
                clear hw5 x0 x1 x2 x3 x4 x5 x6 x7 x8 x9 x10 x11 x12 x13 x14 y0 y1 y2 y3 y4 y5 y6 y7 y8 y9 y10 y11 y12 y13 y14 HTX4 HB4 HQ6
                cases s6
                · have HV := Lib.hid (show q = false from HS.out)
                  clear HS
                  go_wp2
                  go_ret
                  exact ⟨by rw [HV.out]; rfl, HWW.out.trans (HB5.out.mono HWW.out.size)⟩
                · have HV := Lib.hid (show q = sameCL (l.drop (i + 1).toNat) (m.drop (i + 1).toNat) from HS.out)
                  clear HS
                  go_wp2
                  go_roundw
                  case rel => exact ⟨i + 1, rfl, by omega, by omega, HV.out, HW.out.trans (HB5.out.mono HW.out.size)⟩
                  case measure => simp [intOf]; omega
            all_goals
              have HV := Lib.hid (show q = false from by rw [HS.out]; rfl)
              simp only [Bool.not_true, Bool.not_false] at n0 n1 n4 n5
              clear HS HQ3 HQ6
              go_wp2
              go_ret
              exact ⟨by rw [HV.out]; rfl, HWW3.out⟩
          · have HV := Lib.hid (show q = true from by rw [HI.out]; exact sameCL_end _ _ HLM.out _ hlt)
            have hge : (l.length : Int) ≤ i := by omega
            clear hlt
            go_wp2
            go_ret
            exact ⟨by rw [HV.out]; rfl, HWW.out⟩
      · have g4 : ((l.length : Int) != (m.length : Int)) = true := by rw [bne_iff_ne]; omega
        have HV := Lib.hid (show q = false from by rw [HD.out, sameCL_len l m hlm]; rfl)
        clear HD hlm
        go_wp2
        go_ret
        exact ⟨by rw [HV.out]; rfl, HB2.out⟩
end Go.Proofs.Ytofinglgnkdflaa
