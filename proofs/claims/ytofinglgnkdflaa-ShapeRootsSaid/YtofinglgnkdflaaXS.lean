/- ShapeRoots: the law returns true for every row of counts; its argument reads as before. -/
import Derived.Test.YtofinglgnkdflaaXL
import Derived.Test.YtofinglgnkdflaaXQ
import Derived.Test.YtofinglgnkdflaaXR
import Derived.Test.YtofinglgnkdflaaRows
import Derived.Test.YtofinglgnkdflaaXT
import Derived.WalkKit
import Derived.ProofKit
import Derived.OpenShut
import Derived.ShutString
import Derived.ChangeOld
import Derived.Below
import Derived.SizedLaws
section
namespace Go.Proofs.Ytofinglgnkdflaa
open Go.RowKit
open Go.Proofs.Ytofinglgnkdflaa.PHistoryChecks Go.Proofs.YtofinglgnkdflaaW.PrintWords Go.Proofs.YtofinglgnkdflaaW.PrintLast Go.Proofs.YtofinglgnkdflaaW.PrintMore
set_option linter.unusedVariables false
set_option linter.unusedSimpArgs false

theorem rd_sumL (c : List Int) (i : Nat) (h : i < 4) : rd_T43 (sumL c 4) (i : Int) = sumV c i := by
  rcases (by omega : i = 0 ∨ i = 1 ∨ i = 2 ∨ i = 3) with rfl | rfl | rfl | rfl <;> rfl
theorem w64s {n : Int} (h : -9223372036854775808 ≤ n ∧ n ≤ 9223372036854775807) : wrap64 n = n := by unfold wrap64; omega
theorem v43_gauss (a b : Int) (A : Option Addr) (c : Nat) : Calls Try.prog 53 #[.agg #[.int .i64 3, .int .i64 a, .int .i64 b, .string ⟨#[]⟩, .slice A 0 c]] = Calls Try.prog 53 #[gV a b A c] := rfl
set_option maxHeartbeats 8000000 in
set_option maxRecDepth 100000 in
theorem roots_law (W : World) (c : List Int) (A : Option Addr) (k : Nat) (hC : (Kd.int .i64).C W A c.length c) (hk : c.length ≤ k) :
    Calls Try.prog 11 #[.slice A c.length k] W (fun e w' => e = .returned (.bool true) ∧ Below W.heap.size W w') := by
  have HSU := Lib.hid (Sums_any W c A k hC hk)
  unfold SumsP at HSU
  have HC := Lib.hid hC
  clear hC hk
  go_enter Try.func11, Try.ntmps11
  go_wp2_with fail
  refine HSU.out.mono ?_
  rintro e w1 ⟨hw1, ⟨hno, rfl⟩ | ⟨hok, v1, rfl, hv1⟩⟩
  · have HB1 := Lib.hid hw1
    clear hw1 hno HSU
    go_wp2_with fail
    refine (num_any _ _).mono ?_
    rintro e w2 ⟨rfl, hw2⟩
    have HB2 := Lib.hid (HB1.out.trans (hw2.mono HB1.out.size))
    clear hw2 HB1
    go_wp2_with fail
    refine (num_any _ _).mono ?_
    rintro e w3 ⟨rfl, hw3⟩
    have HB3 := Lib.hid (HB2.out.trans (hw3.mono HB2.out.size))
    clear hw3 HB2
    go_wp2_with fail
    refine (alive_any _).mono ?_
    rintro e w4 ⟨rfl, hw4⟩
    have HB4 := Lib.hid (HB3.out.trans (hw4.mono HB3.out.size))
    clear hw4 HB3
    go_wp2
    go_ret
    exact ⟨rfl, HB4.out⟩
  · obtain ⟨A1, k1, rfl, hlk1, hC1⟩ := Kd.R_reads hv1
    have HB1 := Lib.hid hw1
    have HOK := Lib.hid hok
    have hl4 : (sumL c 4).length = 4 := by simp [sumL]
    have HCC := Lib.hid (Kd.C_below HC.out hw1)
    have HCL := Lib.hid hC1
    have hc4 : c.length = 4 := hok.1
    have hl4' : ((sumL c 4).length : Int) = 4 := by omega
    have hc4' : (c.length : Int) = 4 := by omega
    rw [hl4] at HCL ⊢
    rw [hc4] at HCC ⊢
    clear hw1 hok hv1 hlk1 hC1 HSU HC hl4 hl4'
    go_wp2_with fail
    refine (num_any _ _).mono ?_
    rintro e w2 ⟨rfl, hw2⟩
    have HB2 := Lib.hid (HB1.out.trans (hw2.mono HB1.out.size))
    have HCC2 := Lib.hid (Kd.C_below HCC.out hw2)
    have HCL2 := Lib.hid (Kd.C_below HCL.out hw2)
    clear hw2 HB1 HCC HCL hc4 hc4'
    go_wp2
    go_loopw [5, 6, 7, 8] (fun sv qv mv iv wr => ∃ (i : Nat) (s q m : Int), sv = .int .i64 s ∧ qv = .int .i64 q ∧ mv = .int .i64 m ∧ iv = .int .i64 i ∧ i ≤ 4 ∧ Hid (rt c i = (s, q, m)) ∧ Hid (Below w2.heap.size w2 wr)) (fun _ _ _ i _ => 4 - (intOf i).toNat)
    case atStart => exact ⟨0, 0, 0, 0, rfl, rfl, rfl, rfl, by omega, rfl, Below.refl _ _⟩
    case round =>
      obtain ⟨i, s, q, m, rfl, rfl, rfl, rfl, hi, HR, HB⟩ := hrel
      by_cases hlt : i < 4
      · obtain ⟨ac, rfl, x0⟩ := Kd.at_int (Kd.C_below HCC2.out HB.out) i (by omega) (by omega)
        obtain ⟨ad, A4, c4, rfl, y0, y1, y2, y3, y4, hl4c, hC4⟩ := at_T43 (Kd.C_below HCL2.out HB.out) i (by omega) (by omega)
        have hN0 : rt c (i + 1) = ((rt c i).1 + rd c i, (rt c i).2.1 + rd c i * rd c i, ((rt c i).2.2 + (sumJ c i 4).1 * (sumJ c i 4).1) + (sumJ c i 4).2 * (sumJ c i 4).2) := rfl
        have hb0 := rt_bd HOK.out i hi
        have hb1 := rt_bd HOK.out (i + 1) hlt
        simp only [rt] at hb1
        have hx0 := HOK.out.2 i (by omega) (by omega)
        have h3 := sumJ_small HOK.out i 4 (Nat.le_refl _)
        have h4 := sq_bd (x := rd c i) (K := 262144) (by omega)
        have h5 := sq_bd (x := (sumJ c i 4).1) (K := 1048576) (by omega)
        have h6 := sq_bd (x := (sumJ c i 4).2) (K := 1048576) (by omega)
        rw [show ((262144 * 262144 : Nat) : Int) = 68719476736 from rfl] at h4
        rw [show ((1048576 * 1048576 : Nat) : Int) = 1099511627776 from rfl] at h5 h6
        have hp1 := (sum_part HOK.out i).1
        have hp2 := (sum_part HOK.out i).2
        rw [rd_sumL c i hlt] at y0 y1 y2 y3 y4 hl4c hC4
        unfold sumV gaussV at y0 y1 y2 y3 y4
        simp only [Int.toNat_natCast] at x0 y0 y1 y2 y3 y4
        rw [HR.out] at hN0 hb0 hb1
        simp only at hN0 hb0 hb1
        obtain ⟨x, hx⟩ : ∃ x, x = rd c i := ⟨_, rfl⟩
        obtain ⟨ga, hga⟩ : ∃ x, x = (sumJ c i 4).1 := ⟨_, rfl⟩
        obtain ⟨gb, hgb⟩ : ∃ x, x = (sumJ c i 4).2 := ⟨_, rfl⟩
        rw [← hx] at x0 hN0 hb1 hx0 h4
        rw [← hga] at y1 hN0 hb1 h3 h5 hp1
        rw [← hgb] at y2 hN0 hb1 h3 h6 hp2
        have e1 : wrap64 (s + x) = s + x := w64s (by omega)
        have e2 : wrap64 (x * x) = x * x := w64s (by omega)
        have e3 : wrap64 (q + x * x) = q + x * x := w64s (by omega)
        have e4 : wrap64 (ga * ga) = ga * ga := w64s (by omega)
        have e5 : wrap64 (m + ga * ga) = m + ga * ga := w64s (by omega)
        have e6 : wrap64 (gb * gb) = gb * gb := w64s (by omega)
        have e7 : wrap64 (m + ga * ga + gb * gb) = m + ga * ga + gb * gb := w64s (by omega)
        have E1 := Lib.hid e1
        have E3 := Lib.hid (show wrap64 (q + wrap64 (x * x)) = q + x * x from by rw [e2, e3])
        have E7 := Lib.hid (show wrap64 (wrap64 (m + wrap64 (ga * ga)) + wrap64 (gb * gb)) = m + ga * ga + gb * gb from by rw [e4, e5, e6, e7])
        have HRG := Lib.hid (fun W1 => right_g W1 ga gb A4 c4 hp1 hp2)
        unfold gV at HRG
        have HN := Lib.hid hN0
        clear hN0 hb0 hb1 hx0 h3 h4 h5 h6 hp1 hp2 hx hga hgb e1 e2 e3 e4 e5 e6 e7 hl4c hC4
        rw [show ([] : List S43).length = 0 from rfl] at y4
        try rw [decide_eq_true (show (i : Int) < 4 by omega)]
        go_wp2
        go_quiet (fail)
        go_wp2
        go_quiet (fail)
        go_wp2_with fail
        refine (HRG.out _).mono ?_
        rintro e w5 ⟨rfl, hw5⟩
        have hb5 : Below wr.heap.size wr w5 := (pw_below_drewN (Below.refl wr.heap.size wr) _).trans (hw5.mono (pw_below_drewN (Below.refl wr.heap.size wr) _).size)
        have z0 := pw_cell_below hb5 y0
        have HB5 := Lib.hid (HB.out.trans (hb5.mono HB.out.size))
        clear hw5 hb5 x0 y0 y1 y2 y3 y4 HRG
        go_wp2
        go_roundw
        case rel => exact ⟨i + 1, _, _, _, rfl, rfl, rfl, by simp, hlt, (show rt c (i + 1) = _ from by rw [HN.out, E1.out, E3.out, E7.out]), HB5.out⟩
        case measure => simp [intOf]; omega
      · have hi4 : i = 4 := by omega
        subst hi4
        obtain ⟨ad, A4, c4, rfl, _, y1, y2, _, _, _, _⟩ := at_T43 (Kd.C_below HCL2.out HB.out) (0 : Nat) (by omega) (by omega)
        obtain ⟨ad1, A41, c41, hd1, _, y11, y12, _, _, _, _⟩ := at_T43 (Kd.C_below HCL2.out HB.out) (1 : Nat) (by omega) (by omega)
        cases hd1
        obtain ⟨ad1, A42, c42, hd1, _, _, y22, _, _, _, _⟩ := at_T43 (Kd.C_below HCL2.out HB.out) (2 : Nat) (by omega) (by omega)
        cases hd1
        obtain ⟨ad1, A43, c43, hd1, _, y31, y32, _, _, _, _⟩ := at_T43 (Kd.C_below HCL2.out HB.out) (3 : Nat) (by omega) (by omega)
        cases hd1
        rw [rd_sumL c _ (by omega)] at y1 y2 y11 y12 y22 y31 y32
        have hok := HOK.out
        obtain ⟨ca, cb, cd, ce, rfl⟩ := list4' hok.1
        have hr := HR.out
        rw [rt_all] at hr
        have hb0 := rt_bd hok 4 (by omega)
        rw [rt_all] at hb0
        have n0 := hok.2 0 (by decide) (by decide)
        have n1 := hok.2 1 (by decide) (by decide)
        have n2 := hok.2 2 (by decide) (by decide)
        have n3 := hok.2 3 (by decide) (by decide)
        change 0 ≤ ca ∧ ca ≤ 262144 at n0
        change 0 ≤ cb ∧ cb ≤ 262144 at n1
        change 0 ≤ cd ∧ cd ≤ 262144 at n2
        change 0 ≤ ce ∧ ce ≤ 262144 at n3
        unfold sumV gaussV at y1 y2 y11 y12 y22 y31 y32
        rw [sumJ0] at y1 y2
        rw [sumJ1] at y11 y12
        rw [sumJ2] at y22
        rw [sumJ3] at y31 y32
        simp only [Int.toNat_natCast, Nat.zero_mul, Nat.one_mul, show 2 * 5 = 10 from rfl, show 3 * 5 = 15 from rfl, Addr.add_zero'] at y1 y2 y11 y12 y22 y31 y32
        obtain ⟨Q, hQ⟩ : ∃ Q, Q = ca * ca + cb * cb + cd * cd + ce * ce := ⟨_, rfl⟩
        obtain ⟨A0, hA0⟩ : ∃ x, x = ca + cb + cd + ce := ⟨_, rfl⟩
        obtain ⟨A1, hA1⟩ : ∃ x, x = ca - cd := ⟨_, rfl⟩
        obtain ⟨B1, hB1⟩ : ∃ x, x = cb - ce := ⟨_, rfl⟩
        obtain ⟨B3, hB3⟩ : ∃ x, x = ce - cb := ⟨_, rfl⟩
        rw [← hQ, ← hA0] at hr hb0
        rw [← hA0] at y1
        rw [← hA1] at y11 y31
        rw [← hB1] at y12
        rw [← hB3] at y32
        simp only [Prod.mk.injEq] at hr
        obtain ⟨rfl, rfl, rfl⟩ := hr
        have w1' : wrap64 (-B1) = B3 := by rw [w64s (by omega)]; omega
        have w3' : IntKind.i64.wrap (-B1) = B3 := by rw [IntWalk.i64_in _ (by omega)]; omega
        have w2' : wrap64 (4 * Q) = 4 * Q := w64s (by simp only at hb0; omega)
        have w4' : IntKind.i64.wrap (4 * Q) = 4 * Q := by rw [IntWalk.i64_in _ (by simp only at hb0; omega)]
        have HBB := Lib.hid (HB2.out.trans (HB.out.mono HB2.out.size))
        clear hb0 n0 n1 n2 n3 hQ hA0 hA1 hB1 hB3 hok HR HOK HCC2 HCL2 HB2 HB hlt hi
        rw [show ((4 : Nat) : Int) = 4 from rfl]
        go_wp2
        refine wp_region_held_drew (S := (fun w => w.cell? ⟨ad.block, ad.off + 1, none⟩ = some (.int .i64 A0) ∧ w.cell? ⟨ad.block, ad.off + 2, none⟩ = some (.int .i64 0) ∧ w.cell? ⟨ad.block, ad.off + 10 + 2, none⟩ = some (.int .i64 0) ∧ w.cell? ⟨ad.block, ad.off + 15 + 1, none⟩ = some (.int .i64 A1) ∧ w.cell? ⟨ad.block, ad.off + 5 + 1, none⟩ = some (.int .i64 A1) ∧ w.cell? ⟨ad.block, ad.off + 15 + 2, none⟩ = some (.int .i64 B3) ∧ w.cell? ⟨ad.block, ad.off + 5 + 2, none⟩ = some (.int .i64 B1))) (by kernel_rfl) ?_ (fun hHeld => ?_)
        · exact ⟨y1, y2, y22, y31, y11, y32, y12⟩
        refine runH 0 (v := ?v0) rfl (by kernel_rfl) (fun _ _ _ h => h) (by assumption) (by rfl) ?y0 ?r0
        case y0 => (intro w hSw; (try dsimp only at hSw); go_simp; try with_reducible rfl)
        try simp only [Act.put, List.setIfInBounds_toArray, List.set_cons_zero, List.set_cons_succ]
        refine runH 1 (v := ?v1) rfl (by kernel_rfl) (fun _ _ _ h => h) (by assumption) (by rfl) ?y1 ?r1
        case y1 => (intro w hSw; (try dsimp only at hSw); go_simp; try with_reducible rfl)
        try simp only [Act.put, List.setIfInBounds_toArray, List.set_cons_zero, List.set_cons_succ]
        refine runH 2 (v := ?v2) rfl (by kernel_rfl) (fun _ _ _ h => h) (by assumption) (by rfl) ?y2 ?r2
        case y2 => (intro w hSw; (try dsimp only at hSw); go_simp; try with_reducible rfl)
        try simp only [Act.put, List.setIfInBounds_toArray, List.set_cons_zero, List.set_cons_succ]
        refine runH 3 (v := ?v3) rfl (by kernel_rfl) (fun _ _ _ h => h) (by assumption) (by rfl) ?y3 ?r3
        case y3 => (intro w hSw; (try dsimp only at hSw); go_simp; try with_reducible rfl)
        try simp only [Act.put, List.setIfInBounds_toArray, List.set_cons_zero, List.set_cons_succ]
        refine runH 4 (v := ?v4) rfl (by kernel_rfl) (fun _ _ _ h => h) (by assumption) (by rfl) ?y4 ?r4
        case y4 => (intro w hSw; (try dsimp only at hSw); go_simp; try with_reducible rfl)
        try simp only [Act.put, List.setIfInBounds_toArray, List.set_cons_zero, List.set_cons_succ]
        refine runH 5 (v := ?v5) rfl (by kernel_rfl) (fun _ _ _ h => h) (by assumption) (by rfl) ?y5 ?r5
        case y5 => (intro w hSw; (try dsimp only at hSw); go_simp; try with_reducible rfl)
        try simp only [Act.put, List.setIfInBounds_toArray, List.set_cons_zero, List.set_cons_succ]
        refine runH 6 (v := ?v6) rfl (by kernel_rfl) (fun _ _ _ h => h) (by assumption) (by rfl) ?y6 ?r6
        case y6 => (intro w hSw; (try dsimp only at hSw); go_simp; try with_reducible rfl)
        try simp only [Act.put, List.setIfInBounds_toArray, List.set_cons_zero, List.set_cons_succ]
        refine runH 7 (v := ?v7) rfl (by kernel_rfl) (fun _ _ _ h => h) (by assumption) (by rfl) ?y7 ?r7
        case y7 => (intro w hSw; (try dsimp only at hSw); go_simp; try with_reducible rfl)
        try simp only [Act.put, List.setIfInBounds_toArray, List.set_cons_zero, List.set_cons_succ]
        refine runH 8 (v := ?v8) rfl (by kernel_rfl) (fun _ _ _ h => h) (by assumption) (by rfl) ?y8 ?r8
        case y8 => (intro w hSw; (try dsimp only at hSw); go_simp; try with_reducible rfl)
        try simp only [Act.put, List.setIfInBounds_toArray, List.set_cons_zero, List.set_cons_succ]
        refine runH 9 (v := ?v9) rfl (by kernel_rfl) (fun _ _ _ h => h) (by assumption) (by rfl) ?y9 ?r9
        case y9 => (intro w hSw; (try dsimp only at hSw); go_simp; try with_reducible rfl)
        try simp only [Act.put, List.setIfInBounds_toArray, List.set_cons_zero, List.set_cons_succ]
        refine runH 10 (v := ?v10) rfl (by kernel_rfl) (fun _ _ _ h => h) (by assumption) (by rfl) ?y10 ?r10
        case y10 => (intro w hSw; (try dsimp only at hSw); go_simp; try with_reducible rfl)
        try simp only [Act.put, List.setIfInBounds_toArray, List.set_cons_zero, List.set_cons_succ]
        refine runH 11 (v := ?v11) rfl (by kernel_rfl) (fun _ _ _ h => h) (by assumption) (by rfl) ?y11 ?r11
        case y11 => (intro w hSw; (try dsimp only at hSw); go_simp; try with_reducible rfl)
        try simp only [Act.put, List.setIfInBounds_toArray, List.set_cons_zero, List.set_cons_succ]
        refine runH 12 (v := ?v12) rfl (by kernel_rfl) (fun _ _ _ h => h) (by assumption) (by rfl) ?y12 ?r12
        case y12 => (intro w hSw; (try dsimp only at hSw); go_simp; try with_reducible rfl)
        try simp only [Act.put, List.setIfInBounds_toArray, List.set_cons_zero, List.set_cons_succ]
        refine runH 13 (v := ?v13) rfl (by kernel_rfl) (fun _ _ _ h => h) (by assumption) (by rfl) ?y13 ?r13
        case y13 => (intro w hSw; (try dsimp only at hSw); go_simp; try with_reducible rfl)
        try simp only [Act.put, List.setIfInBounds_toArray, List.set_cons_zero, List.set_cons_succ]
        refine runH 14 (v := ?v14) rfl (by kernel_rfl) (fun _ _ _ h => h) (by assumption) (by rfl) ?y14 ?r14
        case y14 => (intro w hSw; (try dsimp only at hSw); go_simp; try with_reducible rfl)
        try simp only [Act.put, List.setIfInBounds_toArray, List.set_cons_zero, List.set_cons_succ]
        refine runH 15 (v := ?v15) rfl (by kernel_rfl) (fun _ _ _ h => h) (by assumption) (by rfl) ?y15 ?r15
        case y15 => (intro w hSw; (try dsimp only at hSw); go_simp; try with_reducible rfl)
        try simp only [Act.put, List.setIfInBounds_toArray, List.set_cons_zero, List.set_cons_succ]
        refine runH 16 (v := ?v16) rfl (by kernel_rfl) (fun _ _ _ h => h) (by assumption) (by rfl) ?y16 ?r16
        case y16 => (intro w hSw; (try dsimp only at hSw); go_simp; try with_reducible rfl)
        try simp only [Act.put, List.setIfInBounds_toArray, List.set_cons_zero, List.set_cons_succ]
        refine runH 17 (v := ?v17) rfl (by kernel_rfl) (fun _ _ _ h => h) (by assumption) (by rfl) ?y17 ?r17
        case y17 => (intro w hSw; (try dsimp only at hSw); go_simp; try with_reducible rfl)
        try simp only [Act.put, List.setIfInBounds_toArray, List.set_cons_zero, List.set_cons_succ]
        refine runH 18 (v := ?v18) rfl (by kernel_rfl) (fun _ _ _ h => h) (by assumption) (by rfl) ?y18 ?r18
        case y18 => (intro w hSw; (try dsimp only at hSw); go_simp; try with_reducible rfl)
        try simp only [Act.put, List.setIfInBounds_toArray, List.set_cons_zero, List.set_cons_succ]
        refine runH 19 (v := ?v19) rfl (by kernel_rfl) (fun _ _ _ h => h) (by assumption) (by rfl) ?y19 ?r19
        case y19 => (intro w hSw; (try dsimp only at hSw); go_simp; try with_reducible rfl)
        try simp only [Act.put, List.setIfInBounds_toArray, List.set_cons_zero, List.set_cons_succ]
        refine runH 20 (v := ?v20) rfl (by kernel_rfl) (fun _ _ _ h => h) (by assumption) (by rfl) ?y20 ?r20
        case y20 => (intro w hSw; (try dsimp only at hSw); go_simp; try with_reducible rfl)
        try simp only [Act.put, List.setIfInBounds_toArray, List.set_cons_zero, List.set_cons_succ]
        refine runH 21 (v := ?v21) rfl (by kernel_rfl) (fun _ _ _ h => h) (by assumption) (by rfl) ?y21 ?r21
        case y21 => (intro w hSw; (try dsimp only at hSw); go_simp; try with_reducible rfl)
        try simp only [Act.put, List.setIfInBounds_toArray, List.set_cons_zero, List.set_cons_succ]
        refine runH 22 (v := ?v22) rfl (by kernel_rfl) (fun _ _ _ h => h) (by assumption) (by rfl) ?y22 ?r22
        case y22 => (intro w hSw; (try dsimp only at hSw); go_simp; try with_reducible rfl)
        try simp only [Act.put, List.setIfInBounds_toArray, List.set_cons_zero, List.set_cons_succ]
        refine runH 23 (v := ?v23) rfl (by kernel_rfl) (fun _ _ _ h => h) (by assumption) (by rfl) ?y23 ?r23
        case y23 => (intro w hSw; (try dsimp only at hSw); go_simp; try with_reducible rfl)
        try simp only [Act.put, List.setIfInBounds_toArray, List.set_cons_zero, List.set_cons_succ]
        refine runH 24 (v := ?v24) rfl (by kernel_rfl) (fun _ _ _ h => h) (by assumption) (by rfl) ?y24 ?r24
        case y24 => (intro w hSw; (try dsimp only at hSw); go_simp; try with_reducible rfl)
        try simp only [Act.put, List.setIfInBounds_toArray, List.set_cons_zero, List.set_cons_succ]
        refine runH 25 (v := ?v25) rfl (by kernel_rfl) (fun _ _ _ h => h) (by assumption) (by rfl) ?y25 ?r25
        case y25 => (intro w hSw; (try dsimp only at hSw); go_simp; try with_reducible rfl)
        try simp only [Act.put, List.setIfInBounds_toArray, List.set_cons_zero, List.set_cons_succ]
        refine runH 26 (v := ?v26) rfl (by kernel_rfl) (fun _ _ _ h => h) (by assumption) (by rfl) ?y26 ?r26
        case y26 => (intro w hSw; (try dsimp only at hSw); go_simp; try with_reducible rfl)
        try simp only [Act.put, List.setIfInBounds_toArray, List.set_cons_zero, List.set_cons_succ]
        refine runH 27 (v := ?v27) rfl (by kernel_rfl) (fun _ _ _ h => h) (by assumption) (by rfl) ?y27 ?r27
        case y27 => (intro w hSw; (try dsimp only at hSw); go_simp; try with_reducible rfl)
        try simp only [Act.put, List.setIfInBounds_toArray, List.set_cons_zero, List.set_cons_succ]
        refine runH 28 (v := ?v28) rfl (by kernel_rfl) (fun _ _ _ h => h) (by assumption) (by rfl) ?y28 ?r28
        case y28 => (intro w hSw; (try dsimp only at hSw); go_simp; try with_reducible rfl)
        try simp only [Act.put, List.setIfInBounds_toArray, List.set_cons_zero, List.set_cons_succ]
        refine runH 29 (v := ?v29) rfl (by kernel_rfl) (fun _ _ _ h => h) (by assumption) (by rfl) ?y29 ?r29
        case y29 => (intro w hSw; (try dsimp only at hSw); go_simp; try with_reducible rfl)
        try simp only [Act.put, List.setIfInBounds_toArray, List.set_cons_zero, List.set_cons_succ]
        refine runH 30 (v := ?v30) rfl (by kernel_rfl) (fun _ _ _ h => h) (by assumption) (by rfl) ?y30 ?r30
        case y30 => (intro w hSw; (try dsimp only at hSw); go_simp; try with_reducible rfl)
        try simp only [Act.put, List.setIfInBounds_toArray, List.set_cons_zero, List.set_cons_succ]
        refine runH 31 (v := ?v31) rfl (by kernel_rfl) (fun _ _ _ h => h) (by assumption) (by rfl) ?y31 ?r31
        case y31 => (intro w hSw; (try dsimp only at hSw); go_simp; try with_reducible rfl)
        try simp only [Act.put, List.setIfInBounds_toArray, List.set_cons_zero, List.set_cons_succ]
        refine runH 32 (v := ?v32) rfl (by kernel_rfl) (fun _ _ _ h => h) (by assumption) (by rfl) ?y32 ?r32
        case y32 => (intro w hSw; (try dsimp only at hSw); go_simp; try with_reducible rfl)
        try simp only [Act.put, List.setIfInBounds_toArray, List.set_cons_zero, List.set_cons_succ]
        refine runH 33 (v := ?v33) rfl (by kernel_rfl) (fun _ _ _ h => h) (by assumption) (by rfl) ?y33 ?r33
        case y33 => (intro w hSw; (try dsimp only at hSw); go_simp; try with_reducible rfl)
        try simp only [Act.put, List.setIfInBounds_toArray, List.set_cons_zero, List.set_cons_succ]
        refine runH 34 (v := ?v34) rfl (by kernel_rfl) (fun _ _ _ h => h) (by assumption) (by rfl) ?y34 ?r34
        case y34 => (intro w hSw; (try dsimp only at hSw); go_simp; try with_reducible rfl)
        try simp only [Act.put, List.setIfInBounds_toArray, List.set_cons_zero, List.set_cons_succ]
        refine runH 35 (v := ?v35) rfl (by kernel_rfl) (fun _ _ _ h => h) (by assumption) (by rfl) ?y35 ?r35
        case y35 => (intro w hSw; (try dsimp only at hSw); go_simp; try with_reducible rfl)
        try simp only [Act.put, List.setIfInBounds_toArray, List.set_cons_zero, List.set_cons_succ]
        refine runH 36 (v := ?v36) rfl (by kernel_rfl) (fun _ _ _ h => h) (by assumption) (by rfl) ?y36 ?r36
        case y36 => (intro w hSw; (try dsimp only at hSw); go_simp; try with_reducible rfl)
        try simp only [Act.put, List.setIfInBounds_toArray, List.set_cons_zero, List.set_cons_succ]
        refine runH 37 (v := ?v37) rfl (by kernel_rfl) (fun _ _ _ h => h) (by assumption) (by rfl) ?y37 ?r37
        case y37 => (intro w hSw; (try dsimp only at hSw); go_simp; try with_reducible rfl)
        try simp only [Act.put, List.setIfInBounds_toArray, List.set_cons_zero, List.set_cons_succ]
        refine runH 38 (v := ?v38) rfl (by kernel_rfl) (fun _ _ _ h => h) (by assumption) (by rfl) ?y38 ?r38
        case y38 => (intro w hSw; (try dsimp only at hSw); go_simp; try with_reducible rfl)
        try simp only [Act.put, List.setIfInBounds_toArray, List.set_cons_zero, List.set_cons_succ]
        refine runH 39 (v := ?v39) rfl (by kernel_rfl) (fun _ _ _ h => h) (by assumption) (by rfl) ?y39 ?r39
        case y39 => (intro w hSw; (try dsimp only at hSw); go_simp; try with_reducible rfl)
        try simp only [Act.put, List.setIfInBounds_toArray, List.set_cons_zero, List.set_cons_succ]
        refine runH 40 (v := ?v40) rfl (by kernel_rfl) (fun _ _ _ h => h) (by assumption) (by rfl) ?y40 ?r40
        case y40 => (intro w hSw; (try dsimp only at hSw); go_simp; try with_reducible rfl)
        try simp only [Act.put, List.setIfInBounds_toArray, List.set_cons_zero, List.set_cons_succ]
        refine runH 41 (v := ?v41) rfl (by kernel_rfl) (fun _ _ _ h => h) (by assumption) (by rfl) ?y41 ?r41
        case y41 => (intro w hSw; (try dsimp only at hSw); go_simp; try with_reducible rfl)
        try simp only [Act.put, List.setIfInBounds_toArray, List.set_cons_zero, List.set_cons_succ]
        refine runH 42 (v := ?v42) rfl (by kernel_rfl) (fun _ _ _ h => h) (by assumption) (by rfl) ?y42 ?r42
        case y42 => (intro w hSw; (try dsimp only at hSw); go_simp; try with_reducible rfl)
        try simp only [Act.put, List.setIfInBounds_toArray, List.set_cons_zero, List.set_cons_succ]
        refine runH 43 (v := ?v43) rfl (by kernel_rfl) (fun _ _ _ h => h) (by assumption) (by rfl) ?y43 ?r43
        case y43 => (intro w hSw; (try dsimp only at hSw); go_simp; try with_reducible rfl)
        try simp only [Act.put, List.setIfInBounds_toArray, List.set_cons_zero, List.set_cons_succ]
        refine runH 44 (v := ?v44) rfl (by kernel_rfl) (fun _ _ _ h => h) (by assumption) (by rfl) ?y44 ?r44
        case y44 => (intro w hSw; (try dsimp only at hSw); go_simp; try with_reducible rfl)
        try simp only [Act.put, List.setIfInBounds_toArray, List.set_cons_zero, List.set_cons_succ]
        refine runH 45 (v := ?v45) rfl (by kernel_rfl) (fun _ _ _ h => h) (by assumption) (by rfl) ?y45 ?r45
        case y45 => (intro w hSw; (try dsimp only at hSw); go_simp; try with_reducible rfl)
        try simp only [Act.put, List.setIfInBounds_toArray, List.set_cons_zero, List.set_cons_succ]
        refine runH 46 (v := ?v46) rfl (by kernel_rfl) (fun _ _ _ h => h) (by assumption) (by rfl) ?y46 ?r46
        case y46 => (intro w hSw; (try dsimp only at hSw); go_simp; try with_reducible rfl)
        try simp only [Act.put, List.setIfInBounds_toArray, List.set_cons_zero, List.set_cons_succ]
        refine runH 47 (v := ?v47) rfl (by kernel_rfl) (fun _ _ _ h => h) (by assumption) (by rfl) ?y47 ?r47
        case y47 => (intro w hSw; (try dsimp only at hSw); go_simp; try with_reducible rfl)
        try simp only [Act.put, List.setIfInBounds_toArray, List.set_cons_zero, List.set_cons_succ]
        refine runH 48 (v := ?v48) rfl (by kernel_rfl) (fun _ _ _ h => h) (by assumption) (by rfl) ?y48 ?r48
        case y48 => (intro w hSw; (try dsimp only at hSw); go_simp; try with_reducible rfl)
        try simp only [Act.put, List.setIfInBounds_toArray, List.set_cons_zero, List.set_cons_succ]
        refine runH 49 (v := ?v49) rfl (by kernel_rfl) (fun _ _ _ h => h) (by assumption) (by rfl) ?y49 ?r49
        case y49 => (intro w hSw; (try dsimp only at hSw); go_simp; try with_reducible rfl)
        try simp only [Act.put, List.setIfInBounds_toArray, List.set_cons_zero, List.set_cons_succ]
        refine wpAnyH_ready (rs := [50]) (by kernel_rfl) (by simp) ?_
        refine AllReadyH.cons rfl (fun K hK => ?_) AllReadyH.nil
        go_simp
        go_at_call 47; refine (alive_any wr.drew).mono ?_; rintro e w6 ⟨rfl, hw6⟩; have hk6 : Below wr.heap.size wr w6 := (below_drew (Below.refl wr.heap.size wr)).trans (hw6.mono (below_drew (Below.refl wr.heap.size wr)).size); have HB9 := Lib.hid (HBB.out.trans (hk6.mono HBB.out.size))
        go_wp2_with fail
        refine hK.out _ _ ?_ (fun hHeld2 => ?_)
        · exact ⟨pw_cell_below hk6 y1, pw_cell_below hk6 y2, pw_cell_below hk6 y22, pw_cell_below hk6 y31, pw_cell_below hk6 y11, pw_cell_below hk6 y32, pw_cell_below hk6 y12⟩
        clear hK K hHeld
        rename _ => hHeld
        try simp only [Act.put, List.setIfInBounds_toArray, List.set_cons_zero, List.set_cons_succ]
        refine runH 51 (v := ?v51) rfl (by kernel_rfl) (fun _ _ _ h => h) (by assumption) (by rfl) ?y51 ?r51
        case y51 => (intro w hSw; (try dsimp only at hSw); go_simp; try with_reducible rfl)
        try simp only [Act.put, List.setIfInBounds_toArray, List.set_cons_zero, List.set_cons_succ]
        refine runH 52 (v := ?v52) rfl (by kernel_rfl) (fun _ _ _ h => h) (by assumption) (by rfl) ?y52 ?r52
        case y52 => (intro w hSw; (try dsimp only at hSw); go_simp; try with_reducible rfl)
        try simp only [Act.put, List.setIfInBounds_toArray, List.set_cons_zero, List.set_cons_succ]
        refine wpAnyH_done (by kernel_rfl) ?_ _
        go_wp2
        go_ret
        exact ⟨rfl, HB9.out⟩
end Go.Proofs.Ytofinglgnkdflaa
end

section
namespace Go.Proofs.Ytofinglgnkdflaa.shapeRoots
open Go.ChangeShapes Go.WideShapes Go.ChangeAt Go.RowKit
set_option linter.unusedVariables false

theorem own : ownKnob Try.prog.godebug = none := by kernel_rfl
theorem laidOut : laidOutB Try.prog = true := by kernel_rfl
set_option maxRecDepth 100000 in
theorem contract (H : Type) (enc : TypeId × Value → H) (W : World) (base : Nat) (args : Array Value) (ds gs : List (DataW H)) (before : List MemPlace)
    (hval : ∀ (j : Nat) t v, Try.f11.params[j]? = some t → args[j]? = some v → Value.okWide Try.prog W .any base t v)
    (hW : DataW.Whole enc Try.prog Try.f11.params.toList Rows.shapeRootsSpec.vars false W args.toList ds gs before) :
    Calls Try.prog 11 args W fun e W' => ∃ v, e = .returned v ∧ Rows.shapeRootsSpec.post enc Try.prog Try.f11 false true false false W args v W' := by
  have hW' := hW
  obtain ⟨p, q, hA0, hV, rfl, hfz, hnd⟩ := hW
  have hA : DataW.TrodAll enc Try.prog W 0 (fun _ => true) true Try.f11.params.toList args.toList ds p := hA0
  rw [Try.params11] at hA hval
  obtain ⟨v0, vs0, d0, ds0, p0, q0, hargs, rfl, rfl, h0, r0⟩ := trodAll_cons hA
  obtain ⟨rfl, rfl, rfl⟩ := trodAll_nil r0
  obtain rfl : args = #[v0] := by
    cases args with
    | mk l => exact congrArg Array.mk hargs
  obtain ⟨rfl, rfl⟩ := trodVars_none hV
  obtain ⟨a0, len0, cap0, rfl⟩ := okWide_slice Try.underlying68 (hval 0 68 v0 rfl rfl)
  clear hA0
  simp only [List.append_nil] at hW'
  have hlt : ∀ x ∈ p0, x.block < W.heap.size := fun x hx => by simpa using hW'.lt x (by simpa using hx)
  obtain ⟨c, rfl, hlc, hC⟩ := trod_ints h0
  refine (roots_law W c a0 cap0 hC hlc).mono fun e W' ⟨he, bel⟩ => ?_
  subst he
  exact ⟨_, rfl, _, _, _, [], _, [], hW', trodAll_mk1 (shut_bool Try.underlying4 _),
    trodAll_cons_mk (Below.trod laidOut (by kernel_rfl) (of_decide_eq_true (by kernel_rfl)) h0 bel hlt) trodAll_mk0, rfl, bel.frame _, fun h => by cases h⟩

set_option maxRecDepth 100000 in
theorem lifted (os : Os) (started : os.Started) (H : Type) (enc : TypeId × Value → H) :
    ReturnsInHanded {} Try.checked os 11 .any (Rows.shapeRootsSpec.pre6 enc Try.prog Try.f11 Rows.shapeRootsRow.domain false) (Rows.shapeRootsSpec.post enc Try.prog Try.f11 false true false false) := by
  refine returnsInHanded_of_change_sized (C := Try.checked) own started (by kernel_rfl) Try.func11
    (ChangeSpec.witness6 (enc := enc) (C := Try.checked) false ⟨#[], #[.slice none 0 0], []⟩ 8 (by kernel_rfl) (by kernel_rfl) (by kernel_rfl) (by kernel_rfl)) ?_
  intro W base args ds gs before hval0 hW hcnd hsz0 _
  exact contract H enc W base args ds gs before hval0 hW
theorem over : Rows.ShapeRootsSaid :=
  OpenClaim.holds_of_wide 11 Try.f11 rfl rfl rfl rfl rfl rfl rfl ⟨rfl, rfl, rfl, rfl, rfl⟩ rfl rfl rfl rfl rfl (by kernel_rfl) Try.func11 (by kernel_rfl)
    (of_decide_eq_true (by kernel_rfl)) (by unfold Func.isWrapper; first | (rw [if_pos (by decide +kernel)]; kernel_rfl) | (rw [if_neg (by decide +kernel)]; exact ⟨rfl, rfl⟩))
    (fun os started H enc _ => lifted os started H enc)
end Go.Proofs.Ytofinglgnkdflaa.shapeRoots
namespace Go.Proofs.Ytofinglgnkdflaa
theorem shapeRoots_holds : Rows.ShapeRootsSaid := shapeRoots.over
#print axioms shapeRoots_holds
end Go.Proofs.Ytofinglgnkdflaa
end
