/- Two rows of words are the same (words of the law of layer 7); Before of the reference; rows of words (plain). -/
import Derived.Test.YtofinglgnkdflaaLTa
import Derived.Test.YtofinglgnkdflaaLXH
import Derived.BigQuiet
namespace Go.Proofs.Ytofinglgnkdflaa
open Go.RowKit
open Go.Proofs.Ytofinglgnkdflaa.PHistoryChecks Go.Proofs.YtofinglgnkdflaaW.PrintWords Go.Proofs.YtofinglgnkdflaaW.PrintLast Go.Proofs.YtofinglgnkdflaaW.PrintMore
set_option linter.unusedVariables false
set_option linter.unusedSimpArgs false
set_option maxHeartbeats 4000000 in
set_option maxRecDepth 100000 in
theorem RBefore_any (W : World) (P : PastL) (R : Rw3) (a b : Int) (hR : RdP W P R) :
    Calls Try.prog 32 #[.agg (cP P R), .int .i64 a, .int .i64 b] W (fun e w' => e = .returned (.bool (befB P.cl a b)) ∧ Below W.heap.size W w') := by
  obtain ⟨r, hr⟩ : ∃ r, r = befB P.cl a b := ⟨_, rfl⟩
  rw [← hr]
  have HQ := Lib.hid hr
  have h3 := Lib.hid hR.cl
  obtain ⟨a1, c1, a2, c2, a3, c3⟩ := R
  have HB0 := Lib.hid (below_alloc (Below.refl W.heap.size W) (.cells (cP P ⟨a1, c1, a2, c2, a3, c3⟩) 30))
  unfold cP at HB0 ⊢
  obtain ⟨l, hle⟩ : ∃ l, l = P.cl := ⟨_, rfl⟩
  rw [← hle] at h3 HQ HB0 ⊢
  have hlm := Kd.C_max h3.out
  clear hR hr hle
  go_enter Try.func32, Try.ntmps32
  by_cases h : a < 0
  · have HR := Lib.hid (show r = false from by rw [HQ.out]; unfold befB; rw [decide_eq_false (show ¬ (0 ≤ a) by omega)]; simp)
    have hd : decide (a < 0) = true := decide_eq_true h
    clear h
    go_wp2
    go_ret
    exact ⟨by rw [HR.out]; try rfl, HB0.out⟩
  · have h0 : 0 ≤ a := by omega
    clear h
    by_cases h : b < 0
    · have HR := Lib.hid (show r = false from by rw [HQ.out]; unfold befB; rw [decide_eq_false (show ¬ (0 ≤ b) by omega)]; simp)
      have hd : decide (b < 0) = true := decide_eq_true h
      clear h
      go_wp2
      go_ret
      exact ⟨by rw [HR.out]; try rfl, HB0.out⟩
    · have h2 : 0 ≤ b := by omega
      clear h
      by_cases h : a ≥ (l.length : Int)
      · have HR := Lib.hid (show r = false from by rw [HQ.out]; unfold befB; rw [decide_eq_false (show ¬ (a < (l.length : Int)) by omega)]; simp)
        have hd : decide (a ≥ (l.length : Int)) = true := decide_eq_true h
        clear h
        go_wp2
        go_ret
        exact ⟨by rw [HR.out]; try rfl, HB0.out⟩
      · have h1 : a < (l.length : Int) := by omega
        clear h
        by_cases h : b ≥ (l.length : Int)
        · have HR := Lib.hid (show r = false from by rw [HQ.out]; unfold befB; rw [decide_eq_false (show ¬ (b < (l.length : Int)) by omega)]; simp)
          have hd : decide (b ≥ (l.length : Int)) = true := decide_eq_true h
          clear h
          go_wp2
          go_ret
          exact ⟨by rw [HR.out]; try rfl, HB0.out⟩
        · have h4 : b < (l.length : Int) := by omega
          clear h
          obtain ⟨ad, A7, c7, A14, c14, rfl, x0, x1, x2, x3, x4, x5, x6, x7, x8, x9, x10, x11, x12, x13, x14, _⟩ := at_T50 h3.out a h0 h1
          clear x0 x1 x2 x3 x4 x5 x6 x7 x8 x10 x11 x12 x13 x14
          obtain ⟨bd, B7, d7, B14, d14, hbd, y0, y1, y2, y3, y4, y5, y6, y7, y8, y9, y10, y11, y12, y13, y14, _⟩ := at_T50 h3.out b h2 h4
          cases hbd
          clear y0 y1 y2 y3 y4 y5 y6 y7 y9 y10 y11 y12 y13 y14
          have hyb : (ad.add (b.toNat * 15)).block < W.heap.size := by have h := World.block_lt_of_cell? W _ y8; exact h
          have hxb : (ad.add (a.toNat * 15)).block < W.heap.size := by have h := World.block_lt_of_cell? W _ x9; exact h
          have hab : ad.block < W.heap.size := by rw [← add_block ad (a.toNat * 15)]; exact hxb
          obtain ⟨fx, hfx⟩ : ∃ v, v = (rd_T50 l a).f5 := ⟨_, rfl⟩
          obtain ⟨fy, hfy⟩ : ∃ v, v = (rd_T50 l b).f4 := ⟨_, rfl⟩
          rw [← hfx] at x9
          rw [← hfy] at y8
          by_cases h5 : fx ≥ 0
          · have HR := Lib.hid (show r = decide (fx < fy) from by rw [HQ.out]; unfold befB; rw [decide_eq_true h0, decide_eq_true h1, decide_eq_true h2, decide_eq_true h4, ← hfx, decide_eq_true (show 0 ≤ fx from h5), ← hfy]; rfl)
            have hd : decide (fx ≥ 0) = true := decide_eq_true h5
            clear hfx hfy
            go_wp2
            go_quiet (fail)
            go_wp2
            go_ret
            exact ⟨by rw [HR.out]; try rfl, by first | exact HB0.out | exact below_drew HB0.out | exact pw_below_drewN HB0.out _⟩
          · have HR := Lib.hid (show r = false from by rw [HQ.out]; unfold befB; rw [← hfx, decide_eq_false (show ¬ 0 ≤ fx from h5)]; simp)
            have hd : decide (fx ≥ 0) = false := decide_eq_false h5
            clear h5 hfx hfy
            go_wp2
            go_quiet (fail)
            go_wp2
            go_ret
            exact ⟨by rw [HR.out]; try rfl, by first | exact HB0.out | exact below_drew HB0.out | exact pw_below_drewN HB0.out _⟩
end Go.Proofs.Ytofinglgnkdflaa
