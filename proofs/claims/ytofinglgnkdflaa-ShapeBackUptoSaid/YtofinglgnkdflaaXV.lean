/- ShapeBack: the law returns true for every row of sums and every row of counts of bulk at most 1048576; its arguments read as before. -/
import Derived.Test.YtofinglgnkdflaaXL
import Derived.Test.YtofinglgnkdflaaXO
import Derived.Test.YtofinglgnkdflaaXM
import Derived.Test.YtofinglgnkdflaaXR
import Derived.Test.YtofinglgnkdflaaRows
import Derived.Test.YtofinglgnkdflaaXT
import Derived.WalkKit
import Derived.ProofKit
import Derived.OpenShut
import Derived.Deep.DeepHandedRow
import Derived.Lib.LaidTab
import Derived.JoinedCond
section
namespace Go.Proofs.Ytofinglgnkdflaa
open Go.RowKit
open Go.Proofs.Ytofinglgnkdflaa.PHistoryChecks Go.Proofs.YtofinglgnkdflaaW.PrintWords Go.Proofs.YtofinglgnkdflaaW.PrintLast Go.Proofs.YtofinglgnkdflaaW.PrintMore
set_option linter.unusedVariables false
set_option linter.unusedSimpArgs false

theorem w64r {n : Int} (h : -9223372036854775808 ≤ n ∧ n ≤ 9223372036854775807) : wrap64 n = n := by unfold wrap64; omega
set_option maxHeartbeats 8000000 in
set_option maxRecDepth 100000 in
theorem RSums_any (W : World) (c : List Int) (A : Option Addr) (k : Nat) (hC : (Kd.int .i64).C W A c.length c) (hk : c.length ≤ k) :
    Calls Try.prog 49 #[.slice A c.length k] W (SumsP c W) := by
  have hlm := Kd.C_max hC
  have HC := Lib.hid hC
  clear hC hk
  go_enter Try.func49, Try.ntmps49
  by_cases h4 : c.length = 4
  · have h4' : ((c.length : Int) != 4) = false := by rw [bne_eq_false_iff_eq]; omega
    have H4 := Lib.hid h4
    have hl4 : (c.length : Int) = 4 := by omega
    clear h4
    go_wp2
    go_loopw [4] (fun iv wr => ∃ i : Int, iv = .int .i64 i ∧ 0 ≤ i ∧ i ≤ 4 ∧ Hid (∀ x : Int, 0 ≤ x → x < i → 0 ≤ rd c x ∧ rd c x ≤ 262144) ∧ Hid (Below W.heap.size W wr)) (fun i _ => 4 - (intOf i).toNat)
    case atStart => exact ⟨0, rfl, by omega, by omega, fun x h0 h1 => absurd h1 (by omega), Below.refl _ _⟩
    case round =>
      obtain ⟨i, rfl, hi0, hi1, HI, HB⟩ := hrel
      by_cases hlt : i < 4
      · obtain ⟨ad, rfl, z⟩ := Kd.at_int HC.out i hi0 (by omega)
        have z1 := pw_cell_below HB.out z
        obtain ⟨n, hn⟩ : ∃ n, n = rd c i := ⟨_, rfl⟩
        rw [← hn] at z1
        have hlt' : i < (c.length : Int) := by omega
        clear z
        by_cases hb : n < 0
        · have hbad : ¬ okCs c := fun h => by have := h.2 i hi0 hlt; omega
          have HBAD := Lib.hid hbad
          clear hbad hn
          go_wp2
          go_ret2
          exact sums_bad HBAD.out HB.out
        · by_cases hb2 : 262144 < n
          · have hbad : ¬ okCs c := fun h => by have := h.2 i hi0 hlt; omega
            have HBAD := Lib.hid hbad
            clear hbad hn
            go_wp2
            go_ret2
            exact sums_bad HBAD.out HB.out
          · have HN := Lib.hid (show ∀ x : Int, 0 ≤ x → x < i + 1 → 0 ≤ rd c x ∧ rd c x ≤ 262144 from fun x h0 h1 => by
              by_cases hx : x = i
              · subst hx; omega
              · exact HI.out x h0 (by omega))
            clear hn
            go_wp2
            go_roundw
            case rel => exact ⟨i + 1, rfl, by omega, by omega, HN.out, HB.out⟩
            case measure => simp [intOf]; omega
      · have hok : okCs c := ⟨H4.out, fun x h0 h1 => HI.out x h0 (by omega)⟩
        have HOK := Lib.hid hok
        have hi4 : i = 4 := by omega
        subst hi4
        obtain ⟨wo, rfl⟩ : ∃ wo : World, wo = wr := ⟨_, rfl⟩
        clear hok hlt HI
        go_wp2
        go_loopw [6, 5] (fun jv lv wr => ∃ j : Nat, jv = .int .i64 j ∧ j ≤ 4 ∧ Hid (k43.R 43 wr W.heap.size (fun _ => True) lv (sumL c j)) ∧ Hid (Below W.heap.size W wr)) (fun j _ _ => 4 - (intOf j).toNat)
        case atStart => exact ⟨0, rfl, by omega, Kd.R_nil _ _ _ _ _, HB.out⟩
        case round =>
          obtain ⟨j, rfl, hj, HL, HBJ⟩ := hrel
          obtain ⟨cA, ck, hcv⟩ := Kd.R_slice HL.out
          subst hcv
          clear HB
          by_cases hlt : j < 4
          · obtain ⟨wj, hwj⟩ : ∃ wj : World, wj = wr := ⟨_, rfl⟩
            rw [← hwj] at HL HBJ ⊢
            clear hwj wr
            obtain ⟨g, hg⟩ : ∃ g, g = wj.heap.size := ⟨_, rfl⟩
            have HG := Lib.hid (show wj.heap.size ≤ g from Nat.le_of_eq hg.symm)
            have HA0 := Lib.hid (show (wj.alloc (.cells #[.int .i64 3, .int .i64 0, .int .i64 0, .string ⟨#[]⟩, .slice none 0 0] 43)).heap[g]? = some (.cells #[.int .i64 3, .int .i64 0, .int .i64 0, .string ⟨#[]⟩, .slice none 0 0] 43 (0, 0)) from by rw [hg]; exact heap_alloc_new wj _)
            have HB0 := Lib.hid (below_alloc (Below.refl wj.heap.size wj) (.cells #[.int .i64 3, .int .i64 0, .int .i64 0, .string ⟨#[]⟩, .slice none 0 0] 43))
            have HGB := Lib.hid hg
            go_wp2
            try rw [decide_eq_true (show (j : Int) < 4 by omega)]
            try rw [← hg]
            clear hg
            go_loopw [8] (fun rv wr => ∃ (r : Nat) (sa sb : Int), rv = .int .i64 r ∧ r ≤ 4 ∧ Hid (sumJ c j r = (sa, sb)) ∧ Hid (wr.heap[g]? = some (.cells #[.int .i64 3, .int .i64 sa, .int .i64 sb, .string ⟨#[]⟩, .slice none 0 0] 43 (0, 0))) ∧ Hid (Below wj.heap.size wj wr)) (fun r _ => 4 - (intOf r).toNat)
            case atStart => exact ⟨0, 0, 0, rfl, by omega, rfl, HA0.out, HB0.out⟩
            case round =>
              obtain ⟨r, sa, sb, rfl, hr, HS, HBK, HBR⟩ := hrel
              have hBW : Below W.heap.size W wr := HBJ.out.trans (HBR.out.mono HBJ.out.size)
              by_cases hltr : r < 4
              · obtain ⟨ad, rfl, z⟩ := Kd.at_int HC.out r (by omega) (by omega)
                have z1 : wr.cell? (ad.add r) = some (.int .i64 (rd c r)) := pw_cell_below hBW z
                have hn := HOK.out.2 r (by omega) (by omega)
                have hs := sumJ_small HOK.out j r hr
                rw [HS.out] at hs
                simp only at hs
                have hs1 : sumJ c j (r + 1) = ((sumJ c j r).1 + (rd c r * (ipow (j * r % 4)).1 - 0 * (ipow (j * r % 4)).2), (sumJ c j r).2 + (rd c r * (ipow (j * r % 4)).2 + 0 * (ipow (j * r % 4)).1)) := rfl
                rw [HS.out] at hs1
                obtain ⟨n, hnn⟩ : ∃ n, n = rd c r := ⟨_, rfl⟩
                rw [← hnn] at z1 hn hs1
                have hqq : (wrap64 ((j : Int) * (r : Int))).tmod 4 = ((j * r % 4 : Nat) : Int) := by
                  have h1 : j = 0 ∨ j = 1 ∨ j = 2 ∨ j = 3 := by omega
                  have h2 : r = 0 ∨ r = 1 ∨ r = 2 ∨ r = 3 := by omega
                  rcases h1 with rfl | rfl | rfl | rfl <;> rcases h2 with rfl | rfl | rfl | rfl <;> decide +kernel
                have hbd : j * r % 4 < 4 := Nat.mod_lt _ (by decide)
                have hrl : (r : Int) < (c.length : Int) := by omega
                obtain ⟨q, hq0⟩ : ∃ q, j * r % 4 = q := ⟨_, rfl⟩
                rw [hq0] at hqq hbd
                clear z hnn hBW
                rcases (by omega : q = 0 ∨ q = 1 ∨ q = 2 ∨ q = 3) with rfl | rfl | rfl | rfl
                · have hq' : (wrap64 ((j : Int) * (r : Int))).tmod 4 = 0 := by rw [hqq]; rfl
                  have hstep : sumJ c j (r + 1) = (wrap64 (sa + n), sb) := by
                    rw [hs1, hq0]
                    simp only [ipow, w64r (show -9223372036854775808 ≤ sa + n ∧ sa + n ≤ 9223372036854775807 by omega)]
                    apply Prod.ext <;> simp <;> omega
                  have HST := Lib.hid hstep
                  have HBK2 := Lib.hid (show (wr.setCell ⟨g, 1, none⟩ (.int .i64 (wrap64 (sa + n)))).heap[g]? = some (.cells #[.int .i64 3, .int .i64 (wrap64 (sa + n)), .int .i64 sb, .string ⟨#[]⟩, .slice none 0 0] 43 (0, 0)) from blk_set HBK.out 1 _)
                  have HBR2 := Lib.hid (show Below wj.heap.size wj (wr.setCell ⟨g, 1, none⟩ (.int .i64 (wrap64 (sa + n)))) from HBR.out.setCell (p := ⟨g, 1, none⟩) HG.out _)
                  clear hstep hs1 hq0 hqq hbd hn hs
                  have b0 : wr.cell? ⟨g, 0, none⟩ = some (.int .i64 3) := (blk_cell HBK.out 0).trans rfl
                  have fb0 := blk_frozen HBK.out 0
                  have b1 : wr.cell? ⟨g, 1, none⟩ = some (.int .i64 sa) := (blk_cell HBK.out 1).trans rfl
                  have fb1 := blk_frozen HBK.out 1
                  have b2 : wr.cell? ⟨g, 2, none⟩ = some (.int .i64 sb) := (blk_cell HBK.out 2).trans rfl
                  have fb2 := blk_frozen HBK.out 2
                  have b3 : wr.cell? ⟨g, 3, none⟩ = some (.string ⟨#[]⟩) := (blk_cell HBK.out 3).trans rfl
                  have fb3 := blk_frozen HBK.out 3
                  have b4 : wr.cell? ⟨g, 4, none⟩ = some (.slice none 0 0) := (blk_cell HBK.out 4).trans rfl
                  have fb4 := blk_frozen HBK.out 4
                  go_wp2
                  go_roundw
                  case rel => exact ⟨r + 1, _, _, by simp, hltr, HST.out, HBK2.out, HBR2.out⟩
                  case measure => simp [intOf]; omega
                · have hq' : (wrap64 ((j : Int) * (r : Int))).tmod 4 = 1 := by rw [hqq]; rfl
                  have hstep : sumJ c j (r + 1) = (sa, wrap64 (sb + n)) := by
                    rw [hs1, hq0]
                    simp only [ipow, w64r (show -9223372036854775808 ≤ sb + n ∧ sb + n ≤ 9223372036854775807 by omega)]
                    apply Prod.ext <;> simp <;> omega
                  have HST := Lib.hid hstep
                  have HBK2 := Lib.hid (show (wr.setCell ⟨g, 2, none⟩ (.int .i64 (wrap64 (sb + n)))).heap[g]? = some (.cells #[.int .i64 3, .int .i64 sa, .int .i64 (wrap64 (sb + n)), .string ⟨#[]⟩, .slice none 0 0] 43 (0, 0)) from blk_set HBK.out 2 _)
                  have HBR2 := Lib.hid (show Below wj.heap.size wj (wr.setCell ⟨g, 2, none⟩ (.int .i64 (wrap64 (sb + n)))) from HBR.out.setCell (p := ⟨g, 2, none⟩) HG.out _)
                  clear hstep hs1 hq0 hqq hbd hn hs
                  have b0 : wr.cell? ⟨g, 0, none⟩ = some (.int .i64 3) := (blk_cell HBK.out 0).trans rfl
                  have fb0 := blk_frozen HBK.out 0
                  have b1 : wr.cell? ⟨g, 1, none⟩ = some (.int .i64 sa) := (blk_cell HBK.out 1).trans rfl
                  have fb1 := blk_frozen HBK.out 1
                  have b2 : wr.cell? ⟨g, 2, none⟩ = some (.int .i64 sb) := (blk_cell HBK.out 2).trans rfl
                  have fb2 := blk_frozen HBK.out 2
                  have b3 : wr.cell? ⟨g, 3, none⟩ = some (.string ⟨#[]⟩) := (blk_cell HBK.out 3).trans rfl
                  have fb3 := blk_frozen HBK.out 3
                  have b4 : wr.cell? ⟨g, 4, none⟩ = some (.slice none 0 0) := (blk_cell HBK.out 4).trans rfl
                  have fb4 := blk_frozen HBK.out 4
                  go_wp2
                  go_roundw
                  case rel => exact ⟨r + 1, _, _, by simp, hltr, HST.out, HBK2.out, HBR2.out⟩
                  case measure => simp [intOf]; omega
                · have hq' : (wrap64 ((j : Int) * (r : Int))).tmod 4 = 2 := by rw [hqq]; rfl
                  have hstep : sumJ c j (r + 1) = (wrap64 (sa - n), sb) := by
                    rw [hs1, hq0]
                    simp only [ipow, w64r (show -9223372036854775808 ≤ sa - n ∧ sa - n ≤ 9223372036854775807 by omega)]
                    apply Prod.ext <;> simp <;> omega
                  have HST := Lib.hid hstep
                  have HBK2 := Lib.hid (show (wr.setCell ⟨g, 1, none⟩ (.int .i64 (wrap64 (sa - n)))).heap[g]? = some (.cells #[.int .i64 3, .int .i64 (wrap64 (sa - n)), .int .i64 sb, .string ⟨#[]⟩, .slice none 0 0] 43 (0, 0)) from blk_set HBK.out 1 _)
                  have HBR2 := Lib.hid (show Below wj.heap.size wj (wr.setCell ⟨g, 1, none⟩ (.int .i64 (wrap64 (sa - n)))) from HBR.out.setCell (p := ⟨g, 1, none⟩) HG.out _)
                  clear hstep hs1 hq0 hqq hbd hn hs
                  have b0 : wr.cell? ⟨g, 0, none⟩ = some (.int .i64 3) := (blk_cell HBK.out 0).trans rfl
                  have fb0 := blk_frozen HBK.out 0
                  have b1 : wr.cell? ⟨g, 1, none⟩ = some (.int .i64 sa) := (blk_cell HBK.out 1).trans rfl
                  have fb1 := blk_frozen HBK.out 1
                  have b2 : wr.cell? ⟨g, 2, none⟩ = some (.int .i64 sb) := (blk_cell HBK.out 2).trans rfl
                  have fb2 := blk_frozen HBK.out 2
                  have b3 : wr.cell? ⟨g, 3, none⟩ = some (.string ⟨#[]⟩) := (blk_cell HBK.out 3).trans rfl
                  have fb3 := blk_frozen HBK.out 3
                  have b4 : wr.cell? ⟨g, 4, none⟩ = some (.slice none 0 0) := (blk_cell HBK.out 4).trans rfl
                  have fb4 := blk_frozen HBK.out 4
                  go_wp2
                  go_roundw
                  case rel => exact ⟨r + 1, _, _, by simp, hltr, HST.out, HBK2.out, HBR2.out⟩
                  case measure => simp [intOf]; omega
                · have hq' : (wrap64 ((j : Int) * (r : Int))).tmod 4 = 3 := by rw [hqq]; rfl
                  have hstep : sumJ c j (r + 1) = (sa, wrap64 (sb - n)) := by
                    rw [hs1, hq0]
                    simp only [ipow, w64r (show -9223372036854775808 ≤ sb - n ∧ sb - n ≤ 9223372036854775807 by omega)]
                    apply Prod.ext <;> simp <;> omega
                  have HST := Lib.hid hstep
                  have HBK2 := Lib.hid (show (wr.setCell ⟨g, 2, none⟩ (.int .i64 (wrap64 (sb - n)))).heap[g]? = some (.cells #[.int .i64 3, .int .i64 sa, .int .i64 (wrap64 (sb - n)), .string ⟨#[]⟩, .slice none 0 0] 43 (0, 0)) from blk_set HBK.out 2 _)
                  have HBR2 := Lib.hid (show Below wj.heap.size wj (wr.setCell ⟨g, 2, none⟩ (.int .i64 (wrap64 (sb - n)))) from HBR.out.setCell (p := ⟨g, 2, none⟩) HG.out _)
                  clear hstep hs1 hq0 hqq hbd hn hs
                  have b0 : wr.cell? ⟨g, 0, none⟩ = some (.int .i64 3) := (blk_cell HBK.out 0).trans rfl
                  have fb0 := blk_frozen HBK.out 0
                  have b1 : wr.cell? ⟨g, 1, none⟩ = some (.int .i64 sa) := (blk_cell HBK.out 1).trans rfl
                  have fb1 := blk_frozen HBK.out 1
                  have b2 : wr.cell? ⟨g, 2, none⟩ = some (.int .i64 sb) := (blk_cell HBK.out 2).trans rfl
                  have fb2 := blk_frozen HBK.out 2
                  have b3 : wr.cell? ⟨g, 3, none⟩ = some (.string ⟨#[]⟩) := (blk_cell HBK.out 3).trans rfl
                  have fb3 := blk_frozen HBK.out 3
                  have b4 : wr.cell? ⟨g, 4, none⟩ = some (.slice none 0 0) := (blk_cell HBK.out 4).trans rfl
                  have fb4 := blk_frozen HBK.out 4
                  go_wp2
                  go_roundw
                  case rel => exact ⟨r + 1, _, _, by simp, hltr, HST.out, HBK2.out, HBR2.out⟩
                  case measure => simp [intOf]; omega
              · have hr4 : r = 4 := by omega
                subst hr4
                have HSA := Lib.hid (show gaussV sa sb = sumV c j from by unfold sumV; rw [HS.out])
                have hl1 : (sumL c j).length = j := by simp [sumL]
                have HL1 := Lib.hid hl1
                have HSL := Lib.hid (show sumL c j ++ [gaussV sa sb] = sumL c (j + 1) from by rw [HSA.out]; simp [sumL, List.range_succ])
                have HR7 := Lib.hid (Kd.R_mono (Kd.R_below (Kd.R_elderB HL.out g HG.out) HBR.out) (fun k hk => hk))
                have HB7 := Lib.hid (HBJ.out.trans (HBR.out.mono HBJ.out.size))
                have d0 : wr.cell? ⟨g, 0, none⟩ = some (.int .i64 3) := (blk_cell HBK.out 0).trans rfl
                have d1 : wr.cell? ⟨g, 1, none⟩ = some (.int .i64 sa) := (blk_cell HBK.out 1).trans rfl
                have d2 : wr.cell? ⟨g, 2, none⟩ = some (.int .i64 sb) := (blk_cell HBK.out 2).trans rfl
                have d3 : wr.cell? ⟨g, 3, none⟩ = some (.string ⟨#[]⟩) := (blk_cell HBK.out 3).trans rfl
                have d4 : wr.cell? ⟨g, 4, none⟩ = some (.slice none 0 0) := (blk_cell HBK.out 4).trans rfl
                clear hltr hl1
                go_wp2_with (at_builtin; (refine Kd.R_append (w0 := W) k43 W.heap.size rfl _ _ 41 43 _ 64 rfl Try.underlying41 info43 rfl (by decide) (by decide) (.slice cA (sumL c j).length ck) (sumL c j) (gaussV sa sb) [.int .i64 3, .int .i64 sa, .int .i64 sb, .string ⟨#[]⟩, .slice none 0 0] (fun k => True ∧ k ≠ g) (fun _ => False) rfl rfl (k43_mkM _ _ _ (gaussV sa sb) (Kd.R_nil _ _ _ _ _)) (fun _ h => h.elim) (fun k hk => ⟨trivial, Kd.freshB HBK.out k hk⟩) HR7.out HB7.out HB7.out.size (by rw [HL1.out]; omega) ?_; intro v1 w8 hR8 hb8 hg8 hat8; rw [HSL.out] at hR8; have HR8 := Lib.hid (Kd.R_mono hR8 (fun _ _ => trivial)); have HB8 := Lib.hid hb8; clear hR8 hb8 hg8 hat8))
                go_roundw
                case rel => exact ⟨j + 1, by simp, by omega, HR8.out, HB8.out⟩
                case measure => simp [intOf]; omega
          · have hj4 : j = 4 := by omega
            subst hj4
            go_wp2
            go_ret2
            exact ⟨HBJ.out, .inr ⟨HOK.out, _, rfl, HL.out⟩⟩
  · have h4' : ((c.length : Int) != 4) = true := by rw [bne_iff_ne]; omega
    have HBAD := Lib.hid (show ¬ okCs c from fun h => h4 h.1)
    clear h4
    go_wp2
    go_ret2
    exact sums_bad HBAD.out (Below.refl _ _)
end Go.Proofs.Ytofinglgnkdflaa
end

section
namespace Go.Proofs.Ytofinglgnkdflaa
open Go.RowKit
open Go.Proofs.Ytofinglgnkdflaa.PHistoryChecks Go.Proofs.YtofinglgnkdflaaW.PrintWords Go.Proofs.YtofinglgnkdflaaW.PrintLast Go.Proofs.YtofinglgnkdflaaW.PrintMore
set_option linter.unusedVariables false
set_option linter.unusedSimpArgs false

theorem rd430 (a b d e : S43) : rd_T43 [a, b, d, e] ((0 : Nat) : Int) = a := rfl
theorem rd431 (a b d e : S43) : rd_T43 [a, b, d, e] ((1 : Nat) : Int) = b := rfl
theorem rd432 (a b d e : S43) : rd_T43 [a, b, d, e] ((2 : Nat) : Int) = d := rfl
theorem rd433 (a b d e : S43) : rd_T43 [a, b, d, e] ((3 : Nat) : Int) = e := rfl
theorem backJ0 (a b d e : S43) : (backJ [a, b, d, e] 0 4).1 = a.f1 + b.f1 + d.f1 + e.f1 := by
  simp only [backJ, rd430, rd431, rd432, rd433, show 3 * 0 * 0 % 4 = 0 from rfl, show 3 * 1 * 0 % 4 = 0 from rfl, show 3 * 2 * 0 % 4 = 0 from rfl, show 3 * 3 * 0 % 4 = 0 from rfl, ipow]; simp
theorem backJ1 (a b d e : S43) : (backJ [a, b, d, e] 1 4).1 = a.f1 + b.f2 - d.f1 - e.f2 := by
  simp only [backJ, rd430, rd431, rd432, rd433, show 3 * 0 * 1 % 4 = 0 from rfl, show 3 * 1 * 1 % 4 = 3 from rfl, show 3 * 2 * 1 % 4 = 2 from rfl, show 3 * 3 * 1 % 4 = 1 from rfl, ipow]; simp; omega
theorem backJ2 (a b d e : S43) : (backJ [a, b, d, e] 2 4).1 = a.f1 - b.f1 + d.f1 - e.f1 := by
  simp only [backJ, rd430, rd431, rd432, rd433, show 3 * 0 * 2 % 4 = 0 from rfl, show 3 * 1 * 2 % 4 = 2 from rfl, show 3 * 2 * 2 % 4 = 0 from rfl, show 3 * 3 * 2 % 4 = 2 from rfl, ipow]; simp; omega
theorem backJ3 (a b d e : S43) : (backJ [a, b, d, e] 3 4).1 = a.f1 - b.f2 - d.f1 + e.f2 := by
  simp only [backJ, rd430, rd431, rd432, rd433, show 3 * 0 * 3 % 4 = 0 from rfl, show 3 * 1 * 3 % 4 = 1 from rfl, show 3 * 2 * 3 % 4 = 2 from rfl, show 3 * 3 * 3 % 4 = 3 from rfl, ipow]; simp; omega
/-- The counts, as the reference solves for them. -/
def solveL (l : List S43) : List Int :=
  [(((rd_T43 l (0 : Nat)).f1 + (rd_T43 l (2 : Nat)).f1).tdiv 2 + (rd_T43 l (1 : Nat)).f1).tdiv 2, (((rd_T43 l (0 : Nat)).f1 - (rd_T43 l (2 : Nat)).f1).tdiv 2 + (rd_T43 l (1 : Nat)).f2).tdiv 2,
   (((rd_T43 l (0 : Nat)).f1 + (rd_T43 l (2 : Nat)).f1).tdiv 2 - (rd_T43 l (1 : Nat)).f1).tdiv 2, (((rd_T43 l (0 : Nat)).f1 - (rd_T43 l (2 : Nat)).f1).tdiv 2 - (rd_T43 l (1 : Nat)).f2).tdiv 2]
theorem tdiv_of {x y k : Int} (hk : k ≠ 0) (h : x = k * y) : x.tdiv k = y := by rw [h]; exact Int.mul_tdiv_cancel_left _ hk
/-- What the reference asks of each. -/
def headOk (v : S43) : Prop := v.f0 = 3 ∧ (-1048576 ≤ v.f1 ∧ v.f1 ≤ 1048576) ∧ (-1048576 ≤ v.f2 ∧ v.f2 ≤ 1048576)
def tailOk (l : List S43) (i : Nat) : Prop := (sumJ (solveL l) i 4).1 = (rd_T43 l i).f1 ∧ (sumJ (solveL l) i 4).2 = (rd_T43 l i).f2 ∧ (rd_T43 l i).f3 = ⟨#[]⟩ ∧ (rd_T43 l i).f4 = []
theorem gauss_of {v : S43} (h0 : v.f0 = 3) (h3 : v.f3 = ⟨#[]⟩) (h4 : v.f4 = []) : v = gaussV v.f1 v.f2 := by
  obtain ⟨k, i, m, t, l⟩ := v
  simp only at h0 h3 h4
  subst h0 h3 h4; rfl
theorem part_iff (n : Int) : partB n = true ↔ -1048576 ≤ n ∧ n ≤ 1048576 := by
  unfold partB
  simp only [Bool.and_eq_true, decide_eq_true_eq]
theorem ord_gauss (a b x y : Int) : ordV (gaussV a b) (gaussV x y) = 0 ↔ a = x ∧ b = y := by
  have hsg : ∀ u v : Int, sg2 u v = 0 ↔ u = v := fun u v => by
    unfold sg2 sg
    by_cases h1 : u < v
    · simp [h1]; omega
    · by_cases h2 : v < u
      · simp [h1, h2]; omega
      · simp [h1, h2]; omega
  have hcm : cmpS (⟨#[]⟩ : ByteArray) ⟨#[]⟩ = 0 := by decide +kernel
  rw [ordV_eq]
  unfold ordHead gaussV
  simp only [ne_eq, not_true_eq_false, if_false, hcm]
  by_cases h1 : sg2 a x = 0
  · by_cases h2 : sg2 b y = 0
    · simp only [h1, h2, not_true_eq_false, if_false, Option.getD_none, ordL, true_iff]
      exact ⟨(hsg a x).1 h1, (hsg b y).1 h2⟩
    · simp only [h1, h2, not_true_eq_false, not_false_eq_true, if_false, if_true, Option.getD_some, false_iff]
      exact fun h => h2 ((hsg b y).2 h.2)
  · simp only [h1, not_false_eq_true, if_true, Option.getD_some, false_iff]
    exact fun h => h1 ((hsg a x).2 h.1)
theorem list4v {l : List S43} (h : l.length = 4) : ∃ a b d e, l = [a, b, d, e] := list4' h
/-- From sums, the counts again. -/
theorem back_sums (c : List Int) (hc : okCs c) (l : List S43) (hl : l.length = 4) (h : ∀ i : Nat, i < 4 → rd_T43 l i = sumV c i) : backL l 4 = c ∧ solveL l = c := by
  obtain ⟨a, b, d, e, rfl⟩ := list4' hc.1
  obtain ⟨v0, v1, v2, v3, rfl⟩ := list4v hl
  have h0 := h 0 (by decide)
  have h1 := h 1 (by decide)
  have h2 := h 2 (by decide)
  have h3 := h 3 (by decide)
  rw [rd430] at h0
  rw [rd431] at h1
  rw [rd432] at h2
  rw [rd433] at h3
  subst h0 h1 h2 h3
  unfold sumV
  rw [sumJ0, sumJ1, sumJ2, sumJ3]
  constructor
  · show [backC _ 0, backC _ 1, backC _ 2, backC _ 3] = _
    unfold backC
    rw [backJ0, backJ1, backJ2, backJ3]
    simp only [gaussV]
    rw [tdiv_of (y := a) (by decide) (by omega), tdiv_of (y := b) (by decide) (by omega), tdiv_of (y := d) (by decide) (by omega), tdiv_of (y := e) (by decide) (by omega)]
  · unfold solveL
    rw [rd430, rd431, rd432]
    simp only [gaussV]
    rw [tdiv_of (x := a + b + d + e + (a - b + d - e)) (y := a + d) (by decide) (by omega), tdiv_of (x := a + b + d + e - (a - b + d - e)) (y := b + e) (by decide) (by omega)]
    rw [tdiv_of (x := a + d + (a - d)) (y := a) (by decide) (by omega), tdiv_of (x := b + e + (b - e)) (y := b) (by decide) (by omega), tdiv_of (x := a + d - (a - d)) (y := d) (by decide) (by omega), tdiv_of (x := b + e - (b - e)) (y := e) (by decide) (by omega)]
/-- The reference's conditions are the program's. -/
theorem back_iff (l : List S43) : (okBs l ∧ sameBs l) ↔ (l.length = 4 ∧ (∀ i : Nat, i < 4 → headOk (rd_T43 l i)) ∧ okCs (solveL l) ∧ ∀ i : Nat, i < 4 → tailOk l i) := by
  constructor
  · rintro ⟨⟨hl, hk⟩, hc, hs⟩
    have hg : ∀ i : Nat, i < 4 → rd_T43 l i = gaussV (rd_T43 l i).f1 (rd_T43 l i).f2 ∧ partB (rd_T43 l i).f1 = true ∧ partB (rd_T43 l i).f2 = true := fun i hi => right_gauss (hk i (by omega) (by omega)).1 (hk i (by omega) (by omega)).2
    have hq : ∀ i : Nat, i < 4 → rd_T43 l i = sumV (backL l 4) i := fun i hi => by
      have h1 := hs i hi
      rw [(hg i hi).1] at h1
      unfold sumV at h1 ⊢
      have h2 := (ord_gauss _ _ _ _).1 h1
      rw [h2.1, h2.2]
      exact (hg i hi).1
    have hb := back_sums (backL l 4) hc l hl hq
    refine ⟨hl, fun i hi => ⟨(hk i (by omega) (by omega)).1, (part_iff _).1 (hg i hi).2.1, (part_iff _).1 (hg i hi).2.2⟩, by rw [hb.2]; exact hc, fun i hi => ?_⟩
    unfold tailOk
    rw [hb.2, hq i hi]
    exact ⟨rfl, rfl, rfl, rfl⟩
  · rintro ⟨hl, hh, hc, ht⟩
    have hq : ∀ i : Nat, i < 4 → rd_T43 l i = sumV (solveL l) i := fun i hi => by
      rw [gauss_of (hh i hi).1 (ht i hi).2.2.1 (ht i hi).2.2.2]
      unfold sumV
      rw [(ht i hi).1, (ht i hi).2.1]
    have hb := back_sums (solveL l) hc l hl hq
    refine ⟨⟨hl, fun i h0 h1 => ?_⟩, by rw [hb.1]; exact hc, fun i hi => ?_⟩
    · have hi : i.toNat < 4 := by omega
      have h2 := hh i.toNat hi
      have h3 := hq i.toNat hi
      rw [Int.toNat_of_nonneg h0] at h2 h3
      refine ⟨h2.1, ?_⟩
      rw [h3]
      exact right_gaussV (sum_part hc i.toNat).1 (sum_part hc i.toNat).2
    · rw [hb.1, hq i hi]
      exact (ord_gauss _ _ _ _).2 ⟨rfl, rfl⟩
theorem back_solve {l : List S43} (h : okBs l ∧ sameBs l) : solveL l = backL l 4 := by
  have h2 := (back_iff l).1 h
  obtain ⟨hl, hh, hc, ht⟩ := h2
  have hq : ∀ i : Nat, i < 4 → rd_T43 l i = sumV (solveL l) i := fun i hi => by
    rw [gauss_of (hh i hi).1 (ht i hi).2.2.1 (ht i hi).2.2.2]
    unfold sumV
    rw [(ht i hi).1, (ht i hi).2.1]
  exact ((back_sums (solveL l) hc l hl hq).1).symm
theorem back_of_sums {c : List Int} (hc : okCs c) : (okBs (sumL c 4) ∧ sameBs (sumL c 4)) ∧ backL (sumL c 4) 4 = c := by
  have hl : (sumL c 4).length = 4 := by simp [sumL]
  have hq : ∀ i : Nat, i < 4 → rd_T43 (sumL c 4) i = sumV c i := fun i hi => by
    rcases (by omega : i = 0 ∨ i = 1 ∨ i = 2 ∨ i = 3) with rfl | rfl | rfl | rfl <;> rfl
  have hb := back_sums c hc (sumL c 4) hl hq
  refine ⟨(back_iff _).2 ⟨hl, fun i hi => ?_, by rw [hb.2]; exact hc, fun i hi => ?_⟩, hb.1⟩
  · rw [hq i hi]
    exact ⟨rfl, (part_iff _).1 (sum_part hc i).1, (part_iff _).1 (sum_part hc i).2⟩
  · unfold tailOk
    rw [hb.2, hq i hi]
    exact ⟨rfl, rfl, rfl, rfl⟩
end Go.Proofs.Ytofinglgnkdflaa
end

section
namespace Go.Proofs.Ytofinglgnkdflaa
open Go.RowKit
open Go.Proofs.Ytofinglgnkdflaa.PHistoryChecks Go.Proofs.YtofinglgnkdflaaW.PrintWords Go.Proofs.YtofinglgnkdflaaW.PrintLast Go.Proofs.YtofinglgnkdflaaW.PrintMore
set_option linter.unusedVariables false
set_option linter.unusedSimpArgs false

theorem okBs_iff {l : List S43} : ¬ (l.length = 4 ∧ (∀ i : Nat, i < 4 → headOk (rd_T43 l i)) ∧ okCs (solveL l) ∧ ∀ i : Nat, i < 4 → tailOk l i) → ¬ (okBs l ∧ sameBs l) := fun h h2 => h ((back_iff l).1 h2)
theorem half_bd {u K : Int} (h : -(2 * K) ≤ u ∧ u ≤ 2 * K) : -K ≤ u.tdiv 2 ∧ u.tdiv 2 ≤ K := by
  have h1 : (u.tdiv 2).natAbs = u.natAbs / 2 := Int.natAbs_tdiv u 2
  generalize u.tdiv 2 = q at *
  omega
theorem iw {n : Int} (h : -9223372036854775808 ≤ n ∧ n ≤ 9223372036854775807) : IntKind.i64.wrap n = n := IntWalk.i64_in _ (by omega)
theorem solve_wrap {x0 x1 x2 t1 : Int} (b0 : -1048576 ≤ x0 ∧ x0 ≤ 1048576) (b1 : -1048576 ≤ x1 ∧ x1 ≤ 1048576) (b2 : -1048576 ≤ x2 ∧ x2 ≤ 1048576) (b3 : -1048576 ≤ t1 ∧ t1 ≤ 1048576) :
    ∃ ev od eh oh s1 s2 s3 s4 c0 c1 c2 c3 : Int, wrap64 (x0 + x2) = ev ∧ wrap64 (x0 - x2) = od ∧ IntKind.i64.wrap (ev.tdiv 2) = eh ∧ IntKind.i64.wrap (od.tdiv 2) = oh ∧
      IntKind.i64.wrap (eh + x1) = s1 ∧ IntKind.i64.wrap (oh + t1) = s2 ∧ IntKind.i64.wrap (eh - x1) = s3 ∧ IntKind.i64.wrap (oh - t1) = s4 ∧
      IntKind.i64.wrap (s1.tdiv 2) = c0 ∧ IntKind.i64.wrap (s2.tdiv 2) = c1 ∧ IntKind.i64.wrap (s3.tdiv 2) = c2 ∧ IntKind.i64.wrap (s4.tdiv 2) = c3 ∧
      [c0, c1, c2, c3] = [((x0 + x2).tdiv 2 + x1).tdiv 2, ((x0 - x2).tdiv 2 + t1).tdiv 2, ((x0 + x2).tdiv 2 - x1).tdiv 2, ((x0 - x2).tdiv 2 - t1).tdiv 2] := by
  have e1 := half_bd (u := x0 + x2) (K := 1048576) (by omega)
  have e2 := half_bd (u := x0 - x2) (K := 1048576) (by omega)
  have f1 := half_bd (u := (x0 + x2).tdiv 2 + x1) (K := 1048576) (by omega)
  have f2 := half_bd (u := (x0 - x2).tdiv 2 + t1) (K := 1048576) (by omega)
  have f3 := half_bd (u := (x0 + x2).tdiv 2 - x1) (K := 1048576) (by omega)
  have f4 := half_bd (u := (x0 - x2).tdiv 2 - t1) (K := 1048576) (by omega)
  exact ⟨x0 + x2, x0 - x2, _, _, _, _, _, _, _, _, _, _, w64r (by omega), w64r (by omega), iw (by omega), iw (by omega), iw (by omega), iw (by omega), iw (by omega), iw (by omega), iw (by omega), iw (by omega), iw (by omega), iw (by omega), rfl⟩
set_option maxHeartbeats 8000000 in
set_option maxRecDepth 100000 in
theorem RBack_any (W : World) (l : List S43) (A : Option Addr) (c : Nat) (hC : Kd.C k43 W A l.length l) (hc : l.length ≤ c) :
    Calls Try.prog 52 #[.slice A l.length c] W (BackP l W) := by
  have hlm := Kd.C_max hC
  have HC := Lib.hid hC
  clear hC hc
  go_enter Try.func52, Try.ntmps52
  by_cases h4 : l.length = 4
  · have h4' : ((l.length : Int) != 4) = false := by rw [bne_eq_false_iff_eq]; omega
    have H4 := Lib.hid h4
    have hl4 : (l.length : Int) = 4 := by omega
    clear h4
    go_wp2
    go_loopw [4] (fun iv wr => ∃ i : Nat, iv = .int .i64 i ∧ i ≤ 4 ∧ Hid (∀ x : Nat, x < i → headOk (rd_T43 l x)) ∧ Hid (Below W.heap.size W wr)) (fun i _ => 4 - (intOf i).toNat)
    case atStart => exact ⟨0, rfl, by omega, fun x h => absurd h (Nat.not_lt_zero _), Below.refl _ _⟩
    case round =>
      obtain ⟨i, rfl, hi, HI, HB⟩ := hrel
      by_cases hlt : i < 4
      · obtain ⟨ad, A4, c4, rfl, y0, y1, y2, y3, y4, _, _⟩ := at_T43 (Kd.C_below HC.out HB.out) i (by omega) (by omega)
        simp only [Int.toNat_natCast] at y0 y1 y2 y3 y4
        have hbad : ¬ headOk (rd_T43 l i) → ¬ (okBs l ∧ sameBs l) := fun h => okBs_iff fun h2 => h (h2.2.1 i hlt)
        obtain ⟨v, hv⟩ : ∃ v, v = rd_T43 l i := ⟨_, rfl⟩
        rw [← hv] at y0 y1 y2 y3 y4 hbad
        have hli : (i : Int) < (l.length : Int) := by omega
        by_cases e0 : v.f0 = 3
        · have e0' : (v.f0 != 3) = false := by rw [bne_eq_false_iff_eq]; exact e0
          by_cases e1 : v.f1 < -1048576
          · have HBAD := Lib.hid (hbad fun h => by have := h.2.1.1; omega)
            have e1' := decide_eq_true e1
            clear hbad hv e0 e1
            go_wp2
            go_ret2
            exact back_bad HBAD.out HB.out
          · have e1' := decide_eq_false e1
            by_cases e2 : 1048576 < v.f1
            · have HBAD := Lib.hid (hbad fun h => by have := h.2.1.2; omega)
              have e2' := decide_eq_true e2
              clear hbad hv e0 e1 e2
              go_wp2
              go_ret2
              exact back_bad HBAD.out HB.out
            · have e2' := decide_eq_false e2
              by_cases e3 : v.f2 < -1048576
              · have HBAD := Lib.hid (hbad fun h => by have := h.2.2.1; omega)
                have e3' := decide_eq_true e3
                clear hbad hv e0 e1 e2 e3
                go_wp2
                go_ret2
                exact back_bad HBAD.out HB.out
              · have e3' := decide_eq_false e3
                by_cases e4 : 1048576 < v.f2
                · have HBAD := Lib.hid (hbad fun h => by have := h.2.2.2; omega)
                  have e4' := decide_eq_true e4
                  clear hbad hv e0 e1 e2 e3 e4
                  go_wp2
                  go_ret2
                  exact back_bad HBAD.out HB.out
                · have e4' := decide_eq_false e4
                  have HN := Lib.hid (show ∀ x : Nat, x < i + 1 → headOk (rd_T43 l x) from fun x hx => by
                    by_cases h : x = i
                    · subst h; rw [← hv]; exact ⟨e0, ⟨by omega, by omega⟩, ⟨by omega, by omega⟩⟩
                    · exact HI.out x (by omega))
                  clear hbad hv e0 e1 e2 e3 e4
                  go_wp2
                  go_roundw
                  case rel => exact ⟨i + 1, by simp, hlt, HN.out, HB.out⟩
                  case measure => simp [intOf]; omega
        · have e0' : (v.f0 != 3) = true := by rw [bne_iff_ne]; exact e0
          have HBAD := Lib.hid (hbad fun h => e0 h.1)
          clear hbad hv e0
          go_wp2
          go_ret2
          exact back_bad HBAD.out HB.out
      · have hi4 : i = 4 := by omega
        subst hi4
        have HH := Lib.hid HI.out
        obtain ⟨ad, A4, c4, rfl, _, y0, _, _, _, _, _⟩ := at_T43 (Kd.C_below HC.out HB.out) (0 : Nat) (by omega) (by omega)
        obtain ⟨ad1, A41, c41, hd1, _, y1, y3, _, _, _, _⟩ := at_T43 (Kd.C_below HC.out HB.out) (1 : Nat) (by omega) (by omega)
        cases hd1
        obtain ⟨ad1, A42, c42, hd1, _, y2, _, _, _, _, _⟩ := at_T43 (Kd.C_below HC.out HB.out) (2 : Nat) (by omega) (by omega)
        cases hd1
        have b0 := (HI.out 0 (by decide)).2.1
        have b1 := (HI.out 1 (by decide)).2.1
        have b2 := (HI.out 2 (by decide)).2.1
        have b3 := (HI.out 1 (by decide)).2.2
        have hsolve : solveL l = [(((rd_T43 l (0 : Nat)).f1 + (rd_T43 l (2 : Nat)).f1).tdiv 2 + (rd_T43 l (1 : Nat)).f1).tdiv 2, (((rd_T43 l (0 : Nat)).f1 - (rd_T43 l (2 : Nat)).f1).tdiv 2 + (rd_T43 l (1 : Nat)).f2).tdiv 2, (((rd_T43 l (0 : Nat)).f1 + (rd_T43 l (2 : Nat)).f1).tdiv 2 - (rd_T43 l (1 : Nat)).f1).tdiv 2, (((rd_T43 l (0 : Nat)).f1 - (rd_T43 l (2 : Nat)).f1).tdiv 2 - (rd_T43 l (1 : Nat)).f2).tdiv 2] := rfl
        simp only [Int.toNat_natCast, Nat.zero_mul, Nat.one_mul, show 2 * 5 = 10 from rfl, Addr.add_zero'] at y0 y1 y2 y3
        obtain ⟨x0, hx0⟩ : ∃ x, x = (rd_T43 l (0 : Nat)).f1 := ⟨_, rfl⟩
        obtain ⟨x1, hx1⟩ : ∃ x, x = (rd_T43 l (1 : Nat)).f1 := ⟨_, rfl⟩
        obtain ⟨x2, hx2⟩ : ∃ x, x = (rd_T43 l (2 : Nat)).f1 := ⟨_, rfl⟩
        obtain ⟨t1, ht1⟩ : ∃ x, x = (rd_T43 l (1 : Nat)).f2 := ⟨_, rfl⟩
        rw [← hx0] at y0 b0 hsolve
        rw [← hx1] at y1 b1 hsolve
        rw [← hx2] at y2 b2 hsolve
        rw [← ht1] at y3 b3 hsolve
        obtain ⟨ev, od, eh, oh, s1, s2, s3, s4, c0, c1, c2, c3, w1, w2, w3, w4, q5, q6, q7, q8, v1, v2, v3, v4, hcc⟩ := solve_wrap b0 b1 b2 b3
        rw [← hcc] at hsolve
        have HSV := Lib.hid hsolve
        have h0l : (0 : Int) < (l.length : Int) := by omega
        have h1l : (1 : Int) < (l.length : Int) := by omega
        have h2l : (2 : Int) < (l.length : Int) := by omega
        have h3l : (3 : Int) < (l.length : Int) := by omega
        have HBB := Lib.hid HB.out
        rw [show ((4 : Nat) : Int) = 4 from rfl]
        clear b0 b1 b2 b3 hx0 hx1 hx2 ht1 hcc hsolve hlt hi HI HB
        replace y1 : wr.cell? ⟨ad.block, ad.off + 5 + 1, none⟩ = some (.int .i64 x1) := y1
        replace y2 : wr.cell? ⟨ad.block, ad.off + 10 + 1, none⟩ = some (.int .i64 x2) := y2
        replace y3 : wr.cell? ⟨ad.block, ad.off + 5 + 2, none⟩ = some (.int .i64 t1) := y3
        go_wp2
        go_quiet (fail)
        obtain ⟨wq, hwq⟩ : ∃ w, w = wr.drewN nq := ⟨_, rfl⟩
        have hbwq : Below wr.heap.size wr wq := by rw [hwq]; exact pw_below_drewN (Below.refl _ _) _
        try rw [← hwq]
        replace y0 := pw_cell_below hbwq y0
        replace y1 := pw_cell_below hbwq y1
        replace y2 := pw_cell_below hbwq y2
        replace y3 := pw_cell_below hbwq y3
        replace HBB := Lib.hid (HBB.out.trans (hbwq.mono HBB.out.size))
        clear hwq hbwq
        go_wp2
        go_quiet (fail)
        obtain ⟨wz, hwz⟩ : ∃ w, w = wq.drewN nq := ⟨_, rfl⟩
        have hbwz : Below wq.heap.size wq wz := by rw [hwz]; exact pw_below_drewN (Below.refl _ _) _
        try rw [← hwz]
        replace y0 := pw_cell_below hbwz y0
        replace y1 := pw_cell_below hbwz y1
        replace y2 := pw_cell_below hbwz y2
        replace y3 := pw_cell_below hbwz y3
        replace HBB := Lib.hid (HBB.out.trans (hbwz.mono HBB.out.size))
        clear hwz hbwz
        go_wp2
        refine wp_region_held_drew (S := (fun w => w.cell? ⟨ad.block, ad.off + 1, none⟩ = some (.int .i64 x0) ∧ w.cell? ⟨ad.block, ad.off + 10 + 1, none⟩ = some (.int .i64 x2) ∧ w.cell? ⟨ad.block, ad.off + 5 + 1, none⟩ = some (.int .i64 x1) ∧ w.cell? ⟨ad.block, ad.off + 5 + 2, none⟩ = some (.int .i64 t1))) (by kernel_rfl) ?_ (fun hHeld => ?_)
        · exact ⟨y0, y2, y1, y3⟩
        refine runH 0 (v := ?v0) rfl (by kernel_rfl) (fun _ _ _ h => h) (by assumption) (by rfl) ?y0 ?r0
        case y0 => (intro w hSw; (try dsimp only at hSw); go_simp; try with_reducible rfl)
        try simp only [Act.put, List.setIfInBounds_toArray, List.set_cons_zero, List.set_cons_succ]
        refine runH 1 (v := ?v1) rfl (by kernel_rfl) (fun _ _ _ h => h) (by assumption) (by rfl) ?y1 ?r1
        case y1 => (intro w hSw; (try dsimp only at hSw); go_simp; try with_reducible rfl)
        try simp only [Act.put, List.setIfInBounds_toArray, List.set_cons_zero, List.set_cons_succ]
        refine runH 2 (v := ?v2) rfl (by kernel_rfl) (fun _ _ _ h => h) (by assumption) (by rfl) ?y2 ?r2
        case y2 => (intro w hSw; (try dsimp only at hSw); go_simp; try with_reducible rfl)
        try simp only [Act.put, List.setIfInBounds_toArray, List.set_cons_zero, List.set_cons_succ]
        refine runH 3 (v := ?v3) rfl (by kernel_rfl) (fun _ _ _ h => h) (by assumption) (by rfl) ?y3 ?r3
        case y3 => (intro w hSw; (try dsimp only at hSw); go_simp; try with_reducible rfl)
        try simp only [Act.put, List.setIfInBounds_toArray, List.set_cons_zero, List.set_cons_succ]
        refine runH 4 (v := ?v4) rfl (by kernel_rfl) (fun _ _ _ h => h) (by assumption) (by rfl) ?y4 ?r4
        case y4 => (intro w hSw; (try dsimp only at hSw); go_simp; try with_reducible rfl)
        try simp only [Act.put, List.setIfInBounds_toArray, List.set_cons_zero, List.set_cons_succ]
        refine runH 5 (v := ?v5) rfl (by kernel_rfl) (fun _ _ _ h => h) (by assumption) (by rfl) ?y5 ?r5
        case y5 => (intro w hSw; (try dsimp only at hSw); go_simp; try with_reducible rfl)
        try simp only [Act.put, List.setIfInBounds_toArray, List.set_cons_zero, List.set_cons_succ]
        refine runH 6 (v := ?v6) rfl (by kernel_rfl) (fun _ _ _ h => h) (by assumption) (by rfl) ?y6 ?r6
        case y6 => (intro w hSw; (try dsimp only at hSw); go_simp; try with_reducible rfl)
        try simp only [Act.put, List.setIfInBounds_toArray, List.set_cons_zero, List.set_cons_succ]
        refine runH 7 (v := ?v7) rfl (by kernel_rfl) (fun _ _ _ h => h) (by assumption) (by rfl) ?y7 ?r7
        case y7 => (intro w hSw; (try dsimp only at hSw); go_simp; try with_reducible rfl)
        try simp only [Act.put, List.setIfInBounds_toArray, List.set_cons_zero, List.set_cons_succ]
        refine runH 8 (v := ?v8) rfl (by kernel_rfl) (fun _ _ _ h => h) (by assumption) (by rfl) ?y8 ?r8
        case y8 => (intro w hSw; (try dsimp only at hSw); go_simp; try with_reducible rfl)
        try simp only [Act.put, List.setIfInBounds_toArray, List.set_cons_zero, List.set_cons_succ]
        refine runH 9 (v := ?v9) rfl (by kernel_rfl) (fun _ _ _ h => h) (by assumption) (by rfl) ?y9 ?r9
        case y9 => (intro w hSw; (try dsimp only at hSw); go_simp; try with_reducible rfl)
        try simp only [Act.put, List.setIfInBounds_toArray, List.set_cons_zero, List.set_cons_succ]
        refine runH 10 (v := ?v10) rfl (by kernel_rfl) (fun _ _ _ h => h) (by assumption) (by rfl) ?y10 ?r10
        case y10 => (intro w hSw; (try dsimp only at hSw); go_simp; try with_reducible rfl)
        try simp only [Act.put, List.setIfInBounds_toArray, List.set_cons_zero, List.set_cons_succ]
        refine runH 11 (v := ?v11) rfl (by kernel_rfl) (fun _ _ _ h => h) (by assumption) (by rfl) ?y11 ?r11
        case y11 => (intro w hSw; (try dsimp only at hSw); go_simp; try with_reducible rfl)
        try simp only [Act.put, List.setIfInBounds_toArray, List.set_cons_zero, List.set_cons_succ]
        refine runH 12 (v := ?v12) rfl (by kernel_rfl) (fun _ _ _ h => h) (by assumption) (by rfl) ?y12 ?r12
        case y12 => (intro w hSw; (try dsimp only at hSw); go_simp; try with_reducible rfl)
        try simp only [Act.put, List.setIfInBounds_toArray, List.set_cons_zero, List.set_cons_succ]
        refine runH 13 (v := ?v13) rfl (by kernel_rfl) (fun _ _ _ h => h) (by assumption) (by rfl) ?y13 ?r13
        case y13 => (intro w hSw; (try dsimp only at hSw); go_simp; try with_reducible rfl)
        try simp only [Act.put, List.setIfInBounds_toArray, List.set_cons_zero, List.set_cons_succ]
        refine runH 14 (v := ?v14) rfl (by kernel_rfl) (fun _ _ _ h => h) (by assumption) (by rfl) ?y14 ?r14
        case y14 => (intro w hSw; (try dsimp only at hSw); go_simp; try with_reducible rfl)
        try simp only [Act.put, List.setIfInBounds_toArray, List.set_cons_zero, List.set_cons_succ]
        refine runH 15 (v := ?v15) rfl (by kernel_rfl) (fun _ _ _ h => h) (by assumption) (by rfl) ?y15 ?r15
        case y15 => (intro w hSw; (try dsimp only at hSw); go_simp; try with_reducible rfl)
        try simp only [Act.put, List.setIfInBounds_toArray, List.set_cons_zero, List.set_cons_succ]
        refine runH 16 (v := ?v16) rfl (by kernel_rfl) (fun _ _ _ h => h) (by assumption) (by rfl) ?y16 ?r16
        case y16 => (intro w hSw; (try dsimp only at hSw); go_simp; try with_reducible rfl)
        try simp only [Act.put, List.setIfInBounds_toArray, List.set_cons_zero, List.set_cons_succ]
        refine runH 17 (v := ?v17) rfl (by kernel_rfl) (fun _ _ _ h => h) (by assumption) (by rfl) ?y17 ?r17
        case y17 => (intro w hSw; (try dsimp only at hSw); go_simp; try with_reducible rfl)
        try simp only [Act.put, List.setIfInBounds_toArray, List.set_cons_zero, List.set_cons_succ]
        refine runH 18 (v := ?v18) rfl (by kernel_rfl) (fun _ _ _ h => h) (by assumption) (by rfl) ?y18 ?r18
        case y18 => (intro w hSw; (try dsimp only at hSw); go_simp; try with_reducible rfl)
        try simp only [Act.put, List.setIfInBounds_toArray, List.set_cons_zero, List.set_cons_succ]
        refine runH 19 (v := ?v19) rfl (by kernel_rfl) (fun _ _ _ h => h) (by assumption) (by rfl) ?y19 ?r19
        case y19 => (intro w hSw; (try dsimp only at hSw); go_simp; try with_reducible rfl)
        try simp only [Act.put, List.setIfInBounds_toArray, List.set_cons_zero, List.set_cons_succ]
        refine runH 20 (v := ?v20) rfl (by kernel_rfl) (fun _ _ _ h => h) (by assumption) (by rfl) ?y20 ?r20
        case y20 => (intro w hSw; (try dsimp only at hSw); go_simp; try with_reducible rfl)
        try simp only [Act.put, List.setIfInBounds_toArray, List.set_cons_zero, List.set_cons_succ]
        refine runH 21 (v := ?v21) rfl (by kernel_rfl) (fun _ _ _ h => h) (by assumption) (by rfl) ?y21 ?r21
        case y21 => (intro w hSw; (try dsimp only at hSw); go_simp; try with_reducible rfl)
        try simp only [Act.put, List.setIfInBounds_toArray, List.set_cons_zero, List.set_cons_succ]
        refine runH 22 (v := ?v22) rfl (by kernel_rfl) (fun _ _ _ h => h) (by assumption) (by rfl) ?y22 ?r22
        case y22 => (intro w hSw; (try dsimp only at hSw); go_simp; try with_reducible rfl)
        try simp only [Act.put, List.setIfInBounds_toArray, List.set_cons_zero, List.set_cons_succ]
        refine runH 23 (v := ?v23) rfl (by kernel_rfl) (fun _ _ _ h => h) (by assumption) (by rfl) ?y23 ?r23
        case y23 => (intro w hSw; (try dsimp only at hSw); go_simp; try with_reducible rfl)
        try simp only [Act.put, List.setIfInBounds_toArray, List.set_cons_zero, List.set_cons_succ]
        refine runH 24 (v := ?v24) rfl (by kernel_rfl) (fun _ _ _ h => h) (by assumption) (by rfl) ?y24 ?r24
        case y24 => (intro w hSw; (try dsimp only at hSw); go_simp; try with_reducible rfl)
        try simp only [Act.put, List.setIfInBounds_toArray, List.set_cons_zero, List.set_cons_succ]
        refine runH 25 (v := ?v25) rfl (by kernel_rfl) (fun _ _ _ h => h) (by assumption) (by rfl) ?y25 ?r25
        case y25 => (intro w hSw; (try dsimp only at hSw); go_simp; try with_reducible rfl)
        try simp only [Act.put, List.setIfInBounds_toArray, List.set_cons_zero, List.set_cons_succ]
        refine runH 26 (v := ?v26) rfl (by kernel_rfl) (fun _ _ _ h => h) (by assumption) (by rfl) ?y26 ?r26
        case y26 => (intro w hSw; (try dsimp only at hSw); go_simp; try with_reducible rfl)
        try simp only [Act.put, List.setIfInBounds_toArray, List.set_cons_zero, List.set_cons_succ]
        refine runH 27 (v := ?v27) rfl (by kernel_rfl) (fun _ _ _ h => h) (by assumption) (by rfl) ?y27 ?r27
        case y27 => (intro w hSw; (try dsimp only at hSw); go_simp; try with_reducible rfl)
        try simp only [Act.put, List.setIfInBounds_toArray, List.set_cons_zero, List.set_cons_succ]
        refine runH 28 (v := ?v28) rfl (by kernel_rfl) (fun _ _ _ h => h) (by assumption) (by rfl) ?y28 ?r28
        case y28 => (intro w hSw; (try dsimp only at hSw); go_simp; try with_reducible rfl)
        try simp only [Act.put, List.setIfInBounds_toArray, List.set_cons_zero, List.set_cons_succ]
        refine runH 29 (v := ?v29) rfl (by kernel_rfl) (fun _ _ _ h => h) (by assumption) (by rfl) ?y29 ?r29
        case y29 => (intro w hSw; (try dsimp only at hSw); go_simp; try with_reducible rfl)
        try simp only [Act.put, List.setIfInBounds_toArray, List.set_cons_zero, List.set_cons_succ]
        refine runH 30 (v := ?v30) rfl (by kernel_rfl) (fun _ _ _ h => h) (by assumption) (by rfl) ?y30 ?r30
        case y30 => (intro w hSw; (try dsimp only at hSw); go_simp; try with_reducible rfl)
        try simp only [Act.put, List.setIfInBounds_toArray, List.set_cons_zero, List.set_cons_succ]
        refine runH 31 (v := ?v31) rfl (by kernel_rfl) (fun _ _ _ h => h) (by assumption) (by rfl) ?y31 ?r31
        case y31 => (intro w hSw; (try dsimp only at hSw); go_simp; try with_reducible rfl)
        try simp only [Act.put, List.setIfInBounds_toArray, List.set_cons_zero, List.set_cons_succ]
        refine wpAnyH_ready (rs := [32]) (by kernel_rfl) (by simp) ?_
        refine AllReadyH.cons rfl (fun K hK => ?_) AllReadyH.nil
        go_simp
        have hkb : Below wz.heap.size wz ((wz.alloc (.cells #[.int .i64 c0, .int .i64 c1, .int .i64 c2, .int .i64 c3] 3)).drew) := below_drew (below_alloc (Below.refl _ _) _)
        refine hK.out _ _ ?_ (fun hHeld2 => ?_)
        · exact ⟨pw_cell_below hkb y0, pw_cell_below hkb y2, pw_cell_below hkb y1, pw_cell_below hkb y3⟩
        clear hK K hHeld
        rename _ => hHeld
        try simp only [Act.put, List.setIfInBounds_toArray, List.set_cons_zero, List.set_cons_succ]
        refine runH 33 (v := ?v33) rfl (by kernel_rfl) (fun _ _ _ h => h) (by assumption) (by rfl) ?y33 ?r33
        case y33 => (intro w hSw; (try dsimp only at hSw); go_simp; try with_reducible rfl)
        try simp only [Act.put, List.setIfInBounds_toArray, List.set_cons_zero, List.set_cons_succ]
        refine wpAnyH_done (by kernel_rfl) ?_ _
        obtain ⟨w5, hw5⟩ : ∃ w, w = (wz.alloc (.cells #[.int .i64 c0, .int .i64 c1, .int .i64 c2, .int .i64 c3] 3)).drew := ⟨_, rfl⟩
        have HR5 := Lib.hid (show IntR w5 wz.heap.size [c0, c1, c2, c3] from by rw [hw5]; exact heap_alloc_new wz _)
        rw [← hw5] at hkb ⊢
        have HB5 := Lib.hid (HBB.out.trans (hkb.mono HBB.out.size))
        have HSU := Lib.hid (RSums_any w5 [c0, c1, c2, c3] (some ⟨wz.heap.size, 0, none⟩) 4 (HR5.out.C (by simp)) (by simp))
        rw [← HSV.out] at HSU HR5
        unfold SumsP at HSU
        clear hw5 hkb HSV y0 y1 y2 y3 w1 w2 w3 w4 q5 q6 q7 q8 v1 v2 v3 v4
        go_wp2_with fail
        refine HSU.out.mono ?_
        rintro e w6 ⟨hw6, ⟨hno, rfl⟩ | ⟨hok, v6, rfl, hv6⟩⟩
        · have HBAD := Lib.hid (okBs_iff (l := l) fun h => hno h.2.2.1)
          have HB6 := Lib.hid (HB5.out.trans (hw6.mono HB5.out.size))
          clear hw6 hno HSU
          go_wp2
          go_ret2
          exact back_bad HBAD.out HB6.out
        · obtain ⟨A7, k7, rfl, hlk7, hC7⟩ := Kd.R_reads hv6
          have hl7 : (sumL (solveL l) 4).length = 4 := by simp [sumL]
          have HC7 := Lib.hid hC7
          have HOK := Lib.hid hok
          have HB6 := Lib.hid (HB5.out.trans (hw6.mono HB5.out.size))
          have HR6 := Lib.hid (show IntR w6 wz.heap.size (solveL l) from (hw6.block _ (blk_lt HR5.out)).trans HR5.out)
          have HWZ := Lib.hid (show W.heap.size ≤ wz.heap.size from HBB.out.size)
          rw [hl7] at HC7 ⊢
          clear hw6 hv6 hlk7 hC7 hok HSU HR5 hl7
          go_wp2
          go_loopw [10] (fun iv wr => ∃ i : Nat, iv = .int .i64 i ∧ i ≤ 4 ∧ Hid (∀ x : Nat, x < i → tailOk l x) ∧ Hid (Below w6.heap.size w6 wr)) (fun i _ => 4 - (intOf i).toNat)
          case atStart => exact ⟨0, rfl, by omega, fun x h => absurd h (Nat.not_lt_zero _), Below.refl _ _⟩
          case round =>
            obtain ⟨i, rfl, hi, HI, HB⟩ := hrel
            by_cases hlt : i < 4
            · have hb7 : Below W.heap.size W wr := HB6.out.trans (HB.out.mono HB6.out.size)
              obtain ⟨ae, A4, c4, rfl, _, z1, z2, _, _, _, _⟩ := at_T43 (Kd.C_below HC7.out HB.out) i (by omega) (by omega)
              obtain ⟨ad1, A4, c4, hd1, _, y1, y2, y3, y4, _, _⟩ := at_T43 (Kd.C_below HC.out hb7) i (by omega) (by omega)
              cases hd1
              simp only [Int.toNat_natCast] at z1 z2 y1 y2 y3 y4
              rw [show rd_T43 (sumL (solveL l) 4) (i : Int) = sumV (solveL l) i from by
                rcases (by omega : i = 0 ∨ i = 1 ∨ i = 2 ∨ i = 3) with rfl | rfl | rfl | rfl <;> rfl] at z1 z2
              unfold sumV gaussV at z1 z2
              simp only at z1 z2
              have hbad : ¬ tailOk l i → ¬ (okBs l ∧ sameBs l) := fun h => okBs_iff fun h2 => h (h2.2.2.2 i hlt)
              unfold tailOk at hbad
              obtain ⟨v, hv⟩ : ∃ v, v = rd_T43 l i := ⟨_, rfl⟩
              obtain ⟨sa, hsa⟩ : ∃ v, v = (sumJ (solveL l) i 4).1 := ⟨_, rfl⟩
              obtain ⟨sb, hsb⟩ : ∃ v, v = (sumJ (solveL l) i 4).2 := ⟨_, rfl⟩
              rw [← hsa] at z1 hbad
              rw [← hsb] at z2 hbad
              rw [← hv] at y1 y2 y3 y4 hbad
              have hli : (i : Int) < (l.length : Int) := by omega
              have HB8 := Lib.hid hb7
              try rw [decide_eq_true (show (i : Int) < 4 by omega)]
              clear hb7
              by_cases e1 : sa = v.f1
              · have e1' : (sa != v.f1) = false := by rw [bne_eq_false_iff_eq]; exact e1
                by_cases e2 : sb = v.f2
                · have e2' : (sb != v.f2) = false := by rw [bne_eq_false_iff_eq]; exact e2
                  by_cases e3 : v.f3 = ⟨#[]⟩
                  · by_cases e4 : v.f4 = []
                    · have HN := Lib.hid (show ∀ x : Nat, x < i + 1 → tailOk l x from fun x hx => by
                        by_cases h : x = i
                        · subst h; unfold tailOk; rw [← hv, ← hsa, ← hsb]; exact ⟨e1, e2, e3, e4⟩
                        · exact HI.out x (by omega))
                      rw [e3] at y3
                      rw [e4, show ([] : List S43).length = 0 from rfl] at y4
                      clear hbad hv hsa hsb e1 e2 e3 e4
                      go_wp2
                      go_quiet (fail)
                      go_wp2
                      go_roundw
                      case rel => exact ⟨i + 1, by simp, hlt, HN.out, pw_below_drewN HB.out _⟩
                      case measure => simp [intOf]; omega
                    · have e4' : decide (0 < (v.f4.length : Int)) = true := decide_eq_true (by have := List.length_pos_iff.2 e4; omega)
                      have e4'' : decide (0 < v.f4.length) = true := decide_eq_true (List.length_pos_iff.2 e4)
                      have HBAD := Lib.hid (hbad fun h => e4 h.2.2.2)
                      rw [e3] at y3
                      clear hbad hv hsa hsb e1 e2 e3 e4
                      go_wp2
                      go_quiet (fail)
                      go_wp2
                      go_ret2
                      exact back_bad HBAD.out (pw_below_drewN HB8.out _)
                  · have e3' : (v.f3.toList != []) = true := by
                      rw [bne_iff_ne]; intro h; apply e3
                      rw [ByteArray.toList_eq] at h
                      obtain ⟨k, i, m, ⟨⟨d⟩⟩, q⟩ := v
                      simp only at h
                      subst h; rfl
                    have e3a : ¬ v.f3.toList = [] := by rw [bne_iff_ne] at e3'; exact e3'
                    have e3b : (v.f3.toList == []) = false := by rw [beq_eq_false_iff_ne]; exact e3a
                    have e3c : v.f3.toList.isEmpty = false := by rw [List.isEmpty_eq_false_iff]; exact e3a
                    have e3d : (v.f3.toList = []) = False := eq_false e3a
                    have HBAD := Lib.hid (hbad fun h => e3 h.2.2.1)
                    clear hbad hv hsa hsb e1 e2 e3
                    go_wp2
                    go_quiet (fail)
                    go_wp2
                    go_ret2
                    exact back_bad HBAD.out (pw_below_drewN HB8.out _)
                · have e2' : (sb != v.f2) = true := by rw [bne_iff_ne]; exact e2
                  have HBAD := Lib.hid (hbad fun h => e2 h.2.1)
                  clear hbad hv hsa hsb e1 e2
                  go_wp2
                  go_quiet (fail)
                  go_wp2
                  go_ret2
                  exact back_bad HBAD.out (pw_below_drewN HB8.out _)
              · have e1' : (sa != v.f1) = true := by rw [bne_iff_ne]; exact e1
                have HBAD := Lib.hid (hbad fun h => e1 h.1)
                clear hbad hv hsa hsb e1
                go_wp2
                go_quiet (fail)
                go_wp2
                go_ret2
                exact back_bad HBAD.out (pw_below_drewN HB8.out _)
            · have hi4 : i = 4 := by omega
              subst hi4
              have HYES := Lib.hid ((back_iff l).2 ⟨H4.out, HH.out, HOK.out, HI.out⟩)
              have HB8 := Lib.hid (HB6.out.trans (HB.out.mono HB6.out.size))
              have HR8 := Lib.hid (show IntR wr wz.heap.size (solveL l) from (HB.out.block _ (blk_lt HR6.out)).trans HR6.out)
              rw [show ((4 : Nat) : Int) = 4 from rfl]
              clear hlt hi HI HB
              go_wp2
              go_ret2
              exact ⟨HB8.out, .inr ⟨HYES.out.1, HYES.out.2, _, rfl, by rw [← back_solve HYES.out]; exact HR8.out.R HWZ.out trivial (show (4 : Nat) ≤ maxLen by decide)⟩⟩
  · have h4' : ((l.length : Int) != 4) = true := by rw [bne_iff_ne]; omega
    have HBAD := Lib.hid (show ¬ (okBs l ∧ sameBs l) from fun h => h4 h.1.1)
    clear h4
    go_wp2
    go_ret2
    exact back_bad HBAD.out (Below.refl _ _)
end Go.Proofs.Ytofinglgnkdflaa
end

section
namespace Go.Proofs.Ytofinglgnkdflaa
open Go.RowKit
open Go.Proofs.Ytofinglgnkdflaa.PHistoryChecks Go.Proofs.YtofinglgnkdflaaW.PrintWords Go.Proofs.YtofinglgnkdflaaW.PrintLast Go.Proofs.YtofinglgnkdflaaW.PrintMore
set_option linter.unusedVariables false
set_option linter.unusedSimpArgs false

/-- What Back answers, as a row and a code. -/
theorem back_x (l : List S43) : ∃ (X : List Int) (k : Int), ∀ W e w', BackP l W e w' → ∃ A c, e = .returned (.tuple #[.slice A X.length c, .int .i64 k]) ∧ (Kd.int .i64).C w' A X.length X ∧ Below W.heap.size W w' := by
  by_cases h : okBs l ∧ sameBs l
  · refine ⟨backL l 4, 0, fun W e w' hb => ?_⟩
    obtain ⟨hw, ⟨h1, _⟩ | ⟨_, _, v, he, hr⟩⟩ := hb
    · exact absurd h h1
    · obtain ⟨A, c, rfl, _, hC⟩ := Kd.R_reads hr
      exact ⟨A, c, he, hC, hw⟩
  · refine ⟨[], 260, fun W e w' hb => ?_⟩
    obtain ⟨hw, ⟨_, he⟩ | ⟨h1, h2, _⟩⟩ := hb
    · exact ⟨none, 0, he, Kd.C_nil _ _, hw⟩
    · exact absurd ⟨h1, h2⟩ h
theorem sumL_ok (c : List Int) : ∀ x ∈ sumL c 4, okT x := by
  intro x hx
  unfold sumL at hx
  obtain ⟨i, _, rfl⟩ := List.mem_map.1 hx
  exact ⟨by decide, trivial⟩
theorem beq_self_int (l : List Int) : (l == l) = true := by simp
set_option maxHeartbeats 8000000 in
set_option maxRecDepth 100000 in
theorem back_law (W : World) (l : List S43) (A1 : Option Addr) (c1 : Nat) (c : List Int) (A2 : Option Addr) (c2 : Nat) (hC1 : Kd.C k43 W A1 l.length l) (hc1 : l.length ≤ c1) (hT : ∀ x ∈ l, okT x) (hC2 : (Kd.int .i64).C W A2 c.length c) (hc2 : c.length ≤ c2) :
    Calls Try.prog 10 #[.slice A1 l.length c1, .slice A2 c.length c2] W (fun e w' => e = .returned (.bool true) ∧ Below W.heap.size W w') := by
  obtain ⟨X, kx, hX⟩ := back_x l
  have HX := Lib.hid hX
  have HBA := Lib.hid (Back_any W l A1 c1 hC1 hc1 hT)
  have HRB := Lib.hid (fun W1 (h : Below W.heap.size W W1) => RBack_any W1 l A1 c1 (Kd.C_below hC1 h) hc1)
  have HSU := Lib.hid (fun W1 (h : Below W.heap.size W W1) => Sums_any W1 c A2 c2 (Kd.C_below hC2 h) hc2)
  have HC2 := Lib.hid hC2
  clear hX hC1 hc1 hT hC2 hc2
  go_enter Try.func10, Try.ntmps10
  go_wp2_with fail
  refine HBA.out.mono ?_
  rintro e w1 h1
  obtain ⟨A3, k3, rfl, hCa, hw⟩ := HX.out _ _ _ h1
  have HB := Lib.hid hw
  have HCa := Lib.hid hCa
  replace HC2 := Lib.hid (Kd.C_below HC2.out hw)
  clear h1 hCa hw HBA
  go_wp2_with fail
  refine (HRB.out _ HB.out).mono ?_
  rintro e w2 h1
  obtain ⟨A4, k4, rfl, hCb, hw⟩ := HX.out _ _ _ h1
  have HCb := Lib.hid hCb
  replace HB := Lib.hid (HB.out.trans (hw.mono HB.out.size))
  replace HCa := Lib.hid (Kd.C_below HCa.out hw)
  replace HC2 := Lib.hid (Kd.C_below HC2.out hw)
  clear hw
  clear h1 hCb HX HRB
  go_wp2_with fail
  refine (num_any _ _).mono ?_
  rintro e w3 ⟨rfl, hw⟩
  replace HB := Lib.hid (HB.out.trans (hw.mono HB.out.size))
  replace HCa := Lib.hid (Kd.C_below HCa.out hw)
  replace HC2 := Lib.hid (Kd.C_below HC2.out hw)
  replace HCb := Lib.hid (Kd.C_below HCb.out hw)
  clear hw
  have HIN := Lib.hid (Ints_any X X A3 A4 k3 k4 w3 HCa.out HCb.out)
  rw [beq_self_int] at HIN
  go_wp2_with fail
  refine HIN.out.mono ?_
  rintro e w4 ⟨rfl, hw⟩
  replace HB := Lib.hid (HB.out.trans (hw.mono HB.out.size))
  replace HC2 := Lib.hid (Kd.C_below HC2.out hw)
  clear hw
  clear HIN HCa HCb
  go_wp2_with fail
  refine (HSU.out _ HB.out).mono ?_
  rintro e w5 ⟨hw, ⟨hno, rfl⟩ | ⟨hok, v5, rfl, hv5⟩⟩
  · replace HB := Lib.hid (HB.out.trans (hw.mono HB.out.size))
    clear hw hno HSU
    go_wp2_with fail
    refine (num_any _ _).mono ?_
    rintro e w6 ⟨rfl, hw⟩
    replace HB := Lib.hid (HB.out.trans (hw.mono HB.out.size))
    clear hw
    go_wp2_with fail
    refine (alive_any _).mono ?_
    rintro e w7 ⟨rfl, hw⟩
    replace HB := Lib.hid (HB.out.trans (hw.mono HB.out.size))
    clear hw
    go_wp2
    go_ret
    exact ⟨rfl, HB.out⟩
  · obtain ⟨A5, k5, rfl, hk5, hC5⟩ := Kd.R_reads hv5
    have HC5 := Lib.hid hC5
    have HOK := Lib.hid (back_of_sums hok)
    have HK5 := Lib.hid hk5
    replace HB := Lib.hid (HB.out.trans (hw.mono HB.out.size))
    replace HC2 := Lib.hid (Kd.C_below HC2.out hw)
    clear hw hok HSU hv5 hk5 hC5
    go_wp2_with fail
    refine (num_any _ _).mono ?_
    rintro e w6 ⟨rfl, hw⟩
    replace HB := Lib.hid (HB.out.trans (hw.mono HB.out.size))
    replace HC2 := Lib.hid (Kd.C_below HC2.out hw)
    replace HC5 := Lib.hid (Kd.C_below HC5.out hw)
    clear hw
    have HBK := Lib.hid (Back_any w6 (sumL c 4) A5 k5 HC5.out HK5.out (sumL_ok c))
    go_wp2_with fail
    refine HBK.out.mono ?_
    rintro e w7 ⟨hw, ⟨hno, _⟩ | ⟨_, _, v7, rfl, hv7⟩⟩
    · exact absurd HOK.out.1 hno
    · rw [HOK.out.2] at hv7
      obtain ⟨A7, k7, rfl, hk7, hC7⟩ := Kd.R_reads hv7
      have HC7 := Lib.hid hC7
      clear hv7 hk7 hC7 HBK HC5 HK5 HOK
      replace HB := Lib.hid (HB.out.trans (hw.mono HB.out.size))
      replace HC2 := Lib.hid (Kd.C_below HC2.out hw)
      clear hw
      go_wp2_with fail
      refine (num_any _ _).mono ?_
      rintro e w8 ⟨rfl, hw⟩
      replace HB := Lib.hid (HB.out.trans (hw.mono HB.out.size))
      replace HC2 := Lib.hid (Kd.C_below HC2.out hw)
      replace HC7 := Lib.hid (Kd.C_below HC7.out hw)
      clear hw
      have HIN := Lib.hid (Ints_any c c A2 A7 c2 k7 w8 HC2.out HC7.out)
      rw [beq_self_int] at HIN
      go_wp2_with fail
      refine HIN.out.mono ?_
      rintro e w9 ⟨rfl, hw⟩
      replace HB := Lib.hid (HB.out.trans (hw.mono HB.out.size))
      clear hw
      clear HIN HC2 HC7
      go_wp2_with fail
      refine (alive_any _).mono ?_
      rintro e w10 ⟨rfl, hw⟩
      replace HB := Lib.hid (HB.out.trans (hw.mono HB.out.size))
      clear hw
      go_wp2
      go_ret
      exact ⟨rfl, HB.out⟩
end Go.Proofs.Ytofinglgnkdflaa
end

section
namespace Go.Proofs.Ytofinglgnkdflaa.shapeBack
open Go.ChangeShapes Go.WideShapes Go.ChangeAt Go.RowKit
set_option linter.unusedVariables false

theorem own : ownKnob Try.prog.godebug = none := by kernel_rfl
theorem laidOut : laidOutB Try.prog = true := by kernel_rfl
set_option maxRecDepth 100000 in
theorem contract (H : Type) (enc : TypeId × Value → H) (W : World) (base : Nat) (args : Array Value) (ds gs : List (DataW H)) (before : List MemPlace)
    (hval : ∀ (j : Nat) t v, Try.f10.params[j]? = some t → args[j]? = some v → Value.okWide Try.prog W .any base t v)
    (hW : DataW.Whole enc Try.prog Try.f10.params.toList Rows.shapeBackSpec.vars false W args.toList ds gs before) (hC : Rows.uptoSmall H (ds ++ gs) = true) :
    Calls Try.prog 10 args W fun e W' => ∃ v, e = .returned v ∧ Rows.shapeBackSpec.post enc Try.prog Try.f10 false true false false W args v W' := by
  have hW' := hW
  obtain ⟨p, q, hA0, hV, rfl, hfz, hnd⟩ := hW
  have hA : DataW.TrodAll enc Try.prog W 0 (fun _ => true) true Try.f10.params.toList args.toList ds p := hA0
  rw [Try.params10] at hA hval
  obtain ⟨v0, vs0, d0, ds0, p0, q0, hargs, rfl, rfl, h0, r0⟩ := trodAll_cons hA
  obtain ⟨v1, vs1, d1, ds1, p1, q1, rfl, rfl, rfl, h1, r1⟩ := trodAll_cons r0
  obtain ⟨rfl, rfl, rfl⟩ := trodAll_nil r1
  obtain rfl : args = #[v0, v1] := by
    cases args with
    | mk l => exact congrArg Array.mk hargs
  obtain ⟨rfl, rfl⟩ := trodVars_none hV
  obtain ⟨a0, len0, cap0, rfl⟩ := okWide_slice Try.underlying41 (hval 0 41 v0 rfl rfl)
  obtain ⟨a1, len1, cap1, rfl⟩ := okWide_slice Try.underlying68 (hval 1 68 v1 rfl rfl)
  clear hA0
  simp only [List.append_nil] at hW'
  have hlt : ∀ x ∈ p0 ++ p1, x.block < W.heap.size := fun x hx => by simpa using hW'.lt x (by simpa using hx)
  have hbulk : Rows.uptoBulkAll ([d0, d1] ++ ([] : List (DataW H))) ≤ 1048576 := of_decide_eq_true hC
  simp only [List.cons_append, List.nil_append, Rows.uptoBulkAll] at hbulk
  obtain ⟨l, rfl, hlc, hl, hok⟩ := trod_vals h0 (by omega)
  obtain ⟨c, rfl, hcc, hc⟩ := trod_ints h1
  refine (back_law W l a0 cap0 c a1 cap1 hl hlc (fun x hx => (hok x hx).1) hc hcc).mono fun e W' ⟨he, bel⟩ => ?_
  subst he
  exact ⟨_, rfl, _, _, _, [], _, [], hW', trodAll_mk1 (shut_bool Try.underlying4 _),
    trodAll_cons_mk (Below.trod laidOut (by kernel_rfl) (of_decide_eq_true (by kernel_rfl)) h0 bel (fun x hx => hlt x (List.mem_append_left _ hx)))
      (trodAll_cons_mk (Below.trod laidOut (by kernel_rfl) (of_decide_eq_true (by kernel_rfl)) h1 bel (fun x hx => hlt x (List.mem_append_right _ hx))) trodAll_mk0), rfl, bel.frame _, fun h => by cases h⟩

theorem reads (os : Os) {H : Type} (enc : TypeId × Value → H) : ∃ places, DataW.whole enc Try.prog ((World.holding Try.prog os ⟨#[], #[], []⟩).forCall (fun _ _ => 0) ⟨#[], #[.slice none 0 0, .slice none 0 0], []⟩).memory Try.f10.params.toList Rows.shapeBackSpec.vars false #[Value.slice none 0 0, .slice none 0 0].toList 8 = some ([.nil, .nil], [], places) :=
  ⟨[], by kernel_rfl⟩
theorem laid_met (os : Os) : laidMet Try.prog Rows.shapeBackUptoRow.laid ((World.holding Try.prog os ⟨#[], #[], []⟩).forCall (fun _ _ => 0) ⟨#[], #[.slice none 0 0, .slice none 0 0], []⟩).memory :=
  laidMet_of_run' 8 (by kernel_rfl) (by kernel_rfl)

set_option maxRecDepth 100000 in
theorem liftedUpto (os : Os) (started : os.Started) (H : Type) (enc : TypeId × Value → H) (F : Stop.Interp) :
    ReturnsInHanded {} Try.checked os 10 .any ((Rows.OpenSpec.upto Rows.shapeBackSpec).preRow enc Try.prog Try.f10 Rows.shapeBackUptoRow.domain false Rows.shapeBackUptoRow.laid) (((Rows.OpenSpec.upto Rows.shapeBackSpec).at F).post enc Try.prog Try.f10 false true false false) := by
  obtain ⟨places, hx⟩ := reads os enc
  refine returnsInHanded_of_row (C := Try.checked) (s := Rows.OpenSpec.upto Rows.shapeBackSpec) own started (by kernel_rfl) Try.func10
    (witness_row_at (enc := enc) (C := Try.checked) false (World.holding Try.prog os ⟨#[], #[], []⟩) #[.slice none 0 0, .slice none 0 0] rfl (by kernel_rfl) (by kernel_rfl) (by kernel_rfl)
      (OpenSpec.preRow_of_cond 8 hx (by kernel_rfl) (fun k hk => by cases hk; kernel_rfl) (by kernel_rfl) (laid_met os))) ?_
  intro W base args ds gs before hval hW _ hC _ hL _ _
  exact contract H enc W base args ds gs before hval hW (hC _ rfl)

theorem saidUpto : Rows.ShapeBackUptoSaid :=
  OpenClaim.holds_of_cond 10 Try.f10 rfl rfl rfl rfl rfl rfl rfl ⟨rfl, rfl, rfl, rfl, rfl⟩ rfl rfl rfl rfl rfl (by kernel_rfl) Try.func10 (by kernel_rfl)
    (of_decide_eq_true (by kernel_rfl)) (by unfold Func.isWrapper; first | (rw [if_pos (by decide +kernel)]; kernel_rfl) | (rw [if_neg (by decide +kernel)]; exact ⟨rfl, rfl⟩))
    (fun os started H enc _ F => by rw [OpenClaim.pre_eq_preRow]; exact liftedUpto os started H enc F)
end Go.Proofs.Ytofinglgnkdflaa.shapeBack
namespace Go.Proofs.Ytofinglgnkdflaa
theorem shapeBack_holds : Rows.ShapeBackUptoSaid := shapeBack.saidUpto
#print axioms shapeBack_holds
end Go.Proofs.Ytofinglgnkdflaa
end
