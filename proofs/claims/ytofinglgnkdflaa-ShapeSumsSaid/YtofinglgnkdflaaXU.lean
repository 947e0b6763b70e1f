/- ShapeSums: the law returns true for every row of counts; its argument reads as before. -/
import Derived.Test.YtofinglgnkdflaaXL
import Derived.Test.YtofinglgnkdflaaXQ
import Derived.Test.YtofinglgnkdflaaXR
import Derived.Test.YtofinglgnkdflaaRows
import Derived.Test.YtofinglgnkdflaaXT
import Derived.WalkKit
import Derived.ProofKit
import Derived.OpenShut
import Derived.ShutString
import Derived.ChangeOld
import Derived.Below
import Derived.SizedLaws
section
namespace Go.Proofs.Ytofinglgnkdflaa
open Go.RowKit
open Go.Proofs.Ytofinglgnkdflaa.PHistoryChecks Go.Proofs.YtofinglgnkdflaaW.PrintWords Go.Proofs.YtofinglgnkdflaaW.PrintLast Go.Proofs.YtofinglgnkdflaaW.PrintMore
set_option linter.unusedVariables false
set_option linter.unusedSimpArgs false

theorem w64r {n : Int} (h : -9223372036854775808 ≤ n ∧ n ≤ 9223372036854775807) : wrap64 n = n := by unfold wrap64; omega
set_option maxHeartbeats 8000000 in
set_option maxRecDepth 100000 in
theorem RSums_any (W : World) (c : List Int) (A : Option Addr) (k : Nat) (hC : (Kd.int .i64).C W A c.length c) (hk : c.length ≤ k) :
    Calls Try.prog 49 #[.slice A c.length k] W (SumsP c W) := by
  have hlm := Kd.C_max hC
  have HC := Lib.hid hC
  clear hC hk
  go_enter Try.func49, Try.ntmps49
  by_cases h4 : c.length = 4
  · have h4' : ((c.length : Int) != 4) = false := by rw [bne_eq_false_iff_eq]; omega
    have H4 := Lib.hid h4
    have hl4 : (c.length : Int) = 4 := by omega
    clear h4
    go_wp2
    go_loopw [4] (fun iv wr => ∃ i : Int, iv = .int .i64 i ∧ 0 ≤ i ∧ i ≤ 4 ∧ Hid (∀ x : Int, 0 ≤ x → x < i → 0 ≤ rd c x ∧ rd c x ≤ 262144) ∧ Hid (Below W.heap.size W wr)) (fun i _ => 4 - (intOf i).toNat)
    case atStart => exact ⟨0, rfl, by omega, by omega, fun x h0 h1 => absurd h1 (by omega), Below.refl _ _⟩
    case round =>
      obtain ⟨i, rfl, hi0, hi1, HI, HB⟩ := hrel
      by_cases hlt : i < 4
      · obtain ⟨ad, rfl, z⟩ := Kd.at_int HC.out i hi0 (by omega)
        have z1 := pw_cell_below HB.out z
        obtain ⟨n, hn⟩ : ∃ n, n = rd c i := ⟨_, rfl⟩
        rw [← hn] at z1
        have hlt' : i < (c.length : Int) := by omega
        clear z
        by_cases hb : n < 0
        · have hbad : ¬ okCs c := fun h => by have := h.2 i hi0 hlt; omega
          have HBAD := Lib.hid hbad
          clear hbad hn
          go_wp2
          go_ret2
          exact sums_bad HBAD.out HB.out
        · by_cases hb2 : 262144 < n
          · have hbad : ¬ okCs c := fun h => by have := h.2 i hi0 hlt; omega
            have HBAD := Lib.hid hbad
            clear hbad hn
            go_wp2
            go_ret2
            exact sums_bad HBAD.out HB.out
          · have HN := Lib.hid (show ∀ x : Int, 0 ≤ x → x < i + 1 → 0 ≤ rd c x ∧ rd c x ≤ 262144 from fun x h0 h1 => by
              by_cases hx : x = i
              · subst hx; omega
              · exact HI.out x h0 (by omega))
            clear hn
            go_wp2
            go_roundw
            case rel => exact ⟨i + 1, rfl, by omega, by omega, HN.out, HB.out⟩
            case measure => simp [intOf]; omega
      · have hok : okCs c := ⟨H4.out, fun x h0 h1 => HI.out x h0 (by omega)⟩
        have HOK := Lib.hid hok
        have hi4 : i = 4 := by omega
        subst hi4
        obtain ⟨wo, rfl⟩ : ∃ wo : World, wo = wr := ⟨_, rfl⟩
        clear hok hlt HI
        go_wp2
        go_loopw [6, 5] (fun jv lv wr => ∃ j : Nat, jv = .int .i64 j ∧ j ≤ 4 ∧ Hid (k43.R 43 wr W.heap.size (fun _ => True) lv (sumL c j)) ∧ Hid (Below W.heap.size W wr)) (fun j _ _ => 4 - (intOf j).toNat)
        case atStart => exact ⟨0, rfl, by omega, Kd.R_nil _ _ _ _ _, HB.out⟩
        case round =>
          obtain ⟨j, rfl, hj, HL, HBJ⟩ := hrel
          obtain ⟨cA, ck, hcv⟩ := Kd.R_slice HL.out
          subst hcv
          clear HB
          by_cases hlt : j < 4
          · obtain ⟨wj, hwj⟩ : ∃ wj : World, wj = wr := ⟨_, rfl⟩
            rw [← hwj] at HL HBJ ⊢
            clear hwj wr
            obtain ⟨g, hg⟩ : ∃ g, g = wj.heap.size := ⟨_, rfl⟩
            have HG := Lib.hid (show wj.heap.size ≤ g from Nat.le_of_eq hg.symm)
            have HA0 := Lib.hid (show (wj.alloc (.cells #[.int .i64 3, .int .i64 0, .int .i64 0, .string ⟨#[]⟩, .slice none 0 0] 43)).heap[g]? = some (.cells #[.int .i64 3, .int .i64 0, .int .i64 0, .string ⟨#[]⟩, .slice none 0 0] 43 (0, 0)) from by rw [hg]; exact heap_alloc_new wj _)
            have HB0 := Lib.hid (below_alloc (Below.refl wj.heap.size wj) (.cells #[.int .i64 3, .int .i64 0, .int .i64 0, .string ⟨#[]⟩, .slice none 0 0] 43))
            have HGB := Lib.hid hg
            go_wp2
            try rw [decide_eq_true (show (j : Int) < 4 by omega)]
            try rw [← hg]
            clear hg
            go_loopw [8] (fun rv wr => ∃ (r : Nat) (sa sb : Int), rv = .int .i64 r ∧ r ≤ 4 ∧ Hid (sumJ c j r = (sa, sb)) ∧ Hid (wr.heap[g]? = some (.cells #[.int .i64 3, .int .i64 sa, .int .i64 sb, .string ⟨#[]⟩, .slice none 0 0] 43 (0, 0))) ∧ Hid (Below wj.heap.size wj wr)) (fun r _ => 4 - (intOf r).toNat)
            case atStart => exact ⟨0, 0, 0, rfl, by omega, rfl, HA0.out, HB0.out⟩
            case round =>
              obtain ⟨r, sa, sb, rfl, hr, HS, HBK, HBR⟩ := hrel
              have hBW : Below W.heap.size W wr := HBJ.out.trans (HBR.out.mono HBJ.out.size)
              by_cases hltr : r < 4
              · obtain ⟨ad, rfl, z⟩ := Kd.at_int HC.out r (by omega) (by omega)
                have z1 : wr.cell? (ad.add r) = some (.int .i64 (rd c r)) := pw_cell_below hBW z
                have hn := HOK.out.2 r (by omega) (by omega)
                have hs := sumJ_small HOK.out j r hr
                rw [HS.out] at hs
                simp only at hs
                have hs1 : sumJ c j (r + 1) = ((sumJ c j r).1 + (rd c r * (ipow (j * r % 4)).1 - 0 * (ipow (j * r % 4)).2), (sumJ c j r).2 + (rd c r * (ipow (j * r % 4)).2 + 0 * (ipow (j * r % 4)).1)) := rfl
                rw [HS.out] at hs1
                obtain ⟨n, hnn⟩ : ∃ n, n = rd c r := ⟨_, rfl⟩
                rw [← hnn] at z1 hn hs1
                have hqq : (wrap64 ((j : Int) * (r : Int))).tmod 4 = ((j * r % 4 : Nat) : Int) := by
                  have h1 : j = 0 ∨ j = 1 ∨ j = 2 ∨ j = 3 := by omega
                  have h2 : r = 0 ∨ r = 1 ∨ r = 2 ∨ r = 3 := by omega
                  rcases h1 with rfl | rfl | rfl | rfl <;> rcases h2 with rfl | rfl | rfl | rfl <;> decide +kernel
                have hbd : j * r % 4 < 4 := Nat.mod_lt _ (by decide)
                have hrl : (r : Int) < (c.length : Int) := by omega
                obtain ⟨q, hq0⟩ : ∃ q, j * r % 4 = q := ⟨_, rfl⟩
                rw [hq0] at hqq hbd
                clear z hnn hBW
                rcases (by omega : q = 0 ∨ q = 1 ∨ q = 2 ∨ q = 3) with rfl | rfl | rfl | rfl
                · have hq' : (wrap64 ((j : Int) * (r : Int))).tmod 4 = 0 := by rw [hqq]; rfl
                  have hstep : sumJ c j (r + 1) = (wrap64 (sa + n), sb) := by
                    rw [hs1, hq0]
                    simp only [ipow, w64r (show -9223372036854775808 ≤ sa + n ∧ sa + n ≤ 9223372036854775807 by omega)]
                    apply Prod.ext <;> simp <;> omega
                  have HST := Lib.hid hstep
                  have HBK2 := Lib.hid (show (wr.setCell ⟨g, 1, none⟩ (.int .i64 (wrap64 (sa + n)))).heap[g]? = some (.cells #[.int .i64 3, .int .i64 (wrap64 (sa + n)), .int .i64 sb, .string ⟨#[]⟩, .slice none 0 0] 43 (0, 0)) from blk_set HBK.out 1 _)
                  have HBR2 := Lib.hid (show Below wj.heap.size wj (wr.setCell ⟨g, 1, none⟩ (.int .i64 (wrap64 (sa + n)))) from HBR.out.setCell (p := ⟨g, 1, none⟩) HG.out _)
                  clear hstep hs1 hq0 hqq hbd hn hs
                  have b0 : wr.cell? ⟨g, 0, none⟩ = some (.int .i64 3) := (blk_cell HBK.out 0).trans rfl
                  have fb0 := blk_frozen HBK.out 0
                  have b1 : wr.cell? ⟨g, 1, none⟩ = some (.int .i64 sa) := (blk_cell HBK.out 1).trans rfl
                  have fb1 := blk_frozen HBK.out 1
                  have b2 : wr.cell? ⟨g, 2, none⟩ = some (.int .i64 sb) := (blk_cell HBK.out 2).trans rfl
                  have fb2 := blk_frozen HBK.out 2
                  have b3 : wr.cell? ⟨g, 3, none⟩ = some (.string ⟨#[]⟩) := (blk_cell HBK.out 3).trans rfl
                  have fb3 := blk_frozen HBK.out 3
                  have b4 : wr.cell? ⟨g, 4, none⟩ = some (.slice none 0 0) := (blk_cell HBK.out 4).trans rfl
                  have fb4 := blk_frozen HBK.out 4
                  go_wp2
                  go_roundw
                  case rel => exact ⟨r + 1, _, _, by simp, hltr, HST.out, HBK2.out, HBR2.out⟩
                  case measure => simp [intOf]; omega
                · have hq' : (wrap64 ((j : Int) * (r : Int))).tmod 4 = 1 := by rw [hqq]; rfl
                  have hstep : sumJ c j (r + 1) = (sa, wrap64 (sb + n)) := by
                    rw [hs1, hq0]
                    simp only [ipow, w64r (show -9223372036854775808 ≤ sb + n ∧ sb + n ≤ 9223372036854775807 by omega)]
                    apply Prod.ext <;> simp <;> omega
                  have HST := Lib.hid hstep
                  have HBK2 := Lib.hid (show (wr.setCell ⟨g, 2, none⟩ (.int .i64 (wrap64 (sb + n)))).heap[g]? = some (.cells #[.int .i64 3, .int .i64 sa, .int .i64 (wrap64 (sb + n)), .string ⟨#[]⟩, .slice none 0 0] 43 (0, 0)) from blk_set HBK.out 2 _)
                  have HBR2 := Lib.hid (show Below wj.heap.size wj (wr.setCell ⟨g, 2, none⟩ (.int .i64 (wrap64 (sb + n)))) from HBR.out.setCell (p := ⟨g, 2, none⟩) HG.out _)
                  clear hstep hs1 hq0 hqq hbd hn hs
                  have b0 : wr.cell? ⟨g, 0, none⟩ = some (.int .i64 3) := (blk_cell HBK.out 0).trans rfl
                  have fb0 := blk_frozen HBK.out 0
                  have b1 : wr.cell? ⟨g, 1, none⟩ = some (.int .i64 sa) := (blk_cell HBK.out 1).trans rfl
                  have fb1 := blk_frozen HBK.out 1
                  have b2 : wr.cell? ⟨g, 2, none⟩ = some (.int .i64 sb) := (blk_cell HBK.out 2).trans rfl
                  have fb2 := blk_frozen HBK.out 2
                  have b3 : wr.cell? ⟨g, 3, none⟩ = some (.string ⟨#[]⟩) := (blk_cell HBK.out 3).trans rfl
                  have fb3 := blk_frozen HBK.out 3
                  have b4 : wr.cell? ⟨g, 4, none⟩ = some (.slice none 0 0) := (blk_cell HBK.out 4).trans rfl
                  have fb4 := blk_frozen HBK.out 4
                  go_wp2
                  go_roundw
                  case rel => exact ⟨r + 1, _, _, by simp, hltr, HST.out, HBK2.out, HBR2.out⟩
                  case measure => simp [intOf]; omega
                · have hq' : (wrap64 ((j : Int) * (r : Int))).tmod 4 = 2 := by rw [hqq]; rfl
                  have hstep : sumJ c j (r + 1) = (wrap64 (sa - n), sb) := by
                    rw [hs1, hq0]
                    simp only [ipow, w64r (show -9223372036854775808 ≤ sa - n ∧ sa - n ≤ 9223372036854775807 by omega)]
                    apply Prod.ext <;> simp <;> omega
                  have HST := Lib.hid hstep
                  have HBK2 := Lib.hid (show (wr.setCell ⟨g, 1, none⟩ (.int .i64 (wrap64 (sa - n)))).heap[g]? = some (.cells #[.int .i64 3, .int .i64 (wrap64 (sa - n)), .int .i64 sb, .string ⟨#[]⟩, .slice none 0 0] 43 (0, 0)) from blk_set HBK.out 1 _)
                  have HBR2 := Lib.hid (show Below wj.heap.size wj (wr.setCell ⟨g, 1, none⟩ (.int .i64 (wrap64 (sa - n)))) from HBR.out.setCell (p := ⟨g, 1, none⟩) HG.out _)
                  clear hstep hs1 hq0 hqq hbd hn hs
                  have b0 : wr.cell? ⟨g, 0, none⟩ = some (.int .i64 3) := (blk_cell HBK.out 0).trans rfl
                  have fb0 := blk_frozen HBK.out 0
                  have b1 : wr.cell? ⟨g, 1, none⟩ = some (.int .i64 sa) := (blk_cell HBK.out 1).trans rfl
                  have fb1 := blk_frozen HBK.out 1
                  have b2 : wr.cell? ⟨g, 2, none⟩ = some (.int .i64 sb) := (blk_cell HBK.out 2).trans rfl
                  have fb2 := blk_frozen HBK.out 2
                  have b3 : wr.cell? ⟨g, 3, none⟩ = some (.string ⟨#[]⟩) := (blk_cell HBK.out 3).trans rfl
                  have fb3 := blk_frozen HBK.out 3
                  have b4 : wr.cell? ⟨g, 4, none⟩ = some (.slice none 0 0) := (blk_cell HBK.out 4).trans rfl
                  have fb4 := blk_frozen HBK.out 4
                  go_wp2
                  go_roundw
                  case rel => exact ⟨r + 1, _, _, by simp, hltr, HST.out, HBK2.out, HBR2.out⟩
                  case measure => simp [intOf]; omega
                · have hq' : (wrap64 ((j : Int) * (r : Int))).tmod 4 = 3 := by rw [hqq]; rfl
                  have hstep : sumJ c j (r + 1) = (sa, wrap64 (sb - n)) := by
                    rw [hs1, hq0]
                    simp only [ipow, w64r (show -9223372036854775808 ≤ sb - n ∧ sb - n ≤ 9223372036854775807 by omega)]
                    apply Prod.ext <;> simp <;> omega
                  have HST := Lib.hid hstep
                  have HBK2 := Lib.hid (show (wr.setCell ⟨g, 2, none⟩ (.int .i64 (wrap64 (sb - n)))).heap[g]? = some (.cells #[.int .i64 3, .int .i64 sa, .int .i64 (wrap64 (sb - n)), .string ⟨#[]⟩, .slice none 0 0] 43 (0, 0)) from blk_set HBK.out 2 _)
                  have HBR2 := Lib.hid (show Below wj.heap.size wj (wr.setCell ⟨g, 2, none⟩ (.int .i64 (wrap64 (sb - n)))) from HBR.out.setCell (p := ⟨g, 2, none⟩) HG.out _)
                  clear hstep hs1 hq0 hqq hbd hn hs
                  have b0 : wr.cell? ⟨g, 0, none⟩ = some (.int .i64 3) := (blk_cell HBK.out 0).trans rfl
                  have fb0 := blk_frozen HBK.out 0
                  have b1 : wr.cell? ⟨g, 1, none⟩ = some (.int .i64 sa) := (blk_cell HBK.out 1).trans rfl
                  have fb1 := blk_frozen HBK.out 1
                  have b2 : wr.cell? ⟨g, 2, none⟩ = some (.int .i64 sb) := (blk_cell HBK.out 2).trans rfl
                  have fb2 := blk_frozen HBK.out 2
                  have b3 : wr.cell? ⟨g, 3, none⟩ = some (.string ⟨#[]⟩) := (blk_cell HBK.out 3).trans rfl
                  have fb3 := blk_frozen HBK.out 3
                  have b4 : wr.cell? ⟨g, 4, none⟩ = some (.slice none 0 0) := (blk_cell HBK.out 4).trans rfl
                  have fb4 := blk_frozen HBK.out 4
                  go_wp2
                  go_roundw
                  case rel => exact ⟨r + 1, _, _, by simp, hltr, HST.out, HBK2.out, HBR2.out⟩
                  case measure => simp [intOf]; omega
              · have hr4 : r = 4 := by omega
                subst hr4
                have HSA := Lib.hid (show gaussV sa sb = sumV c j from by unfold sumV; rw [HS.out])
                have hl1 : (sumL c j).length = j := by simp [sumL]
                have HL1 := Lib.hid hl1
                have HSL := Lib.hid (show sumL c j ++ [gaussV sa sb] = sumL c (j + 1) from by rw [HSA.out]; simp [sumL, List.range_succ])
                have HR7 := Lib.hid (Kd.R_mono (Kd.R_below (Kd.R_elderB HL.out g HG.out) HBR.out) (fun k hk => hk))
                have HB7 := Lib.hid (HBJ.out.trans (HBR.out.mono HBJ.out.size))
                have d0 : wr.cell? ⟨g, 0, none⟩ = some (.int .i64 3) := (blk_cell HBK.out 0).trans rfl
                have d1 : wr.cell? ⟨g, 1, none⟩ = some (.int .i64 sa) := (blk_cell HBK.out 1).trans rfl
                have d2 : wr.cell? ⟨g, 2, none⟩ = some (.int .i64 sb) := (blk_cell HBK.out 2).trans rfl
                have d3 : wr.cell? ⟨g, 3, none⟩ = some (.string ⟨#[]⟩) := (blk_cell HBK.out 3).trans rfl
                have d4 : wr.cell? ⟨g, 4, none⟩ = some (.slice none 0 0) := (blk_cell HBK.out 4).trans rfl
                clear hltr hl1
                go_wp2_with (at_builtin; (refine Kd.R_append (w0 := W) k43 W.heap.size rfl _ _ 41 43 _ 64 rfl Try.underlying41 info43 rfl (by decide) (by decide) (.slice cA (sumL c j).length ck) (sumL c j) (gaussV sa sb) [.int .i64 3, .int .i64 sa, .int .i64 sb, .string ⟨#[]⟩, .slice none 0 0] (fun k => True ∧ k ≠ g) (fun _ => False) rfl rfl (k43_mkM _ _ _ (gaussV sa sb) (Kd.R_nil _ _ _ _ _)) (fun _ h => h.elim) (fun k hk => ⟨trivial, Kd.freshB HBK.out k hk⟩) HR7.out HB7.out HB7.out.size (by rw [HL1.out]; omega) ?_; intro v1 w8 hR8 hb8 hg8 hat8; rw [HSL.out] at hR8; have HR8 := Lib.hid (Kd.R_mono hR8 (fun _ _ => trivial)); have HB8 := Lib.hid hb8; clear hR8 hb8 hg8 hat8))
                go_roundw
                case rel => exact ⟨j + 1, by simp, by omega, HR8.out, HB8.out⟩
                case measure => simp [intOf]; omega
          · have hj4 : j = 4 := by omega
            subst hj4
            go_wp2
            go_ret2
            exact ⟨HBJ.out, .inr ⟨HOK.out, _, rfl, HL.out⟩⟩
  · have h4' : ((c.length : Int) != 4) = true := by rw [bne_iff_ne]; omega
    have HBAD := Lib.hid (show ¬ okCs c from fun h => h4 h.1)
    clear h4
    go_wp2
    go_ret2
    exact sums_bad HBAD.out (Below.refl _ _)
end Go.Proofs.Ytofinglgnkdflaa
end

section
namespace Go.Proofs.Ytofinglgnkdflaa
open Go.RowKit
open Go.Proofs.Ytofinglgnkdflaa.PHistoryChecks Go.Proofs.YtofinglgnkdflaaW.PrintWords Go.Proofs.YtofinglgnkdflaaW.PrintLast Go.Proofs.YtofinglgnkdflaaW.PrintMore
set_option linter.unusedVariables false
set_option linter.unusedSimpArgs false

theorem rd_sumL' (c : List Int) (i : Nat) (h : i < 4) : rd_T43 (sumL c 4) (i : Int) = sumV c i := by
  rcases (by omega : i = 0 ∨ i = 1 ∨ i = 2 ∨ i = 3) with rfl | rfl | rfl | rfl <;> rfl
set_option maxHeartbeats 4000000 in
set_option maxRecDepth 100000 in
theorem order_g (W : World) (a b : Int) (A A2 : Option Addr) (c c2 : Nat) : Calls Try.prog 78 #[gV a b A c, gV a b A2 c2] W (fun e w' => e = .returned (.int .i64 0) ∧ Below W.heap.size W w') := by
  have h1 := heap_alloc_new W (.cells #[.int .i64 3, .int .i64 a, .int .i64 b, .string ⟨#[]⟩, .slice A 0 c] 43)
  have h2 := heap_alloc_new (W.alloc (.cells #[.int .i64 3, .int .i64 a, .int .i64 b, .string ⟨#[]⟩, .slice A 0 c] 43)) (.cells #[.int .i64 3, .int .i64 a, .int .i64 b, .string ⟨#[]⟩, .slice A2 0 c2] 43)
  rw [alloc_size] at h2
  have HX := Lib.hid (blk_alloc h1 (.cells #[.int .i64 3, .int .i64 a, .int .i64 b, .string ⟨#[]⟩, .slice A2 0 c2] 43))
  have HY := Lib.hid h2
  have HB := Lib.hid (below_alloc (below_alloc (Below.refl W.heap.size W) (.cells #[.int .i64 3, .int .i64 a, .int .i64 b, .string ⟨#[]⟩, .slice A 0 c] 43)) (.cells #[.int .i64 3, .int .i64 a, .int .i64 b, .string ⟨#[]⟩, .slice A2 0 c2] 43))
  unfold gV
  clear h1 h2
  go_enter Try.func78, Try.ntmps78
  go_wp2
  go_loopw [5] (fun iv wr => iv = .int .i64 0 ∧ Hid (wr.heap[W.heap.size]? = some (.cells #[.int .i64 3, .int .i64 a, .int .i64 b, .string ⟨#[]⟩, .slice A 0 c] 43 (0, 0))) ∧ Hid (Below W.heap.size W wr)) (fun _ _ => 0)
  case atStart => exact ⟨rfl, HX.out, HB.out⟩
  case round =>
    obtain ⟨rfl, HX2, HB2⟩ := hrel
    have c4 : wr.cell? ⟨W.heap.size, 4, none⟩ = some (.slice A 0 c) := (blk_cell HX2.out 4).trans rfl
    go_wp2
    go_ret
    exact ⟨rfl, HB2.out⟩
set_option maxHeartbeats 4000000 in
set_option maxRecDepth 100000 in
theorem same_g (W : World) (a b : Int) (A A2 : Option Addr) (c c2 : Nat) : Calls Try.prog 50 #[gV a b A c, gV a b A2 c2] W (fun e w' => e = .returned (.bool true) ∧ Below W.heap.size W w') := by
  have HB := Lib.hid (below_alloc (below_alloc (Below.refl W.heap.size W) (.cells #[.int .i64 3, .int .i64 a, .int .i64 b, .string ⟨#[]⟩, .slice A 0 c] 43)) (.cells #[.int .i64 3, .int .i64 a, .int .i64 b, .string ⟨#[]⟩, .slice A2 0 c2] 43))
  have HO := Lib.hid (fun W1 => order_g W1 a b A A2 c c2)
  unfold gV at HO ⊢
  go_enter Try.func50, Try.ntmps50
  go_wp2_with fail
  refine (HO.out _).mono ?_
  rintro e w1 ⟨rfl, hw1⟩
  have HB1 := Lib.hid (HB.out.trans (hw1.mono HB.out.size))
  clear hw1 HO
  go_wp2
  go_ret
  exact ⟨rfl, HB1.out⟩
set_option maxHeartbeats 8000000 in
set_option maxRecDepth 100000 in
theorem sums_law (W : World) (c : List Int) (A : Option Addr) (k : Nat) (hC : (Kd.int .i64).C W A c.length c) (hk : c.length ≤ k) :
    Calls Try.prog 9 #[.slice A c.length k] W (fun e w' => e = .returned (.bool true) ∧ Below W.heap.size W w') := by
  have HSU := Lib.hid (Sums_any W c A k hC hk)
  have HRS := Lib.hid (fun W1 (h : Below W.heap.size W W1) => RSums_any W1 c A k (Kd.C_below hC h) hk)
  unfold SumsP at HSU HRS
  clear hC hk
  go_enter Try.func9, Try.ntmps9
  go_wp2_with fail
  refine HSU.out.mono ?_
  rintro e w1 ⟨hw1, ⟨hno, rfl⟩ | ⟨hok, v1, rfl, hv1⟩⟩
  · have HB1 := Lib.hid hw1
    have HNO := Lib.hid hno
    clear hw1 hno HSU
    go_wp2_with fail
    refine (HRS.out _ HB1.out).mono ?_
    rintro e w2 ⟨hw2, ⟨_, rfl⟩ | ⟨hok, _⟩⟩
    · have HB2 := Lib.hid (HB1.out.trans (hw2.mono HB1.out.size))
      clear hw2 HB1 HNO HRS
      go_wp2_with fail
      refine (num_any _ _).mono ?_
      rintro e w3 ⟨rfl, hw3⟩
      have HB3 := Lib.hid (HB2.out.trans (hw3.mono HB2.out.size))
      clear hw3 HB2
      go_wp2
      go_loopw [7] (fun iv wr => iv = .int .i64 0 ∧ Hid (Below W.heap.size W wr)) (fun _ _ => 0)
      case atStart => exact ⟨rfl, HB3.out⟩
      case round =>
        obtain ⟨rfl, HB⟩ := hrel
        go_wp2_with fail
        refine (alive_any _).mono ?_
        rintro e w4 ⟨rfl, hw4⟩
        have HB4 := Lib.hid (HB.out.trans (hw4.mono HB.out.size))
        clear hw4
        go_wp2
        go_ret
        exact ⟨rfl, HB4.out⟩
    · exact absurd hok HNO.out
  · obtain ⟨A1, k1, rfl, hlk1, hC1⟩ := Kd.R_reads hv1
    have HB1 := Lib.hid hw1
    have HOK := Lib.hid hok
    have hl4 : (sumL c 4).length = 4 := by simp [sumL]
    have HCL := Lib.hid hC1
    rw [hl4] at HCL ⊢
    clear hw1 hok hv1 hlk1 hC1 HSU
    go_wp2_with fail
    refine (HRS.out _ HB1.out).mono ?_
    rintro e w2 ⟨hw2, ⟨hno, _⟩ | ⟨hok, v2, rfl, hv2⟩⟩
    · exact absurd HOK.out hno
    · obtain ⟨A2, k2, rfl, hlk2, hC2⟩ := Kd.R_reads hv2
      have HB2 := Lib.hid (HB1.out.trans (hw2.mono HB1.out.size))
      have HCL2 := Lib.hid (Kd.C_below HCL.out hw2)
      have HCM := Lib.hid hC2
      rw [hl4] at HCM ⊢
      clear hw2 hok hv2 hlk2 hC2 HRS HCL HB1 hl4
      go_wp2_with fail
      refine (num_any _ _).mono ?_
      rintro e w3 ⟨rfl, hw3⟩
      have HB3 := Lib.hid (HB2.out.trans (hw3.mono HB2.out.size))
      have HCL3 := Lib.hid (Kd.C_below HCL2.out hw3)
      have HCM3 := Lib.hid (Kd.C_below HCM.out hw3)
      clear hw3 HB2 HCL2 HCM
      go_wp2
      go_loopw [7] (fun iv wr => ∃ i : Nat, iv = .int .i64 i ∧ i ≤ 4 ∧ Hid (Below w3.heap.size w3 wr)) (fun i _ => 4 - (intOf i).toNat)
      case atStart => exact ⟨0, rfl, by omega, Below.refl _ _⟩
      case round =>
        obtain ⟨i, rfl, hi, HB⟩ := hrel
        by_cases hlt : i < 4
        · obtain ⟨ad, A4, c4, rfl, y0, y1, y2, y3, y4, _, _⟩ := at_T43 (Kd.C_below HCL3.out HB.out) i (by omega) (by omega)
          obtain ⟨bd, B4, d4, rfl, z0, z1, z2, z3, z4, _, _⟩ := at_T43 (Kd.C_below HCM3.out HB.out) i (by omega) (by omega)
          rw [rd_sumL' c i hlt] at y0 y1 y2 y3 y4 z0 z1 z2 z3 z4
          unfold sumV gaussV at y0 y1 y2 y3 y4 z0 z1 z2 z3 z4
          simp only [Int.toNat_natCast] at y0 y1 y2 y3 y4 z0 z1 z2 z3 z4
          obtain ⟨ga, hga⟩ : ∃ x, x = (sumJ c i 4).1 := ⟨_, rfl⟩
          obtain ⟨gb, hgb⟩ : ∃ x, x = (sumJ c i 4).2 := ⟨_, rfl⟩
          rw [← hga] at y1 z1
          rw [← hgb] at y2 z2
          rw [show ([] : List S43).length = 0 from rfl] at y4 z4
          have HSM := Lib.hid (fun W1 => same_g W1 ga gb A4 B4 c4 d4)
          unfold gV at HSM
          clear hga hgb
          try rw [decide_eq_true (show (i : Int) < 4 by omega)]
          go_wp2
          refine wp_region_held_drew (S := (fun w => w.cell? (ad.add (i * 5)) = some (.int .i64 3) ∧ w.cell? ⟨(ad.add (i * 5)).block, (ad.add (i * 5)).off + 1, none⟩ = some (.int .i64 ga) ∧ w.cell? ⟨(ad.add (i * 5)).block, (ad.add (i * 5)).off + 2, none⟩ = some (.int .i64 gb) ∧ w.cell? ⟨(ad.add (i * 5)).block, (ad.add (i * 5)).off + 3, none⟩ = some (.string ⟨#[]⟩) ∧ w.cell? ⟨(ad.add (i * 5)).block, (ad.add (i * 5)).off + 4, none⟩ = some (.slice A4 0 c4) ∧ w.cell? (bd.add (i * 5)) = some (.int .i64 3) ∧ w.cell? ⟨(bd.add (i * 5)).block, (bd.add (i * 5)).off + 1, none⟩ = some (.int .i64 ga) ∧ w.cell? ⟨(bd.add (i * 5)).block, (bd.add (i * 5)).off + 2, none⟩ = some (.int .i64 gb) ∧ w.cell? ⟨(bd.add (i * 5)).block, (bd.add (i * 5)).off + 3, none⟩ = some (.string ⟨#[]⟩) ∧ w.cell? ⟨(bd.add (i * 5)).block, (bd.add (i * 5)).off + 4, none⟩ = some (.slice B4 0 d4))) (by kernel_rfl) ?_ (fun hHeld => ?_)
          · exact ⟨y0, y1, y2, y3, y4, z0, z1, z2, z3, z4⟩
          refine runH 0 (v := ?v0) rfl (by kernel_rfl) (fun _ _ _ h => h) (by assumption) (by rfl) ?y0 ?r0
          case y0 => (intro w hSw; (try dsimp only at hSw); go_simp; try with_reducible rfl)
          try simp only [Act.put, List.setIfInBounds_toArray, List.set_cons_zero, List.set_cons_succ]
          refine runH 1 (v := ?v1) rfl (by kernel_rfl) (fun _ _ _ h => h) (by assumption) (by rfl) ?y1 ?r1
          case y1 => (intro w hSw; (try dsimp only at hSw); go_simp; try with_reducible rfl)
          try simp only [Act.put, List.setIfInBounds_toArray, List.set_cons_zero, List.set_cons_succ]
          refine runH 2 (v := ?v2) rfl (by kernel_rfl) (fun _ _ _ h => h) (by assumption) (by rfl) ?y2 ?r2
          case y2 => (intro w hSw; (try dsimp only at hSw); go_simp; try with_reducible rfl)
          try simp only [Act.put, List.setIfInBounds_toArray, List.set_cons_zero, List.set_cons_succ]
          refine runH 3 (v := ?v3) rfl (by kernel_rfl) (fun _ _ _ h => h) (by assumption) (by rfl) ?y3 ?r3
          case y3 => (intro w hSw; (try dsimp only at hSw); go_simp; try with_reducible rfl)
          try simp only [Act.put, List.setIfInBounds_toArray, List.set_cons_zero, List.set_cons_succ]
          refine runH 4 (v := ?v4) rfl (by kernel_rfl) (fun _ _ _ h => h) (by assumption) (by rfl) ?y4 ?r4
          case y4 => (intro w hSw; (try dsimp only at hSw); go_simp; try with_reducible rfl)
          try simp only [Act.put, List.setIfInBounds_toArray, List.set_cons_zero, List.set_cons_succ]
          refine runH 5 (v := ?v5) rfl (by kernel_rfl) (fun _ _ _ h => h) (by assumption) (by rfl) ?y5 ?r5
          case y5 => (intro w hSw; (try dsimp only at hSw); go_simp; try with_reducible rfl)
          try simp only [Act.put, List.setIfInBounds_toArray, List.set_cons_zero, List.set_cons_succ]
          refine runH 6 (v := ?v6) rfl (by kernel_rfl) (fun _ _ _ h => h) (by assumption) (by rfl) ?y6 ?r6
          case y6 => (intro w hSw; (try dsimp only at hSw); go_simp; try with_reducible rfl)
          try simp only [Act.put, List.setIfInBounds_toArray, List.set_cons_zero, List.set_cons_succ]
          refine runH 7 (v := ?v7) rfl (by kernel_rfl) (fun _ _ _ h => h) (by assumption) (by rfl) ?y7 ?r7
          case y7 => (intro w hSw; (try dsimp only at hSw); go_simp; try with_reducible rfl)
          try simp only [Act.put, List.setIfInBounds_toArray, List.set_cons_zero, List.set_cons_succ]
          refine wpAnyH_ready (rs := [8]) (by kernel_rfl) (by simp) ?_
          refine AllReadyH.cons rfl (fun K hK => ?_) AllReadyH.nil
          go_simp
          go_at_call 50; refine (HSM.out wr.drew).mono ?_; rintro e w6 ⟨rfl, hw6⟩; have hk6 : Below wr.heap.size wr w6 := (below_drew (Below.refl wr.heap.size wr)).trans (hw6.mono (below_drew (Below.refl wr.heap.size wr)).size); have HB9 := Lib.hid (HB.out.trans (hk6.mono HB.out.size))
          go_wp2_with fail
          refine hK.out _ _ ?_ (fun hHeld2 => ?_)
          · exact ⟨pw_cell_below hk6 y0, pw_cell_below hk6 y1, pw_cell_below hk6 y2, pw_cell_below hk6 y3, pw_cell_below hk6 y4, pw_cell_below hk6 z0, pw_cell_below hk6 z1, pw_cell_below hk6 z2, pw_cell_below hk6 z3, pw_cell_below hk6 z4⟩
          clear hK K hHeld
          rename _ => hHeld
          try simp only [Act.put, List.setIfInBounds_toArray, List.set_cons_zero, List.set_cons_succ]
          refine runH 9 (v := ?v9) rfl (by kernel_rfl) (fun _ _ _ h => h) (by assumption) (by rfl) ?y9 ?r9
          case y9 => (intro w hSw; (try dsimp only at hSw); go_simp; try with_reducible rfl)
          try simp only [Act.put, List.setIfInBounds_toArray, List.set_cons_zero, List.set_cons_succ]
          refine wpAnyH_done (by kernel_rfl) ?_ _
          go_wp2
          go_roundw
          case rel => exact ⟨i + 1, by simp, hlt, HB9.out⟩
          case measure => simp [intOf]; omega
        · have hi4 : i = 4 := by omega
          subst hi4
          have HBB := Lib.hid (HB3.out.trans (HB.out.mono HB3.out.size))
          rw [show ((4 : Nat) : Int) = 4 from rfl]
          clear hlt hi
          go_wp2_with fail
          refine (alive_any _).mono ?_
          rintro e w4 ⟨rfl, hw4⟩
          have HB4 := Lib.hid (HBB.out.trans (hw4.mono HBB.out.size))
          clear hw4
          go_wp2
          go_ret
          exact ⟨rfl, HB4.out⟩
end Go.Proofs.Ytofinglgnkdflaa
end

section
namespace Go.Proofs.Ytofinglgnkdflaa.shapeSums
open Go.ChangeShapes Go.WideShapes Go.ChangeAt Go.RowKit
set_option linter.unusedVariables false

theorem own : ownKnob Try.prog.godebug = none := by kernel_rfl
theorem laidOut : laidOutB Try.prog = true := by kernel_rfl
set_option maxRecDepth 100000 in
theorem contract (H : Type) (enc : TypeId × Value → H) (W : World) (base : Nat) (args : Array Value) (ds gs : List (DataW H)) (before : List MemPlace)
    (hval : ∀ (j : Nat) t v, Try.f9.params[j]? = some t → args[j]? = some v → Value.okWide Try.prog W .any base t v)
    (hW : DataW.Whole enc Try.prog Try.f9.params.toList Rows.shapeSumsSpec.vars false W args.toList ds gs before) :
    Calls Try.prog 9 args W fun e W' => ∃ v, e = .returned v ∧ Rows.shapeSumsSpec.post enc Try.prog Try.f9 false true false false W args v W' := by
  have hW' := hW
  obtain ⟨p, q, hA0, hV, rfl, hfz, hnd⟩ := hW
  have hA : DataW.TrodAll enc Try.prog W 0 (fun _ => true) true Try.f9.params.toList args.toList ds p := hA0
  rw [Try.params9] at hA hval
  obtain ⟨v0, vs0, d0, ds0, p0, q0, hargs, rfl, rfl, h0, r0⟩ := trodAll_cons hA
  obtain ⟨rfl, rfl, rfl⟩ := trodAll_nil r0
  obtain rfl : args = #[v0] := by
    cases args with
    | mk l => exact congrArg Array.mk hargs
  obtain ⟨rfl, rfl⟩ := trodVars_none hV
  obtain ⟨a0, len0, cap0, rfl⟩ := okWide_slice Try.underlying68 (hval 0 68 v0 rfl rfl)
  clear hA0
  simp only [List.append_nil] at hW'
  have hlt : ∀ x ∈ p0, x.block < W.heap.size := fun x hx => by simpa using hW'.lt x (by simpa using hx)
  obtain ⟨c, rfl, hlc, hC⟩ := trod_ints h0
  refine (sums_law W c a0 cap0 hC hlc).mono fun e W' ⟨he, bel⟩ => ?_
  subst he
  exact ⟨_, rfl, _, _, _, [], _, [], hW', trodAll_mk1 (shut_bool Try.underlying4 _),
    trodAll_cons_mk (Below.trod laidOut (by kernel_rfl) (of_decide_eq_true (by kernel_rfl)) h0 bel hlt) trodAll_mk0, rfl, bel.frame _, fun h => by cases h⟩

set_option maxRecDepth 100000 in
theorem lifted (os : Os) (started : os.Started) (H : Type) (enc : TypeId × Value → H) :
    ReturnsInHanded {} Try.checked os 9 .any (Rows.shapeSumsSpec.pre6 enc Try.prog Try.f9 Rows.shapeSumsRow.domain false) (Rows.shapeSumsSpec.post enc Try.prog Try.f9 false true false false) := by
  refine returnsInHanded_of_change_sized (C := Try.checked) own started (by kernel_rfl) Try.func9
    (ChangeSpec.witness6 (enc := enc) (C := Try.checked) false ⟨#[], #[.slice none 0 0], []⟩ 8 (by kernel_rfl) (by kernel_rfl) (by kernel_rfl) (by kernel_rfl)) ?_
  intro W base args ds gs before hval0 hW hcnd hsz0 _
  exact contract H enc W base args ds gs before hval0 hW
theorem over : Rows.ShapeSumsSaid :=
  OpenClaim.holds_of_wide 9 Try.f9 rfl rfl rfl rfl rfl rfl rfl ⟨rfl, rfl, rfl, rfl, rfl⟩ rfl rfl rfl rfl rfl (by kernel_rfl) Try.func9 (by kernel_rfl)
    (of_decide_eq_true (by kernel_rfl)) (by unfold Func.isWrapper; first | (rw [if_pos (by decide +kernel)]; kernel_rfl) | (rw [if_neg (by decide +kernel)]; exact ⟨rfl, rfl⟩))
    (fun os started H enc _ => lifted os started H enc)
end Go.Proofs.Ytofinglgnkdflaa.shapeSums
namespace Go.Proofs.Ytofinglgnkdflaa
theorem shapeSums_holds : Rows.ShapeSumsSaid := shapeSums.over
#print axioms shapeSums_holds
end Go.Proofs.Ytofinglgnkdflaa
end
