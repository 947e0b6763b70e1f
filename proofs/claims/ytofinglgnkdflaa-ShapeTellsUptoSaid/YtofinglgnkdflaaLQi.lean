/- The reference of layer 4: form of what has items, Right: the walks. -/
import Derived.Test.YtofinglgnkdflaaLQh
namespace Go.Proofs.Ytofinglgnkdflaa
open Go.RowKit
open Go.Proofs.Ytofinglgnkdflaa.PHistoryChecks Go.Proofs.YtofinglgnkdflaaW.PrintWords Go.Proofs.YtofinglgnkdflaaW.PrintLast Go.Proofs.YtofinglgnkdflaaW.PrintMore
set_option linter.unusedVariables false
set_option linter.unusedSimpArgs false
set_option maxHeartbeats 8000000 in
set_option maxRecDepth 100000 in
theorem rform_items (k : Nat) (ih : ∀ (v : S43) (A : Option Addr) (c : Nat) (W : World), nd v ≤ k → okT2 v → Kd.C k43 W A v.f4.length v.f4 → v.f4.length ≤ c → Calls Try.prog 82 #[v43 v A c] W (RFormP v W))
    (v : S43) (A : Option Addr) (c : Nat) (W : World) (hk : nd v ≤ k + 1) (hT : okT2 v) (hC : Kd.C k43 W A v.f4.length v.f4) (hc : v.f4.length ≤ c) (k5 : v.f0 = 5 ∨ v.f0 = 6 ∨ v.f0 = 7) :
    Calls Try.prog 82 #[v43 v A c] W (RFormP v W) := by
  have hT' := hT
  rw [okT2_eq] at hT'
  have HTL := Lib.hid hT'.2
  have hlen := Kd.C_max hC
  have HC := Lib.hid hC
  have HIH := Lib.hid ih
  have HE := Lib.hid (formV_eq v)
  have HZ := Lib.hid (fun W1 => zero_any W1 v A c false false false true (.inr (.inr (.inr rfl))))
  have e' : zB v false false false true = (decide (v.f1 = 0) && (decide (v.f2 = 0) && emB v.f3)) := by unfold zB; simp
  rw [e'] at HZ
  have n1 : (v.f0 == 1) = false := by rw [beq_eq_false_iff_ne]; omega
  have n2 : (v.f0 == 2) = false := by rw [beq_eq_false_iff_ne]; omega
  have n3 : (v.f0 == 3) = false := by rw [beq_eq_false_iff_ne]; omega
  have n4 : (v.f0 == 4) = false := by rw [beq_eq_false_iff_ne]; omega
  obtain ⟨r, hr⟩ : ∃ r, r = formV v := ⟨_, rfl⟩
  obtain ⟨p, hp⟩ : ∃ p, p = (decide (v.f1 = 0) && (decide (v.f2 = 0) && emB v.f3)) := ⟨_, rfl⟩
  rw [← hp] at HZ
  have K1 := Lib.hid (show r = (p && formL (decide (v.f0 = 7)) none v.f4) from by rw [hr, HE.out, if_neg (by omega), if_neg (by omega), if_neg (by omega), if_neg (by omega), if_pos k5, hp, Bool.and_assoc, Bool.and_assoc, Bool.and_assoc, Bool.and_assoc])
  unfold RFormP
  rw [← hr]
  have hks : ((v.f0 == 5) = true ∧ (v.f0 == 5) = true ∧ (v.f0 == 7) = false) ∨ ((v.f0 == 5) = false ∧ (v.f0 == 6) = true ∧ (v.f0 == 7) = false) ∨ ((v.f0 == 5) = false ∧ (v.f0 == 6) = false ∧ (v.f0 == 7) = true) := by
    rcases k5 with h | h | h
    · left; rw [h]; decide
    · right; left; rw [h]; decide
    · right; right; rw [h]; decide
  have HX := Lib.hid (heap_alloc_new W (.cells #[.int .i64 v.f0, .int .i64 v.f1, .int .i64 v.f2, .string v.f3, .slice A v.f4.length c] 43))
  have HB := Lib.hid (below_alloc (Below.refl W.heap.size W) (.cells #[.int .i64 v.f0, .int .i64 v.f1, .int .i64 v.f2, .string v.f3, .slice A v.f4.length c] 43))
  unfold v43 at HZ ⊢
  clear hT hT' k5 HE hC ih hr hp e'
  go_enter Try.func82, Try.ntmps82
  go_upto_block 0 with (fail)
  go_cut [49, 50] (fun _ _ wc => ∃ wz : World, wz = wc ∧ p = true ∧ Hid (Below W.heap.size W wc) ∧ Hid (wc.heap[W.heap.size]? = some (.cells #[.int .i64 v.f0, .int .i64 v.f1, .int .i64 v.f2, .string v.f3, .slice A v.f4.length c] 43 (0, 0))))
  case first =>
    rcases hks with ⟨q5, q6, q7⟩ | ⟨q5, q6, q7⟩ | ⟨q5, q6, q7⟩
    all_goals
      go_wp2_with fail
      refine (HZ.out _).mono ?_
      rintro e wz ⟨rfl, hwz⟩
      have HBz := Lib.hid (HB.out.trans (hwz.mono HB.out.size))
      have HXz := Lib.hid ((hwz.block _ (blk_lt HX.out)).trans HX.out)
      clear hwz HZ HX HB
      cases p
      · have HV := Lib.hid (show r = false from K1.out)
        clear K1
        go_wp2
        go_ret
        exact ⟨by rw [HV.out]; rfl, HBz.out⟩
      · go_wp2
        go_meet
        exact ⟨_, rfl, trivial, HBz.out, HXz.out⟩
  case rest =>
  obtain ⟨wz, hwz, rfl, HBz, HXz⟩ := hcut
  subst hwz
  obtain ⟨sk, hsk7, hskd⟩ : ∃ sk, (v.f0 == 7) = sk ∧ decide (v.f0 = 7) = sk := ⟨_, rfl, by rw [Bool.eq_iff_iff]; simp⟩
  rw [hskd] at K1
  have HSK := Lib.hid (show (v.f0 == 7) = sk from hsk7)
  have K2 := Lib.hid (show r = formL sk (prevOf v.f4 0) (v.f4.drop (0 : Int).toNat) from by rw [K1.out]; rfl)
  clear hsk7 hskd hks K1 n1 n2 n3 n4 HZ HX HB
  go_wp2
  go_loopw [3] (fun iv wr => ∃ i : Int, iv = .int .i64 i ∧ 0 ≤ i ∧ i ≤ (v.f4.length : Int) ∧ Hid (r = formL sk (prevOf v.f4 i) (v.f4.drop i.toNat)) ∧ Hid (∀ j : Int, 0 ≤ j → j < i → formV (rd_T43 v.f4 j) = true) ∧ Hid (Below wz.heap.size wz wr)) (fun i _ => v.f4.length - (intOf i).toNat)
  case atStart => exact ⟨0, rfl, by omega, by omega, K2.out, fun j h0 h1 => absurd h1 (by omega), Below.refl _ _⟩
  case round =>
    obtain ⟨i, rfl, hi0, hi1, HI, HF, HW⟩ := hrel
    have HWW := Lib.hid (show Below W.heap.size W wr from HBz.out.trans (HW.out.mono HBz.out.size))
    have cv0 : wr.cell? ⟨W.heap.size, 0, none⟩ = some (.int .i64 v.f0) := pw_cell_below HW.out (box43 HXz.out).1
    have cv4 : wr.cell? ⟨W.heap.size, 4, none⟩ = some (.slice A v.f4.length c) := pw_cell_below HW.out (box43 HXz.out).2.2.2.2
    by_cases hlt : i < (v.f4.length : Int)
    · have HCr := Lib.hid (Kd.C_below HC.out HWW.out)
      obtain ⟨ad, A4, c4, rfl, x0, x1, x2, x3, x4, hl4, hF4⟩ := at_T43 HCr.out i hi0 hlt
      have hmem := rd_mem v.f4 i hi0 hlt
      have hnd : nd (rd_T43 v.f4 i) ≤ k := by have := ndL_mem _ _ hmem; have := nd_eq v; omega
      have hstep := Lib.hid (formL_from sk v.f4 i hi0 hlt)
      have HTx := Lib.hid (okTL2_mem _ HTL.out _ hmem)
      obtain ⟨x, hx⟩ : ∃ x, x = rd_T43 v.f4 i := ⟨_, rfl⟩
      rw [← hx] at x0 x1 x2 x3 x4 hl4 hF4 hnd hstep HTx
      have HXE := Lib.hid hx
      have hcall := Lib.hid (HIH.out x A4 c4 wr.drew hnd HTx.out (Kd.C_below hF4 (below_drew (Below.refl _ _))) hl4)
      have HL4 := Lib.hid hl4
      have HF4 := Lib.hid hF4
      unfold v43 RFormP at hcall
      clear hmem hnd hx hl4 hF4
      obtain ⟨fx, hfx⟩ : ∃ b, b = formV x := ⟨_, rfl⟩
      have HFX := Lib.hid hfx
      rw [← hfx] at hstep hcall
      have HCf := hcall
      clear hfx hcall
      have HW6 := Lib.hid (fun w1 (hb1 : Below wr.drew.heap.size wr.drew w1) => show Below wz.heap.size wz w1 from HW.out.trans (((below_drew (Below.refl _ _)).trans hb1).mono HW.out.size))
      have HWW6 := Lib.hid (fun w1 (hb1 : Below wr.drew.heap.size wr.drew w1) => show Below W.heap.size W w1 from HWW.out.trans (((below_drew (Below.refl _ _)).trans hb1).mono HWW.out.size))
      go_wp2
      cases fx
      · have HR := Lib.hid (show r = false from by rw [HI.out, hstep.out]; simp)
        refine wp_region_held_drew (S := (fun w => w.cell? ⟨W.heap.size, 4, none⟩ = some (.slice (some ad) v.f4.length c) ∧ w.cell? ⟨W.heap.size, 0, none⟩ = some (.int .i64 v.f0) ∧ w.cell? (ad.add (i.toNat * 5)) = some (.int .i64 x.f0) ∧ w.cell? ⟨(ad.add (i.toNat * 5)).block, (ad.add (i.toNat * 5)).off + 1, none⟩ = some (.int .i64 x.f1) ∧ w.cell? ⟨(ad.add (i.toNat * 5)).block, (ad.add (i.toNat * 5)).off + 2, none⟩ = some (.int .i64 x.f2) ∧ w.cell? ⟨(ad.add (i.toNat * 5)).block, (ad.add (i.toNat * 5)).off + 3, none⟩ = some (.string x.f3) ∧ w.cell? ⟨(ad.add (i.toNat * 5)).block, (ad.add (i.toNat * 5)).off + 4, none⟩ = some (.slice A4 x.f4.length c4))) (by kernel_rfl) ?_ (fun hHeld => ?_)
        · exact ⟨cv4, cv0, x0, x1, x2, x3, x4⟩
        refine runH 0 (v := ?va0) rfl (by kernel_rfl) (fun _ _ _ h => h) (by assumption) (by rfl) ?ya0 ?ra0
        case ya0 => (intro w hSw; (try dsimp only at hSw); go_simp; try with_reducible rfl)
        try simp only [Act.put, List.setIfInBounds_toArray, List.set_cons_zero, List.set_cons_succ]
        refine runH 1 (v := ?va1) rfl (by kernel_rfl) (fun _ _ _ h => h) (by assumption) (by rfl) ?ya1 ?ra1
        case ya1 => (intro w hSw; (try dsimp only at hSw); go_simp; try with_reducible rfl)
        try simp only [Act.put, List.setIfInBounds_toArray, List.set_cons_zero, List.set_cons_succ]
        refine runH 2 (v := ?va2) rfl (by kernel_rfl) (fun _ _ _ h => h) (by assumption) (by rfl) ?ya2 ?ra2
        case ya2 => (intro w hSw; (try dsimp only at hSw); go_simp; try with_reducible rfl)
        try simp only [Act.put, List.setIfInBounds_toArray, List.set_cons_zero, List.set_cons_succ]
        refine runH 3 (v := ?va3) rfl (by kernel_rfl) (fun _ _ _ h => h) (by assumption) (by rfl) ?ya3 ?ra3
        case ya3 => (intro w hSw; (try dsimp only at hSw); go_simp; try with_reducible rfl)
        try simp only [Act.put, List.setIfInBounds_toArray, List.set_cons_zero, List.set_cons_succ]
        refine runH 4 (v := ?va4) rfl (by kernel_rfl) (fun _ _ _ h => h) (by assumption) (by rfl) ?ya4 ?ra4
        case ya4 => (intro w hSw; (try dsimp only at hSw); go_simp; try with_reducible rfl)
        try simp only [Act.put, List.setIfInBounds_toArray, List.set_cons_zero, List.set_cons_succ]
        refine wpAnyH_ready (rs := [5]) (by kernel_rfl) (by simp) ?_
        refine AllReadyH.cons rfl (fun K hK => ?_) AllReadyH.nil
        go_simp
        go_at_call 82; refine (HCf.out).mono ?_; rintro e w1 ⟨rfl, hb1⟩
        go_wp2_with fail
        refine hK.out _ _ ?_ (fun hHeld2 => ?_)
        · exact ⟨pw_cell_below hb1 cv4, pw_cell_below hb1 cv0, pw_cell_below hb1 x0, pw_cell_below hb1 x1, pw_cell_below hb1 x2, pw_cell_below hb1 x3, pw_cell_below hb1 x4⟩
        clear hK K hHeld
        rename _ => hHeld
        try simp only [Act.put, List.setIfInBounds_toArray, List.set_cons_zero, List.set_cons_succ]
        refine runH 6 (v := ?va6) rfl (by kernel_rfl) (fun _ _ _ h => h) (by assumption) (by rfl) ?ya6 ?ra6
        case ya6 => (intro w hSw; (try dsimp only at hSw); go_simp; try with_reducible rfl)
        try simp only [Act.put, List.setIfInBounds_toArray, List.set_cons_zero, List.set_cons_succ]
        refine runH 7 (v := ?va7) rfl (by kernel_rfl) (fun _ _ _ h => h) (by assumption) (by rfl) ?ya7 ?ra7
        case ya7 => (intro w hSw; (try dsimp only at hSw); go_simp; try with_reducible rfl)
        try simp only [Act.put, List.setIfInBounds_toArray, List.set_cons_zero, List.set_cons_succ]
        refine skipH 8 rfl (by kernel_rfl) (fun _ _ _ h => h) (by assumption) (by rfl) ?_
        try simp only [Act.put, List.setIfInBounds_toArray, List.set_cons_zero, List.set_cons_succ]
        refine skipH 9 rfl (by kernel_rfl) (fun _ _ _ h => h) (by assumption) (by rfl) ?_
        try simp only [Act.put, List.setIfInBounds_toArray, List.set_cons_zero, List.set_cons_succ]
        refine skipH 10 rfl (by kernel_rfl) (fun _ _ _ h => h) (by assumption) (by rfl) ?_
        try simp only [Act.put, List.setIfInBounds_toArray, List.set_cons_zero, List.set_cons_succ]
        refine skipH 11 rfl (by kernel_rfl) (fun _ _ _ h => h) (by assumption) (by rfl) ?_
        try simp only [Act.put, List.setIfInBounds_toArray, List.set_cons_zero, List.set_cons_succ]
        refine skipH 12 rfl (by kernel_rfl) (fun _ _ _ h => h) (by assumption) (by rfl) ?_
        try simp only [Act.put, List.setIfInBounds_toArray, List.set_cons_zero, List.set_cons_succ]
        refine skipH 13 rfl (by kernel_rfl) (fun _ _ _ h => h) (by assumption) (by rfl) ?_
        try simp only [Act.put, List.setIfInBounds_toArray, List.set_cons_zero, List.set_cons_succ]
        refine skipH 14 rfl (by kernel_rfl) (fun _ _ _ h => h) (by assumption) (by rfl) ?_
        try simp only [Act.put, List.setIfInBounds_toArray, List.set_cons_zero, List.set_cons_succ]
        refine skipH 15 rfl (by kernel_rfl) (fun _ _ _ h => h) (by assumption) (by rfl) ?_
        try simp only [Act.put, List.setIfInBounds_toArray, List.set_cons_zero, List.set_cons_succ]
        refine skipH 16 rfl (by kernel_rfl) (fun _ _ _ h => h) (by assumption) (by rfl) ?_
        try simp only [Act.put, List.setIfInBounds_toArray, List.set_cons_zero, List.set_cons_succ]
        refine skipH 17 rfl (by kernel_rfl) (fun _ _ _ h => h) (by assumption) (by rfl) ?_
        try simp only [Act.put, List.setIfInBounds_toArray, List.set_cons_zero, List.set_cons_succ]
        refine skipH 18 rfl (by kernel_rfl) (fun _ _ _ h => h) (by assumption) (by rfl) ?_
        try simp only [Act.put, List.setIfInBounds_toArray, List.set_cons_zero, List.set_cons_succ]
        refine skipH 19 rfl (by kernel_rfl) (fun _ _ _ h => h) (by assumption) (by rfl) ?_
        try simp only [Act.put, List.setIfInBounds_toArray, List.set_cons_zero, List.set_cons_succ]
        refine skipH 20 rfl (by kernel_rfl) (fun _ _ _ h => h) (by assumption) (by rfl) ?_
        try simp only [Act.put, List.setIfInBounds_toArray, List.set_cons_zero, List.set_cons_succ]
        refine skipH 21 rfl (by kernel_rfl) (fun _ _ _ h => h) (by assumption) (by rfl) ?_
        try simp only [Act.put, List.setIfInBounds_toArray, List.set_cons_zero, List.set_cons_succ]
        refine skipH 22 rfl (by kernel_rfl) (fun _ _ _ h => h) (by assumption) (by rfl) ?_
        try simp only [Act.put, List.setIfInBounds_toArray, List.set_cons_zero, List.set_cons_succ]
        refine skipH 23 rfl (by kernel_rfl) (fun _ _ _ h => h) (by assumption) (by rfl) ?_
        try simp only [Act.put, List.setIfInBounds_toArray, List.set_cons_zero, List.set_cons_succ]
        refine skipH 24 rfl (by kernel_rfl) (fun _ _ _ h => h) (by assumption) (by rfl) ?_
        try simp only [Act.put, List.setIfInBounds_toArray, List.set_cons_zero, List.set_cons_succ]
        refine skipH 25 rfl (by kernel_rfl) (fun _ _ _ h => h) (by assumption) (by rfl) ?_
        try simp only [Act.put, List.setIfInBounds_toArray, List.set_cons_zero, List.set_cons_succ]
        refine skipH 26 rfl (by kernel_rfl) (fun _ _ _ h => h) (by assumption) (by rfl) ?_
        try simp only [Act.put, List.setIfInBounds_toArray, List.set_cons_zero, List.set_cons_succ]
        refine skipH 27 rfl (by kernel_rfl) (fun _ _ _ h => h) (by assumption) (by rfl) ?_
        try simp only [Act.put, List.setIfInBounds_toArray, List.set_cons_zero, List.set_cons_succ]
        refine skipH 28 rfl (by kernel_rfl) (fun _ _ _ h => h) (by assumption) (by rfl) ?_
        try simp only [Act.put, List.setIfInBounds_toArray, List.set_cons_zero, List.set_cons_succ]
        refine skipH 29 rfl (by kernel_rfl) (fun _ _ _ h => h) (by assumption) (by rfl) ?_
        try simp only [Act.put, List.setIfInBounds_toArray, List.set_cons_zero, List.set_cons_succ]
        refine runH 30 (v := ?va30) rfl (by kernel_rfl) (fun _ _ _ h => h) (by assumption) (by rfl) ?ya30 ?ra30
        case ya30 => (intro w hSw; (try dsimp only at hSw); go_simp; try with_reducible rfl)
        try simp only [Act.put, List.setIfInBounds_toArray, List.set_cons_zero, List.set_cons_succ]
        refine wpAnyH_done (by kernel_rfl) ?_ _
        go_wp2
        go_ret
        exact ⟨by rw [HR.out]; rfl, HWW6.out w1 hb1⟩
      · have HF2 := Lib.hid (show ∀ j : Int, 0 ≤ j → j < i + 1 → formV (rd_T43 v.f4 j) = true from fun j h0 h1 => by
          by_cases hj : j = i
          · rw [hj, ← HXE.out]; exact HFX.out.symm
          · exact HF.out j h0 (by omega))
        have hsk7 := HSK.out
        cases sk
        · have HN := Lib.hid (show r = formL false (prevOf v.f4 (i + 1)) (v.f4.drop (i + 1).toNat) from by rw [HI.out, hstep.out]; simp [riseB])
          refine wp_region_held_drew (S := (fun w => w.cell? ⟨W.heap.size, 4, none⟩ = some (.slice (some ad) v.f4.length c) ∧ w.cell? ⟨W.heap.size, 0, none⟩ = some (.int .i64 v.f0) ∧ w.cell? (ad.add (i.toNat * 5)) = some (.int .i64 x.f0) ∧ w.cell? ⟨(ad.add (i.toNat * 5)).block, (ad.add (i.toNat * 5)).off + 1, none⟩ = some (.int .i64 x.f1) ∧ w.cell? ⟨(ad.add (i.toNat * 5)).block, (ad.add (i.toNat * 5)).off + 2, none⟩ = some (.int .i64 x.f2) ∧ w.cell? ⟨(ad.add (i.toNat * 5)).block, (ad.add (i.toNat * 5)).off + 3, none⟩ = some (.string x.f3) ∧ w.cell? ⟨(ad.add (i.toNat * 5)).block, (ad.add (i.toNat * 5)).off + 4, none⟩ = some (.slice A4 x.f4.length c4))) (by kernel_rfl) ?_ (fun hHeld => ?_)
          · exact ⟨cv4, cv0, x0, x1, x2, x3, x4⟩
          refine runH 0 (v := ?vb0) rfl (by kernel_rfl) (fun _ _ _ h => h) (by assumption) (by rfl) ?yb0 ?rb0
          case yb0 => (intro w hSw; (try dsimp only at hSw); go_simp; try with_reducible rfl)
          try simp only [Act.put, List.setIfInBounds_toArray, List.set_cons_zero, List.set_cons_succ]
          refine runH 1 (v := ?vb1) rfl (by kernel_rfl) (fun _ _ _ h => h) (by assumption) (by rfl) ?yb1 ?rb1
          case yb1 => (intro w hSw; (try dsimp only at hSw); go_simp; try with_reducible rfl)
          try simp only [Act.put, List.setIfInBounds_toArray, List.set_cons_zero, List.set_cons_succ]
          refine runH 2 (v := ?vb2) rfl (by kernel_rfl) (fun _ _ _ h => h) (by assumption) (by rfl) ?yb2 ?rb2
          case yb2 => (intro w hSw; (try dsimp only at hSw); go_simp; try with_reducible rfl)
          try simp only [Act.put, List.setIfInBounds_toArray, List.set_cons_zero, List.set_cons_succ]
          refine runH 3 (v := ?vb3) rfl (by kernel_rfl) (fun _ _ _ h => h) (by assumption) (by rfl) ?yb3 ?rb3
          case yb3 => (intro w hSw; (try dsimp only at hSw); go_simp; try with_reducible rfl)
          try simp only [Act.put, List.setIfInBounds_toArray, List.set_cons_zero, List.set_cons_succ]
          refine runH 4 (v := ?vb4) rfl (by kernel_rfl) (fun _ _ _ h => h) (by assumption) (by rfl) ?yb4 ?rb4
          case yb4 => (intro w hSw; (try dsimp only at hSw); go_simp; try with_reducible rfl)
          try simp only [Act.put, List.setIfInBounds_toArray, List.set_cons_zero, List.set_cons_succ]
          refine wpAnyH_ready (rs := [5]) (by kernel_rfl) (by simp) ?_
          refine AllReadyH.cons rfl (fun K hK => ?_) AllReadyH.nil
          go_simp
          go_at_call 82; refine (HCf.out).mono ?_; rintro e w1 ⟨rfl, hb1⟩
          go_wp2_with fail
          refine hK.out _ _ ?_ (fun hHeld2 => ?_)
          · exact ⟨pw_cell_below hb1 cv4, pw_cell_below hb1 cv0, pw_cell_below hb1 x0, pw_cell_below hb1 x1, pw_cell_below hb1 x2, pw_cell_below hb1 x3, pw_cell_below hb1 x4⟩
          clear hK K hHeld
          rename _ => hHeld
          try simp only [Act.put, List.setIfInBounds_toArray, List.set_cons_zero, List.set_cons_succ]
          refine runH 6 (v := ?vb6) rfl (by kernel_rfl) (fun _ _ _ h => h) (by assumption) (by rfl) ?yb6 ?rb6
          case yb6 => (intro w hSw; (try dsimp only at hSw); go_simp; try with_reducible rfl)
          try simp only [Act.put, List.setIfInBounds_toArray, List.set_cons_zero, List.set_cons_succ]
          refine runH 7 (v := ?vb7) rfl (by kernel_rfl) (fun _ _ _ h => h) (by assumption) (by rfl) ?yb7 ?rb7
          case yb7 => (intro w hSw; (try dsimp only at hSw); go_simp; try with_reducible rfl)
          try simp only [Act.put, List.setIfInBounds_toArray, List.set_cons_zero, List.set_cons_succ]
          refine runH 8 (v := ?vb8) rfl (by kernel_rfl) (fun _ _ _ h => h) (by assumption) (by rfl) ?yb8 ?rb8
          case yb8 => (intro w hSw; (try dsimp only at hSw); go_simp; try with_reducible rfl)
          try simp only [Act.put, List.setIfInBounds_toArray, List.set_cons_zero, List.set_cons_succ]
          refine runH 9 (v := ?vb9) rfl (by kernel_rfl) (fun _ _ _ h => h) (by assumption) (by rfl) ?yb9 ?rb9
          case yb9 => (intro w hSw; (try dsimp only at hSw); go_simp; try with_reducible rfl)
          try simp only [Act.put, List.setIfInBounds_toArray, List.set_cons_zero, List.set_cons_succ]
          refine runH 10 (v := ?vb10) rfl (by kernel_rfl) (fun _ _ _ h => h) (by assumption) (by rfl) ?yb10 ?rb10
          case yb10 => (intro w hSw; (try dsimp only at hSw); go_simp; try with_reducible rfl)
          try simp only [Act.put, List.setIfInBounds_toArray, List.set_cons_zero, List.set_cons_succ]
          refine runH 11 (v := ?vb11) rfl (by kernel_rfl) (fun _ _ _ h => h) (by assumption) (by rfl) ?yb11 ?rb11
          case yb11 => (intro w hSw; (try dsimp only at hSw); go_simp; try with_reducible rfl)
          try simp only [Act.put, List.setIfInBounds_toArray, List.set_cons_zero, List.set_cons_succ]
          refine skipH 12 rfl (by kernel_rfl) (fun _ _ _ h => h) (by assumption) (by rfl) ?_
          try simp only [Act.put, List.setIfInBounds_toArray, List.set_cons_zero, List.set_cons_succ]
          refine skipH 13 rfl (by kernel_rfl) (fun _ _ _ h => h) (by assumption) (by rfl) ?_
          try simp only [Act.put, List.setIfInBounds_toArray, List.set_cons_zero, List.set_cons_succ]
          refine runH 14 (v := ?vb14) rfl (by kernel_rfl) (fun _ _ _ h => h) (by assumption) (by rfl) ?yb14 ?rb14
          case yb14 => (intro w hSw; (try dsimp only at hSw); go_simp; try with_reducible rfl)
          try simp only [Act.put, List.setIfInBounds_toArray, List.set_cons_zero, List.set_cons_succ]
          refine runH 15 (v := ?vb15) rfl (by kernel_rfl) (fun _ _ _ h => h) (by assumption) (by rfl) ?yb15 ?rb15
          case yb15 => (intro w hSw; (try dsimp only at hSw); go_simp; try with_reducible rfl)
          try simp only [Act.put, List.setIfInBounds_toArray, List.set_cons_zero, List.set_cons_succ]
          refine skipH 16 rfl (by kernel_rfl) (fun _ _ _ h => h) (by assumption) (by rfl) ?_
          try simp only [Act.put, List.setIfInBounds_toArray, List.set_cons_zero, List.set_cons_succ]
          refine skipH 17 rfl (by kernel_rfl) (fun _ _ _ h => h) (by assumption) (by rfl) ?_
          try simp only [Act.put, List.setIfInBounds_toArray, List.set_cons_zero, List.set_cons_succ]
          refine skipH 18 rfl (by kernel_rfl) (fun _ _ _ h => h) (by assumption) (by rfl) ?_
          try simp only [Act.put, List.setIfInBounds_toArray, List.set_cons_zero, List.set_cons_succ]
          refine skipH 19 rfl (by kernel_rfl) (fun _ _ _ h => h) (by assumption) (by rfl) ?_
          try simp only [Act.put, List.setIfInBounds_toArray, List.set_cons_zero, List.set_cons_succ]
          refine skipH 20 rfl (by kernel_rfl) (fun _ _ _ h => h) (by assumption) (by rfl) ?_
          try simp only [Act.put, List.setIfInBounds_toArray, List.set_cons_zero, List.set_cons_succ]
          refine skipH 21 rfl (by kernel_rfl) (fun _ _ _ h => h) (by assumption) (by rfl) ?_
          try simp only [Act.put, List.setIfInBounds_toArray, List.set_cons_zero, List.set_cons_succ]
          refine skipH 22 rfl (by kernel_rfl) (fun _ _ _ h => h) (by assumption) (by rfl) ?_
          try simp only [Act.put, List.setIfInBounds_toArray, List.set_cons_zero, List.set_cons_succ]
          refine skipH 23 rfl (by kernel_rfl) (fun _ _ _ h => h) (by assumption) (by rfl) ?_
          try simp only [Act.put, List.setIfInBounds_toArray, List.set_cons_zero, List.set_cons_succ]
          refine skipH 24 rfl (by kernel_rfl) (fun _ _ _ h => h) (by assumption) (by rfl) ?_
          try simp only [Act.put, List.setIfInBounds_toArray, List.set_cons_zero, List.set_cons_succ]
          refine skipH 25 rfl (by kernel_rfl) (fun _ _ _ h => h) (by assumption) (by rfl) ?_
          try simp only [Act.put, List.setIfInBounds_toArray, List.set_cons_zero, List.set_cons_succ]
          refine skipH 26 rfl (by kernel_rfl) (fun _ _ _ h => h) (by assumption) (by rfl) ?_
          try simp only [Act.put, List.setIfInBounds_toArray, List.set_cons_zero, List.set_cons_succ]
          refine skipH 27 rfl (by kernel_rfl) (fun _ _ _ h => h) (by assumption) (by rfl) ?_
          try simp only [Act.put, List.setIfInBounds_toArray, List.set_cons_zero, List.set_cons_succ]
          refine skipH 28 rfl (by kernel_rfl) (fun _ _ _ h => h) (by assumption) (by rfl) ?_
          try simp only [Act.put, List.setIfInBounds_toArray, List.set_cons_zero, List.set_cons_succ]
          refine runH 29 (v := ?vb29) rfl (by kernel_rfl) (fun _ _ _ h => h) (by assumption) (by rfl) ?yb29 ?rb29
          case yb29 => (intro w hSw; (try dsimp only at hSw); go_simp; try with_reducible rfl)
          try simp only [Act.put, List.setIfInBounds_toArray, List.set_cons_zero, List.set_cons_succ]
          refine runH 30 (v := ?vb30) rfl (by kernel_rfl) (fun _ _ _ h => h) (by assumption) (by rfl) ?yb30 ?rb30
          case yb30 => (intro w hSw; (try dsimp only at hSw); go_simp; try with_reducible rfl)
          try simp only [Act.put, List.setIfInBounds_toArray, List.set_cons_zero, List.set_cons_succ]
          refine wpAnyH_done (by kernel_rfl) ?_ _
          go_wp2
          go_roundw
          case rel => exact ⟨i + 1, rfl, by omega, by omega, HN.out, HF2.out, HW6.out w1 hb1⟩
          case measure => simp [intOf]; omega
        · by_cases hi0' : i = 0
          · have HN := Lib.hid (show r = formL true (prevOf v.f4 (i + 1)) (v.f4.drop (i + 1).toNat) from by rw [HI.out, hstep.out]; simp [riseB, prevOf, hi0'])
            have hd0 : decide (0 < i) = false := decide_eq_false (by omega)
            have hd0' : decide (i > 0) = false := decide_eq_false (by omega)
            clear hi0'
            refine wp_region_held_drew (S := (fun w => w.cell? ⟨W.heap.size, 4, none⟩ = some (.slice (some ad) v.f4.length c) ∧ w.cell? ⟨W.heap.size, 0, none⟩ = some (.int .i64 v.f0) ∧ w.cell? (ad.add (i.toNat * 5)) = some (.int .i64 x.f0) ∧ w.cell? ⟨(ad.add (i.toNat * 5)).block, (ad.add (i.toNat * 5)).off + 1, none⟩ = some (.int .i64 x.f1) ∧ w.cell? ⟨(ad.add (i.toNat * 5)).block, (ad.add (i.toNat * 5)).off + 2, none⟩ = some (.int .i64 x.f2) ∧ w.cell? ⟨(ad.add (i.toNat * 5)).block, (ad.add (i.toNat * 5)).off + 3, none⟩ = some (.string x.f3) ∧ w.cell? ⟨(ad.add (i.toNat * 5)).block, (ad.add (i.toNat * 5)).off + 4, none⟩ = some (.slice A4 x.f4.length c4))) (by kernel_rfl) ?_ (fun hHeld => ?_)
            · exact ⟨cv4, cv0, x0, x1, x2, x3, x4⟩
            refine runH 0 (v := ?vc0) rfl (by kernel_rfl) (fun _ _ _ h => h) (by assumption) (by rfl) ?yc0 ?rc0
            case yc0 => (intro w hSw; (try dsimp only at hSw); go_simp; try with_reducible rfl)
            try simp only [Act.put, List.setIfInBounds_toArray, List.set_cons_zero, List.set_cons_succ]
            refine runH 1 (v := ?vc1) rfl (by kernel_rfl) (fun _ _ _ h => h) (by assumption) (by rfl) ?yc1 ?rc1
            case yc1 => (intro w hSw; (try dsimp only at hSw); go_simp; try with_reducible rfl)
            try simp only [Act.put, List.setIfInBounds_toArray, List.set_cons_zero, List.set_cons_succ]
            refine runH 2 (v := ?vc2) rfl (by kernel_rfl) (fun _ _ _ h => h) (by assumption) (by rfl) ?yc2 ?rc2
            case yc2 => (intro w hSw; (try dsimp only at hSw); go_simp; try with_reducible rfl)
            try simp only [Act.put, List.setIfInBounds_toArray, List.set_cons_zero, List.set_cons_succ]
            refine runH 3 (v := ?vc3) rfl (by kernel_rfl) (fun _ _ _ h => h) (by assumption) (by rfl) ?yc3 ?rc3
            case yc3 => (intro w hSw; (try dsimp only at hSw); go_simp; try with_reducible rfl)
            try simp only [Act.put, List.setIfInBounds_toArray, List.set_cons_zero, List.set_cons_succ]
            refine runH 4 (v := ?vc4) rfl (by kernel_rfl) (fun _ _ _ h => h) (by assumption) (by rfl) ?yc4 ?rc4
            case yc4 => (intro w hSw; (try dsimp only at hSw); go_simp; try with_reducible rfl)
            try simp only [Act.put, List.setIfInBounds_toArray, List.set_cons_zero, List.set_cons_succ]
            refine wpAnyH_ready (rs := [5]) (by kernel_rfl) (by simp) ?_
            refine AllReadyH.cons rfl (fun K hK => ?_) AllReadyH.nil
            go_simp
            go_at_call 82; refine (HCf.out).mono ?_; rintro e w1 ⟨rfl, hb1⟩
            go_wp2_with fail
            refine hK.out _ _ ?_ (fun hHeld2 => ?_)
            · exact ⟨pw_cell_below hb1 cv4, pw_cell_below hb1 cv0, pw_cell_below hb1 x0, pw_cell_below hb1 x1, pw_cell_below hb1 x2, pw_cell_below hb1 x3, pw_cell_below hb1 x4⟩
            clear hK K hHeld
            rename _ => hHeld
            try simp only [Act.put, List.setIfInBounds_toArray, List.set_cons_zero, List.set_cons_succ]
            refine runH 6 (v := ?vc6) rfl (by kernel_rfl) (fun _ _ _ h => h) (by assumption) (by rfl) ?yc6 ?rc6
            case yc6 => (intro w hSw; (try dsimp only at hSw); go_simp; try with_reducible rfl)
            try simp only [Act.put, List.setIfInBounds_toArray, List.set_cons_zero, List.set_cons_succ]
            refine runH 7 (v := ?vc7) rfl (by kernel_rfl) (fun _ _ _ h => h) (by assumption) (by rfl) ?yc7 ?rc7
            case yc7 => (intro w hSw; (try dsimp only at hSw); go_simp; try with_reducible rfl)
            try simp only [Act.put, List.setIfInBounds_toArray, List.set_cons_zero, List.set_cons_succ]
            refine runH 8 (v := ?vc8) rfl (by kernel_rfl) (fun _ _ _ h => h) (by assumption) (by rfl) ?yc8 ?rc8
            case yc8 => (intro w hSw; (try dsimp only at hSw); go_simp; try with_reducible rfl)
            try simp only [Act.put, List.setIfInBounds_toArray, List.set_cons_zero, List.set_cons_succ]
            refine runH 9 (v := ?vc9) rfl (by kernel_rfl) (fun _ _ _ h => h) (by assumption) (by rfl) ?yc9 ?rc9
            case yc9 => (intro w hSw; (try dsimp only at hSw); go_simp; try with_reducible rfl)
            try simp only [Act.put, List.setIfInBounds_toArray, List.set_cons_zero, List.set_cons_succ]
            refine runH 10 (v := ?vc10) rfl (by kernel_rfl) (fun _ _ _ h => h) (by assumption) (by rfl) ?yc10 ?rc10
            case yc10 => (intro w hSw; (try dsimp only at hSw); go_simp; try with_reducible rfl)
            try simp only [Act.put, List.setIfInBounds_toArray, List.set_cons_zero, List.set_cons_succ]
            refine runH 11 (v := ?vc11) rfl (by kernel_rfl) (fun _ _ _ h => h) (by assumption) (by rfl) ?yc11 ?rc11
            case yc11 => (intro w hSw; (try dsimp only at hSw); go_simp; try with_reducible rfl)
            try simp only [Act.put, List.setIfInBounds_toArray, List.set_cons_zero, List.set_cons_succ]
            refine runH 12 (v := ?vc12) rfl (by kernel_rfl) (fun _ _ _ h => h) (by assumption) (by rfl) ?yc12 ?rc12
            case yc12 => (intro w hSw; (try dsimp only at hSw); go_simp; try with_reducible rfl)
            try simp only [Act.put, List.setIfInBounds_toArray, List.set_cons_zero, List.set_cons_succ]
            refine runH 13 (v := ?vc13) rfl (by kernel_rfl) (fun _ _ _ h => h) (by assumption) (by rfl) ?yc13 ?rc13
            case yc13 => (intro w hSw; (try dsimp only at hSw); go_simp; try with_reducible rfl)
            try simp only [Act.put, List.setIfInBounds_toArray, List.set_cons_zero, List.set_cons_succ]
            refine runH 14 (v := ?vc14) rfl (by kernel_rfl) (fun _ _ _ h => h) (by assumption) (by rfl) ?yc14 ?rc14
            case yc14 => (intro w hSw; (try dsimp only at hSw); go_simp; try with_reducible rfl)
            try simp only [Act.put, List.setIfInBounds_toArray, List.set_cons_zero, List.set_cons_succ]
            refine runH 15 (v := ?vc15) rfl (by kernel_rfl) (fun _ _ _ h => h) (by assumption) (by rfl) ?yc15 ?rc15
            case yc15 => (intro w hSw; (try dsimp only at hSw); go_simp; try with_reducible rfl)
            try simp only [Act.put, List.setIfInBounds_toArray, List.set_cons_zero, List.set_cons_succ]
            refine skipH 16 rfl (by kernel_rfl) (fun _ _ _ h => h) (by assumption) (by rfl) ?_
            try simp only [Act.put, List.setIfInBounds_toArray, List.set_cons_zero, List.set_cons_succ]
            refine skipH 17 rfl (by kernel_rfl) (fun _ _ _ h => h) (by assumption) (by rfl) ?_
            try simp only [Act.put, List.setIfInBounds_toArray, List.set_cons_zero, List.set_cons_succ]
            refine skipH 18 rfl (by kernel_rfl) (fun _ _ _ h => h) (by assumption) (by rfl) ?_
            try simp only [Act.put, List.setIfInBounds_toArray, List.set_cons_zero, List.set_cons_succ]
            refine skipH 19 rfl (by kernel_rfl) (fun _ _ _ h => h) (by assumption) (by rfl) ?_
            try simp only [Act.put, List.setIfInBounds_toArray, List.set_cons_zero, List.set_cons_succ]
            refine skipH 20 rfl (by kernel_rfl) (fun _ _ _ h => h) (by assumption) (by rfl) ?_
            try simp only [Act.put, List.setIfInBounds_toArray, List.set_cons_zero, List.set_cons_succ]
            refine skipH 21 rfl (by kernel_rfl) (fun _ _ _ h => h) (by assumption) (by rfl) ?_
            try simp only [Act.put, List.setIfInBounds_toArray, List.set_cons_zero, List.set_cons_succ]
            refine skipH 22 rfl (by kernel_rfl) (fun _ _ _ h => h) (by assumption) (by rfl) ?_
            try simp only [Act.put, List.setIfInBounds_toArray, List.set_cons_zero, List.set_cons_succ]
            refine skipH 23 rfl (by kernel_rfl) (fun _ _ _ h => h) (by assumption) (by rfl) ?_
            try simp only [Act.put, List.setIfInBounds_toArray, List.set_cons_zero, List.set_cons_succ]
            refine skipH 24 rfl (by kernel_rfl) (fun _ _ _ h => h) (by assumption) (by rfl) ?_
            try simp only [Act.put, List.setIfInBounds_toArray, List.set_cons_zero, List.set_cons_succ]
            refine skipH 25 rfl (by kernel_rfl) (fun _ _ _ h => h) (by assumption) (by rfl) ?_
            try simp only [Act.put, List.setIfInBounds_toArray, List.set_cons_zero, List.set_cons_succ]
            refine skipH 26 rfl (by kernel_rfl) (fun _ _ _ h => h) (by assumption) (by rfl) ?_
            try simp only [Act.put, List.setIfInBounds_toArray, List.set_cons_zero, List.set_cons_succ]
            refine skipH 27 rfl (by kernel_rfl) (fun _ _ _ h => h) (by assumption) (by rfl) ?_
            try simp only [Act.put, List.setIfInBounds_toArray, List.set_cons_zero, List.set_cons_succ]
            refine skipH 28 rfl (by kernel_rfl) (fun _ _ _ h => h) (by assumption) (by rfl) ?_
            try simp only [Act.put, List.setIfInBounds_toArray, List.set_cons_zero, List.set_cons_succ]
            refine runH 29 (v := ?vc29) rfl (by kernel_rfl) (fun _ _ _ h => h) (by assumption) (by rfl) ?yc29 ?rc29
            case yc29 => (intro w hSw; (try dsimp only at hSw); go_simp; try with_reducible rfl)
            try simp only [Act.put, List.setIfInBounds_toArray, List.set_cons_zero, List.set_cons_succ]
            refine runH 30 (v := ?vc30) rfl (by kernel_rfl) (fun _ _ _ h => h) (by assumption) (by rfl) ?yc30 ?rc30
            case yc30 => (intro w hSw; (try dsimp only at hSw); go_simp; try with_reducible rfl)
            try simp only [Act.put, List.setIfInBounds_toArray, List.set_cons_zero, List.set_cons_succ]
            refine wpAnyH_done (by kernel_rfl) ?_ _
            go_wp2
            go_roundw
            case rel => exact ⟨i + 1, rfl, by omega, by omega, HN.out, HF2.out, HW6.out w1 hb1⟩
            case measure => simp [intOf]; omega
          · obtain ⟨j, rfl⟩ : ∃ j, i = j + 1 := ⟨i - 1, by omega⟩
            have hj0 : 0 ≤ j := by omega
            have hj1 : j < (v.f4.length : Int) := by omega
            have hd0 : decide (0 < j + 1) = true := decide_eq_true (by omega)
            have hd0' : decide (j + 1 > 0) = true := decide_eq_true (by omega)
            have hya := at_T43 HCr.out j hj0 hj1
            have hpv : prevOf v.f4 (j + 1) = some (rd_T43 v.f4 j) := by unfold prevOf; rw [if_neg (by omega), show j + 1 - 1 = j by omega]
            have hfy := HF.out j hj0 (by omega)
            rw [hpv] at hstep
            obtain ⟨y, hy⟩ : ∃ y, y = rd_T43 v.f4 j := ⟨_, rfl⟩
            rw [← hy] at hya hstep hfy
            obtain ⟨ad', B4, d4, hade, y0, y1, y2, y3, y4, ml4, mF4⟩ := hya
            obtain rfl : ad = ad' := by injection hade
            have hwr : IntKind.i64.wrap j = j := IntWalk.i64_in _ (by omega)
            obtain ⟨q, hq⟩ : ∃ r, r = ordV y x := ⟨_, rfl⟩
            have HOr := Lib.hid (fun w1 (hb1 : Below wr.drew.heap.size wr.drew w1) => show Calls Try.prog 78 #[.agg #[.int .i64 y.f0, .int .i64 y.f1, .int .i64 y.f2, .string y.f3, .slice B4 y.f4.length d4], .agg #[.int .i64 x.f0, .int .i64 x.f1, .int .i64 x.f2, .string x.f3, .slice A4 x.f4.length c4]] w1 (fun e w2 => e = .returned (.int .i64 q) ∧ Below w1.heap.size w1 w2) from by
              have hbw : Below wr.heap.size wr w1 := (below_drew (Below.refl _ _)).trans hb1
              have h := rorder_any (nd y) y x B4 A4 d4 c4 w1 (Nat.le_refl _) (Kd.C_below mF4 hbw) ml4 (Kd.C_below HF4.out hbw) HL4.out
              rw [ord_form (nd y) y x (Nat.le_refl _) hfy HFX.out.symm, ← hq] at h
              exact h)
            have HW7 := Lib.hid (fun w1 w2 (hb1 : Below wr.drew.heap.size wr.drew w1) (hb2 : Below w1.heap.size w1 w2) => show Below wz.heap.size wz w2 from (HW6.out w1 hb1).trans (hb2.mono (HW6.out w1 hb1).size))
            have HWW7 := Lib.hid (fun w1 w2 (hb1 : Below wr.drew.heap.size wr.drew w1) (hb2 : Below w1.heap.size w1 w2) => show Below W.heap.size W w2 from (HWW6.out w1 hb1).trans (hb2.mono (HWW6.out w1 hb1).size))
            have hstep2 := Lib.hid (show r = (!(decide (0 ≤ q)) && formL true (prevOf v.f4 (j + 1 + 1)) (v.f4.drop (j + 1 + 1).toNat)) from by rw [HI.out, hpv, ← hy, hstep.out, hq]; simp [riseB])
            clear hi0' hpv hy hq hade hstep mF4 ml4 hfy
            refine wp_region_held_drew (S := (fun w => w.cell? ⟨W.heap.size, 4, none⟩ = some (.slice (some ad) v.f4.length c) ∧ w.cell? ⟨W.heap.size, 0, none⟩ = some (.int .i64 v.f0) ∧ w.cell? (ad.add ((j + 1).toNat * 5)) = some (.int .i64 x.f0) ∧ w.cell? ⟨(ad.add ((j + 1).toNat * 5)).block, (ad.add ((j + 1).toNat * 5)).off + 1, none⟩ = some (.int .i64 x.f1) ∧ w.cell? ⟨(ad.add ((j + 1).toNat * 5)).block, (ad.add ((j + 1).toNat * 5)).off + 2, none⟩ = some (.int .i64 x.f2) ∧ w.cell? ⟨(ad.add ((j + 1).toNat * 5)).block, (ad.add ((j + 1).toNat * 5)).off + 3, none⟩ = some (.string x.f3) ∧ w.cell? ⟨(ad.add ((j + 1).toNat * 5)).block, (ad.add ((j + 1).toNat * 5)).off + 4, none⟩ = some (.slice A4 x.f4.length c4) ∧ w.cell? (ad.add (j.toNat * 5)) = some (.int .i64 y.f0) ∧ w.cell? ⟨(ad.add (j.toNat * 5)).block, (ad.add (j.toNat * 5)).off + 1, none⟩ = some (.int .i64 y.f1) ∧ w.cell? ⟨(ad.add (j.toNat * 5)).block, (ad.add (j.toNat * 5)).off + 2, none⟩ = some (.int .i64 y.f2) ∧ w.cell? ⟨(ad.add (j.toNat * 5)).block, (ad.add (j.toNat * 5)).off + 3, none⟩ = some (.string y.f3) ∧ w.cell? ⟨(ad.add (j.toNat * 5)).block, (ad.add (j.toNat * 5)).off + 4, none⟩ = some (.slice B4 y.f4.length d4))) (by kernel_rfl) ?_ (fun hHeld => ?_)
            · exact ⟨cv4, cv0, x0, x1, x2, x3, x4, y0, y1, y2, y3, y4⟩
            refine runH 0 (v := ?vd0) rfl (by kernel_rfl) (fun _ _ _ h => h) (by assumption) (by rfl) ?yd0 ?rd0
            case yd0 => (intro w hSw; (try dsimp only at hSw); go_simp; try with_reducible rfl)
            try simp only [Act.put, List.setIfInBounds_toArray, List.set_cons_zero, List.set_cons_succ]
            refine runH 1 (v := ?vd1) rfl (by kernel_rfl) (fun _ _ _ h => h) (by assumption) (by rfl) ?yd1 ?rd1
            case yd1 => (intro w hSw; (try dsimp only at hSw); go_simp; try with_reducible rfl)
            try simp only [Act.put, List.setIfInBounds_toArray, List.set_cons_zero, List.set_cons_succ]
            refine runH 2 (v := ?vd2) rfl (by kernel_rfl) (fun _ _ _ h => h) (by assumption) (by rfl) ?yd2 ?rd2
            case yd2 => (intro w hSw; (try dsimp only at hSw); go_simp; try with_reducible rfl)
            try simp only [Act.put, List.setIfInBounds_toArray, List.set_cons_zero, List.set_cons_succ]
            refine runH 3 (v := ?vd3) rfl (by kernel_rfl) (fun _ _ _ h => h) (by assumption) (by rfl) ?yd3 ?rd3
            case yd3 => (intro w hSw; (try dsimp only at hSw); go_simp; try with_reducible rfl)
            try simp only [Act.put, List.setIfInBounds_toArray, List.set_cons_zero, List.set_cons_succ]
            refine runH 4 (v := ?vd4) rfl (by kernel_rfl) (fun _ _ _ h => h) (by assumption) (by rfl) ?yd4 ?rd4
            case yd4 => (intro w hSw; (try dsimp only at hSw); go_simp; try with_reducible rfl)
            try simp only [Act.put, List.setIfInBounds_toArray, List.set_cons_zero, List.set_cons_succ]
            refine wpAnyH_ready (rs := [5]) (by kernel_rfl) (by simp) ?_
            refine AllReadyH.cons rfl (fun K hK => ?_) AllReadyH.nil
            go_simp
            go_at_call 82; refine (HCf.out).mono ?_; rintro e w1 ⟨rfl, hb1⟩
            go_wp2_with fail
            refine hK.out _ _ ?_ (fun hHeld2 => ?_)
            · exact ⟨pw_cell_below hb1 cv4, pw_cell_below hb1 cv0, pw_cell_below hb1 x0, pw_cell_below hb1 x1, pw_cell_below hb1 x2, pw_cell_below hb1 x3, pw_cell_below hb1 x4, pw_cell_below hb1 y0, pw_cell_below hb1 y1, pw_cell_below hb1 y2, pw_cell_below hb1 y3, pw_cell_below hb1 y4⟩
            clear hK K hHeld
            rename _ => hHeld
            try simp only [Act.put, List.setIfInBounds_toArray, List.set_cons_zero, List.set_cons_succ]
            refine runH 6 (v := ?vd6) rfl (by kernel_rfl) (fun _ _ _ h => h) (by assumption) (by rfl) ?yd6 ?rd6
            case yd6 => (intro w hSw; (try dsimp only at hSw); go_simp; try with_reducible rfl)
            try simp only [Act.put, List.setIfInBounds_toArray, List.set_cons_zero, List.set_cons_succ]
            refine runH 7 (v := ?vd7) rfl (by kernel_rfl) (fun _ _ _ h => h) (by assumption) (by rfl) ?yd7 ?rd7
            case yd7 => (intro w hSw; (try dsimp only at hSw); go_simp; try with_reducible rfl)
            try simp only [Act.put, List.setIfInBounds_toArray, List.set_cons_zero, List.set_cons_succ]
            refine runH 8 (v := ?vd8) rfl (by kernel_rfl) (fun _ _ _ h => h) (by assumption) (by rfl) ?yd8 ?rd8
            case yd8 => (intro w hSw; (try dsimp only at hSw); go_simp; try with_reducible rfl)
            try simp only [Act.put, List.setIfInBounds_toArray, List.set_cons_zero, List.set_cons_succ]
            refine runH 9 (v := ?vd9) rfl (by kernel_rfl) (fun _ _ _ h => h) (by assumption) (by rfl) ?yd9 ?rd9
            case yd9 => (intro w hSw; (try dsimp only at hSw); go_simp; try with_reducible rfl)
            try simp only [Act.put, List.setIfInBounds_toArray, List.set_cons_zero, List.set_cons_succ]
            refine runH 10 (v := ?vd10) rfl (by kernel_rfl) (fun _ _ _ h => h) (by assumption) (by rfl) ?yd10 ?rd10
            case yd10 => (intro w hSw; (try dsimp only at hSw); go_simp; try with_reducible rfl)
            try simp only [Act.put, List.setIfInBounds_toArray, List.set_cons_zero, List.set_cons_succ]
            refine runH 11 (v := ?vd11) rfl (by kernel_rfl) (fun _ _ _ h => h) (by assumption) (by rfl) ?yd11 ?rd11
            case yd11 => (intro w hSw; (try dsimp only at hSw); go_simp; try with_reducible rfl)
            try simp only [Act.put, List.setIfInBounds_toArray, List.set_cons_zero, List.set_cons_succ]
            refine runH 12 (v := ?vd12) rfl (by kernel_rfl) (fun _ _ _ h => h) (by assumption) (by rfl) ?yd12 ?rd12
            case yd12 => (intro w hSw; (try dsimp only at hSw); go_simp; try with_reducible rfl)
            try simp only [Act.put, List.setIfInBounds_toArray, List.set_cons_zero, List.set_cons_succ]
            refine runH 13 (v := ?vd13) rfl (by kernel_rfl) (fun _ _ _ h => h) (by assumption) (by rfl) ?yd13 ?rd13
            case yd13 => (intro w hSw; (try dsimp only at hSw); go_simp; try with_reducible rfl)
            try simp only [Act.put, List.setIfInBounds_toArray, List.set_cons_zero, List.set_cons_succ]
            refine runH 14 (v := ?vd14) rfl (by kernel_rfl) (fun _ _ _ h => h) (by assumption) (by rfl) ?yd14 ?rd14
            case yd14 => (intro w hSw; (try dsimp only at hSw); go_simp; try with_reducible rfl)
            try simp only [Act.put, List.setIfInBounds_toArray, List.set_cons_zero, List.set_cons_succ]
            refine runH 15 (v := ?vd15) rfl (by kernel_rfl) (fun _ _ _ h => h) (by assumption) (by rfl) ?yd15 ?rd15
            case yd15 => (intro w hSw; (try dsimp only at hSw); go_simp; try with_reducible rfl)
            try simp only [Act.put, List.setIfInBounds_toArray, List.set_cons_zero, List.set_cons_succ]
            refine runH 16 (v := ?vd16) rfl (by kernel_rfl) (fun _ _ _ h => h) (by assumption) (by rfl) ?yd16 ?rd16
            case yd16 => (intro w hSw; (try dsimp only at hSw); go_simp; try with_reducible rfl)
            try simp only [Act.put, List.setIfInBounds_toArray, List.set_cons_zero, List.set_cons_succ]
            refine runH 17 (v := ?vd17) rfl (by kernel_rfl) (fun _ _ _ h => h) (by assumption) (by rfl) ?yd17 ?rd17
            case yd17 => (intro w hSw; (try dsimp only at hSw); go_simp; try with_reducible rfl)
            try simp only [Act.put, List.setIfInBounds_toArray, List.set_cons_zero, List.set_cons_succ]
            refine runH 18 (v := ?vd18) rfl (by kernel_rfl) (fun _ _ _ h => h) (by assumption) (by rfl) ?yd18 ?rd18
            case yd18 => (intro w hSw; (try dsimp only at hSw); go_simp; try with_reducible rfl)
            try simp only [Act.put, List.setIfInBounds_toArray, List.set_cons_zero, List.set_cons_succ]
            refine runH 19 (v := ?vd19) rfl (by kernel_rfl) (fun _ _ _ h => h) (by assumption) (by rfl) ?yd19 ?rd19
            case yd19 => (intro w hSw; (try dsimp only at hSw); go_simp; try with_reducible rfl)
            try simp only [Act.put, List.setIfInBounds_toArray, List.set_cons_zero, List.set_cons_succ]
            refine runH 20 (v := ?vd20) rfl (by kernel_rfl) (fun _ _ _ h => h) (by assumption) (by rfl) ?yd20 ?rd20
            case yd20 => (intro w hSw; (try dsimp only at hSw); go_simp; try with_reducible rfl)
            try simp only [Act.put, List.setIfInBounds_toArray, List.set_cons_zero, List.set_cons_succ]
            refine runH 21 (v := ?vd21) rfl (by kernel_rfl) (fun _ _ _ h => h) (by assumption) (by rfl) ?yd21 ?rd21
            case yd21 => (intro w hSw; (try dsimp only at hSw); go_simp; try with_reducible rfl)
            try simp only [Act.put, List.setIfInBounds_toArray, List.set_cons_zero, List.set_cons_succ]
            refine runH 22 (v := ?vd22) rfl (by kernel_rfl) (fun _ _ _ h => h) (by assumption) (by rfl) ?yd22 ?rd22
            case yd22 => (intro w hSw; (try dsimp only at hSw); go_simp; try with_reducible rfl)
            try simp only [Act.put, List.setIfInBounds_toArray, List.set_cons_zero, List.set_cons_succ]
            refine runH 23 (v := ?vd23) rfl (by kernel_rfl) (fun _ _ _ h => h) (by assumption) (by rfl) ?yd23 ?rd23
            case yd23 => (intro w hSw; (try dsimp only at hSw); go_simp; try with_reducible rfl)
            try simp only [Act.put, List.setIfInBounds_toArray, List.set_cons_zero, List.set_cons_succ]
            refine runH 24 (v := ?vd24) rfl (by kernel_rfl) (fun _ _ _ h => h) (by assumption) (by rfl) ?yd24 ?rd24
            case yd24 => (intro w hSw; (try dsimp only at hSw); go_simp; try with_reducible rfl)
            try simp only [Act.put, List.setIfInBounds_toArray, List.set_cons_zero, List.set_cons_succ]
            refine runH 25 (v := ?vd25) rfl (by kernel_rfl) (fun _ _ _ h => h) (by assumption) (by rfl) ?yd25 ?rd25
            case yd25 => (intro w hSw; (try dsimp only at hSw); go_simp; try with_reducible rfl)
            try simp only [Act.put, List.setIfInBounds_toArray, List.set_cons_zero, List.set_cons_succ]
            refine runH 26 (v := ?vd26) rfl (by kernel_rfl) (fun _ _ _ h => h) (by assumption) (by rfl) ?yd26 ?rd26
            case yd26 => (intro w hSw; (try dsimp only at hSw); go_simp; try with_reducible rfl)
            try simp only [Act.put, List.setIfInBounds_toArray, List.set_cons_zero, List.set_cons_succ]
            refine wpAnyH_ready (rs := [27]) (by kernel_rfl) (by simp) ?_
            refine AllReadyH.cons rfl (fun K hK => ?_) AllReadyH.nil
            go_simp
            go_at_call 78; refine (HOr.out w1 hb1).mono ?_; rintro e w2 ⟨rfl, hb2⟩
            go_wp2_with fail
            refine hK.out _ _ ?_ (fun hHeld2 => ?_)
            · exact ⟨pw_cell_below hb2 (pw_cell_below hb1 cv4), pw_cell_below hb2 (pw_cell_below hb1 cv0), pw_cell_below hb2 (pw_cell_below hb1 x0), pw_cell_below hb2 (pw_cell_below hb1 x1), pw_cell_below hb2 (pw_cell_below hb1 x2), pw_cell_below hb2 (pw_cell_below hb1 x3), pw_cell_below hb2 (pw_cell_below hb1 x4), pw_cell_below hb2 (pw_cell_below hb1 y0), pw_cell_below hb2 (pw_cell_below hb1 y1), pw_cell_below hb2 (pw_cell_below hb1 y2), pw_cell_below hb2 (pw_cell_below hb1 y3), pw_cell_below hb2 (pw_cell_below hb1 y4)⟩
            clear hK K hHeld
            rename _ => hHeld
            try simp only [Act.put, List.setIfInBounds_toArray, List.set_cons_zero, List.set_cons_succ]
            refine runH 28 (v := ?vd28) rfl (by kernel_rfl) (fun _ _ _ h => h) (by assumption) (by rfl) ?yd28 ?rd28
            case yd28 => (intro w hSw; (try dsimp only at hSw); go_simp; try with_reducible rfl)
            try simp only [Act.put, List.setIfInBounds_toArray, List.set_cons_zero, List.set_cons_succ]
            refine runH 29 (v := ?vd29) rfl (by kernel_rfl) (fun _ _ _ h => h) (by assumption) (by rfl) ?yd29 ?rd29
            case yd29 => (intro w hSw; (try dsimp only at hSw); go_simp; try with_reducible rfl)
            try simp only [Act.put, List.setIfInBounds_toArray, List.set_cons_zero, List.set_cons_succ]
            refine runH 30 (v := ?vd30) rfl (by kernel_rfl) (fun _ _ _ h => h) (by assumption) (by rfl) ?yd30 ?rd30
            case yd30 => (intro w hSw; (try dsimp only at hSw); go_simp; try with_reducible rfl)
            try simp only [Act.put, List.setIfInBounds_toArray, List.set_cons_zero, List.set_cons_succ]
            refine wpAnyH_done (by kernel_rfl) ?_ _
            clear hwr hd0 hd0'
            by_cases hr0 : 0 ≤ q
            · have HR := Lib.hid (show r = false from by rw [hstep2.out, decide_eq_true hr0]; rfl)
              have hr1 : decide (q ≥ 0) = true := decide_eq_true hr0
              go_wp2
              go_ret
              exact ⟨by rw [HR.out]; rfl, HWW7.out w1 w2 hb1 hb2⟩
            · have HN := Lib.hid (show r = formL true (prevOf v.f4 (j + 1 + 1)) (v.f4.drop (j + 1 + 1).toNat) from by rw [hstep2.out, decide_eq_false hr0]; rfl)
              have hr1 : decide (q ≥ 0) = false := decide_eq_false hr0
              have hr2 : q < 0 := by omega
              clear hr0
              go_wp2
              go_roundw
              case rel => exact ⟨j + 1 + 1, rfl, by omega, by omega, HN.out, HF2.out, HW7.out w1 w2 hb1 hb2⟩
              case measure => simp [intOf]; omega
    · have HR2 := Lib.hid (show r = true from by rw [HI.out]; exact formL_end _ _ _ hlt)
      have hge : (v.f4.length : Int) ≤ i := by omega
      clear hlt
      go_wp2
      go_ret
      exact ⟨by rw [HR2.out]; rfl, HWW.out⟩
theorem rform_any (k : Nat) : ∀ (v : S43) (A : Option Addr) (c : Nat) (W : World), nd v ≤ k → okT2 v → Kd.C k43 W A v.f4.length v.f4 → v.f4.length ≤ c → Calls Try.prog 82 #[v43 v A c] W (RFormP v W) := by
  induction k with
  | zero => intro a; intros; have := nd_pos a; omega
  | succ k ih =>
    intro v A c W hk hT hC hc
    by_cases k5 : v.f0 = 5 ∨ v.f0 = 6 ∨ v.f0 = 7
    · exact rform_items k ih v A c W hk hT hC hc k5
    · exact rform_flat v A c W (by rw [okT2_eq] at hT; exact hT.1) k5
end Go.Proofs.Ytofinglgnkdflaa
