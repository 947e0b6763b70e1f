/- Layer 26: Others and Counts of the reference. -/
import Derived.Test.YtofinglgnkdflaaLYa
namespace Go.Proofs.Ytofinglgnkdflaa
open Go.RowKit
open Go.Proofs.Ytofinglgnkdflaa.PHistoryChecks Go.Proofs.YtofinglgnkdflaaW.PrintWords Go.Proofs.YtofinglgnkdflaaW.PrintLast Go.Proofs.YtofinglgnkdflaaW.PrintMore
set_option linter.unusedVariables false
set_option linter.unusedSimpArgs false
def roL (cl : List S50) (n : Nat) : List Int := (List.range n).map fun j : Nat => (cntB (rd_T50 cl (j : Int)).f4 cl : Int)
theorem roL_length (cl : List S50) (n : Nat) : (roL cl n).length = n := by simp [roL]
theorem roL_snoc (cl : List S50) (i : Int) (h0 : 0 ≤ i) : roL cl (i + 1).toNat = roL cl i.toNat ++ [(cntB (rd_T50 cl i).f4 cl : Int)] := by
  obtain ⟨a, rfl⟩ := Int.eq_ofNat_of_zero_le h0
  rw [show ((a : Int) + 1).toNat = a + 1 by omega, Int.toNat_natCast]
  unfold roL; rw [List.range_succ, List.map_append]; rfl
def roF (P : PastL) : Option (List Int) := if (eventsF P).isSome then some (roL P.cl P.cl.length) else none
theorem others_ro (P : PastL) : roF P = othersF P := by
  unfold othersF roF
  rcases hx : eventsF P with _ | xs
  · have : widthsF P = none := by unfold widthsF; rw [hx]
    rw [this]; rfl
  · rcases hw : widthsF P with _ | w
    · unfold widthsF at hw; rw [hx] at hw; cases hw
    · rw [Option.isSome_some, if_pos rfl]
      congr 1
      unfold roL othersL
      apply List.ext_getElem?
      intro a
      by_cases ha : a < P.cl.length
      · have hc := (calls_ok hx).a a ha
        have hl := widths_length hw
        have hg := get_rd50 P.cl a ha
        have h1 := widths_psum hw (rd_T50 P.cl (a : Int)).f4.toNat (by omega)
        have h2 := cntB_psum hx (rd_T50 P.cl (a : Int)).f4.toNat
        have hsg : rd (chF P) ((rd_T50 P.cl (a : Int)).f4.toNat : Int) = 1 := by
          obtain ⟨e1, _, _⟩ := eventsF_some hx
          unfold eventsL at e1
          have hs := (sg_from P.cl (sg_zero (sizeL P.cl)) e1).1
          have hxl : xs.length = sizeL P.cl := by rw [evFrom_length P.cl e1, List.length_replicate]
          have hk := ((ev_keep P.cl e1).2 _ (List.mem_of_getElem? hg)).1
          have h3 := hs.2 (rd_T50 P.cl (a : Int)).f4.toNat (by omega)
          unfold chF
          rw [h3]
          unfold sgn
          rw [hk]; rfl
        rw [List.getElem?_map, List.getElem?_map, List.getElem?_range ha, hg]
        simp only [Option.map_some, Option.some.injEq]
        rw [Int.toNat_of_nonneg hc.1] at h1 h2 hsg
        rw [h1, h2]
        show _ = psum (chF P) _ + rd (chF P) _ - 1
        rw [Int.toNat_of_nonneg hc.1, hsg]; omega
      · rw [List.getElem?_eq_none (by simp; omega), List.getElem?_eq_none (by simp; omega)]
set_option maxHeartbeats 16000000 in
set_option maxRecDepth 100000 in
theorem ROthers_any (W : World) (P : PastL) (R : Rw3) (hR : RdP W P R) (hl : P.cl.length ≤ 250000) (hE : ∀ xs, eventsL P = some xs → ∀ e ∈ xs, okE2 e) :
    Calls Try.prog 43 #[.agg (cP P R)] W (RowP (othersF P) W) := by
  rw [← others_ro]
  have HCK := Lib.hid (fun W1 (h : Below W.heap.size W W1) => rCheck_any W1 P R (hR.below h) hl hE)
  have HOP := Lib.hid (fun W1 (h : Below W.heap.size W W1) a (ha : a ≤ 2000000) => open73_any W1 P R a (hR.below h) (by omega) ha)
  have HCO := Lib.hid (show (eventsF P).isSome = true → ∀ i : Int, 0 ≤ i → i < (P.cl.length : Int) → 0 ≤ (rd_T50 P.cl i).f4 ∧ (rd_T50 P.cl i).f4 ≤ 1000000 from fun hs i h0 h1 => by
    rcases hx : eventsF P with _ | xs
    · rw [hx] at hs; cases hs
    · obtain ⟨a, rfl⟩ := Int.eq_ofNat_of_zero_le h0
      have hc := (calls_ok hx).a a (by omega)
      have := cntR_le P.cl
      unfold sizeL at hc
      omega)
  have h3 := Lib.hid hR.cl
  obtain ⟨ok, hok⟩ : ∃ b, b = (eventsF P).isSome := ⟨_, rfl⟩
  have HOK := Lib.hid hok
  unfold evC at HCK
  rw [← hok] at HCK
  obtain ⟨a1, c1, a2, c2, a3, c3⟩ := R
  have HB0 := Lib.hid (below_alloc (Below.refl W.heap.size W) (.cells (cP P ⟨a1, c1, a2, c2, a3, c3⟩) 30))
  have hbx := Lib.hid (heap_alloc_new W (.cells (cP P ⟨a1, c1, a2, c2, a3, c3⟩) 30))
  unfold cP at HB0 HCK HOP hbx ⊢
  clear hR hE hok
  go_enter Try.func43, Try.ntmps43
  go_wp2_with fail
  refine (HCK.out _ HB0.out).mono ?_
  rintro e w1 ⟨rfl, hw1⟩
  have HB1 := Lib.hid (HB0.out.trans (hw1.mono HB0.out.size))
  have HX1 := Lib.hid ((hw1.block _ (blk_lt hbx.out)).trans hbx.out)
  obtain ⟨q0, q1, q2⟩ := box_cells' HX1.out
  clear hw1 HCK hbx HB0
  cases ok
  · have HNO := Lib.hid HOK.out.symm
    go_wp2
    go_ret2
    exact rowP_bad HNO.out HB1.out
  · have HYE := Lib.hid HOK.out.symm
    have HCB := Lib.hid (HCO.out HYE.out)
    have hwb : W.heap.size < w1.heap.size := blk_lt HX1.out
    clear HOK q0 q1 q2 HCO
    go_wp2
    go_loopw [5, 4] (fun iv ov wr => ∃ (i : Int) (A : Option Addr) (c : Nat), iv = .int .i64 i ∧ ov = .slice A (roL P.cl i.toNat).length c ∧ 0 ≤ i ∧ i ≤ (P.cl.length : Int) ∧ Hid ((Kd.int .i64).R 3 wr w1.heap.size (fun k => w1.heap.size ≤ k) (.slice A (roL P.cl i.toNat).length c) (roL P.cl i.toNat)) ∧ Hid (Below w1.heap.size w1 wr)) (fun i _ _ => P.cl.length - (intOf i).toNat)
    case atStart => exact ⟨0, none, 0, rfl, rfl, by omega, by omega, Kd.R_nil _ _ _ _ _, Below.refl _ _⟩
    case round =>
      obtain ⟨i, A, c, rfl, rfl, hi0, hi1, HR, HB⟩ := hrel
      have HBW := Lib.hid (HB1.out.trans (HB.out.mono HB1.out.size))
      have HX := Lib.hid ((HB.out.block _ hwb).trans HX1.out)
      obtain ⟨q0, q1, q2⟩ := box_cells' HX.out
      have HSN := Lib.hid (roL_snoc P.cl i hi0)
      have hll := roL_length P.cl i.toNat
      obtain ⟨js, hjs⟩ : ∃ js, js = roL P.cl i.toNat := ⟨_, rfl⟩
      rw [← hjs] at HR HSN hll ⊢
      have HJS := Lib.hid hjs
      have hjl : js.length ≤ 1000000 := by omega
      clear hll hjs
      by_cases hlt : i < (P.cl.length : Int)
      · obtain ⟨ad, _, _, _, _, hAd, _, _, _, _, _, _, _, _, z8, _, _⟩ := at_T50 (Kd.C_below h3.out HB1.out) i hi0 hlt
        subst hAd
        have hcb := HCB.out i hi0 hlt
        obtain ⟨f, hf⟩ : ∃ f, f = (rd_T50 P.cl i).f4 := ⟨_, rfl⟩
        rw [← hf] at z8 HSN hcb
        have HST := Lib.hid (fun w (h : Below w1.heap.size w1 w) => And.intro (box_cells' ((h.block _ hwb).trans HX1.out)) (pw_cell_below h z8))
        obtain ⟨q, hq⟩ : ∃ q : Int, q = cntB f P.cl := ⟨_, rfl⟩
        have HOQ := Lib.hid (fun w (h : Below w1.heap.size w1 w) => HOP.out w (HB1.out.trans (h.mono HB1.out.size)) (f - 1) (by omega))
        rw [show f - 1 + 1 = f by omega, ← hq] at HOQ
        rw [← hq] at HSN
        obtain ⟨hf0, hf1⟩ := hcb
        clear hf hq z8 HX HOP
        go_wp2
        clear q0 q1 q2
        refine wp_region_held_drew (S := (fun w => Below w1.heap.size w1 w)) (by kernel_rfl) ?_ (fun hHeld => ?_)
        · exact below_drew HB.out
        refine runH 0 (v := ?v0) rfl (by kernel_rfl) (fun _ _ _ h => h) (by assumption) (by rfl) ?y0 ?r0
        case y0 => (intro w hSw; clear hSw; go_simp; try with_reducible rfl)
        try simp only [Act.put, List.setIfInBounds_toArray, List.set_cons_zero, List.set_cons_succ]
        refine runH 1 (v := ?v1) rfl (by kernel_rfl) (fun _ _ _ h => h) (by assumption) (by rfl) ?y1 ?r1
        case y1 => (intro w hSw; obtain ⟨⟨q0, q1, q2⟩, y8⟩ := HST.out w hSw; clear hSw; go_simp; try with_reducible rfl)
        try simp only [Act.put, List.setIfInBounds_toArray, List.set_cons_zero, List.set_cons_succ]
        refine runH 2 (v := ?v2) rfl (by kernel_rfl) (fun _ _ _ h => h) (by assumption) (by rfl) ?y2 ?r2
        case y2 => (intro w hSw; clear hSw; go_simp; try with_reducible rfl)
        try simp only [Act.put, List.setIfInBounds_toArray, List.set_cons_zero, List.set_cons_succ]
        refine runH 3 (v := ?v3) rfl (by kernel_rfl) (fun _ _ _ h => h) (by assumption) (by rfl) ?y3 ?r3
        case y3 => (intro w hSw; obtain ⟨⟨q0, q1, q2⟩, y8⟩ := HST.out w hSw; clear hSw; go_simp; try with_reducible rfl)
        try simp only [Act.put, List.setIfInBounds_toArray, List.set_cons_zero, List.set_cons_succ]
        refine runH 4 (v := ?v4) rfl (by kernel_rfl) (fun _ _ _ h => h) (by assumption) (by rfl) ?y4 ?r4
        case y4 => (intro w hSw; clear hSw; go_simp; try with_reducible rfl)
        try simp only [Act.put, List.setIfInBounds_toArray, List.set_cons_zero, List.set_cons_succ]
        refine runH 5 (v := ?v5) rfl (by kernel_rfl) (fun _ _ _ h => h) (by assumption) (by rfl) ?y5 ?r5
        case y5 => (intro w hSw; clear hSw; go_simp; try with_reducible rfl)
        try simp only [Act.put, List.setIfInBounds_toArray, List.set_cons_zero, List.set_cons_succ]
        refine runH 6 (v := ?v6) rfl (by kernel_rfl) (fun _ _ _ h => h) (by assumption) (by rfl) ?y6 ?r6
        case y6 => (intro w hSw; clear hSw; go_simp; try with_reducible rfl)
        try simp only [Act.put, List.setIfInBounds_toArray, List.set_cons_zero, List.set_cons_succ]
        refine runH 7 (v := ?v7) rfl (by kernel_rfl) (fun _ _ _ h => h) (by assumption) (by rfl) ?y7 ?r7
        case y7 => (intro w hSw; obtain ⟨⟨q0, q1, q2⟩, y8⟩ := HST.out w hSw; clear hSw; go_simp; try with_reducible rfl)
        try simp only [Act.put, List.setIfInBounds_toArray, List.set_cons_zero, List.set_cons_succ]
        refine runH 8 (v := ?v8) rfl (by kernel_rfl) (fun _ _ _ h => h) (by assumption) (by rfl) ?y8 ?r8
        case y8 => (intro w hSw; clear hSw; go_simp; try with_reducible rfl)
        try simp only [Act.put, List.setIfInBounds_toArray, List.set_cons_zero, List.set_cons_succ]
        refine wpAnyH_ready (rs := [9]) (by kernel_rfl) (by simp) ?_
        refine AllReadyH.cons rfl (fun K hK => ?_) AllReadyH.nil
        go_simp
        go_at_call 73; rw [show IntKind.i64.wrap (f - 1) = f - 1 from by rw [IntKind.wrap_i64]; omega]; refine (HOQ.out wr.drew (below_drew HB.out)).mono ?_; rintro e w2 ⟨rfl, hb2⟩; have HB2 := Lib.hid ((below_drew HB.out).trans (hb2.mono (below_drew HB.out).size)); have HR2 := Lib.hid (Kd.R_below (Kd.R_below HR.out (below_drew (Below.refl wr.heap.size wr))) hb2); clear hb2
        go_wp2_with fail
        refine hK.out _ _ ?_ (fun hHeld2 => ?_)
        · exact HB2.out
        clear hK K hHeld
        rename _ => hHeld
        try simp only [Act.put, List.setIfInBounds_toArray, List.set_cons_zero, List.set_cons_succ]
        refine wpAnyH_ready (rs := [10]) (by kernel_rfl) (by simp) ?_
        refine AllReadyH.cons rfl (fun K hK => ?_) AllReadyH.nil
        go_simp
        skip
        go_wp2_with fail
        refine hK.out _ _ ?_ (fun hHeld2 => ?_)
        · exact HB2.out.alloc HB2.out.size _
        clear hK K hHeld
        rename _ => hHeld
        try simp only [Act.put, List.setIfInBounds_toArray, List.set_cons_zero, List.set_cons_succ]
        refine wpAnyH_ready (rs := [11]) (by kernel_rfl) (by simp) ?_
        refine AllReadyH.cons (o := ?oo11) ?hi11 ?kk11 AllReadyH.nil
        case hi11 => (simp only [List.getElem?_toArray, List.getElem?_cons_succ, List.getElem?_cons_zero]; exact rfl)
        intro K hK
        refine Kd.R_append_step (w0 := w1) (Kd.int .i64) w1.heap.size (by rfl) _ _ 68 3 _ 8 rfl under68 info3' rfl (by decide) (by decide) (.slice A js.length c) js q [.int .i64 q] (fun b => w1.heap.size ≤ b) (fun _ => False) rfl rfl rfl (fun _ h => h.elim) (fun b hb => Nat.le_trans HB2.out.size hb) HR2.out HB2.out HB2.out.size (by omega) ?_
        intro v1 w4 hR4 hb4 hg4 hat4
        obtain ⟨A1, k1, rfl⟩ := Kd.R_slice hR4
        have HR4 := Lib.hid hR4
        have HB4 := Lib.hid hb4
        clear hR4 hb4 hg4 hat4
        refine hK.out _ _ ?_ (fun hHeld2 => ?_)
        · exact HB4.out
        clear hK K hHeld
        rename _ => hHeld
        try simp only [Act.put, List.setIfInBounds_toArray, List.set_cons_zero, List.set_cons_succ]
        refine runH 12 (v := ?v12) rfl (by kernel_rfl) (fun _ _ _ h => h) (by assumption) (by rfl) ?y12 ?r12
        case y12 => (intro w hSw; clear hSw; go_simp; try with_reducible rfl)
        try simp only [Act.put, List.setIfInBounds_toArray, List.set_cons_zero, List.set_cons_succ]
        refine wpAnyH_done (by kernel_rfl) ?_ _
        go_wp2
        go_roundw
        case rel => exact ⟨i + 1, A1, k1, rfl, by rw [HSN.out]; simp, by omega, by omega, by rw [HSN.out]; exact HR4.out, HB4.out⟩
        case measure => simp [intOf]; omega
      · have hie : i = (P.cl.length : Int) := by omega
        subst hie
        clear hlt
        go_wp2
        go_ret2
        have hR := Kd.R_lower HR.out HB1.out.size
        rw [HJS.out, Int.toNat_natCast] at hR
        have e := HJS.out
        rw [Int.toNat_natCast] at e
        rw [e]
        exact rowP_good HYE.out HBW.out hR
set_option maxHeartbeats 2000000 in
set_option maxRecDepth 100000 in
theorem RCounts_any (W : World) (P : PastL) (R : Rw3) (hR : RdP W P R) (hl : P.cl.length ≤ 250000) (hE : ∀ xs, eventsL P = some xs → ∀ e ∈ xs, okE2 e) (hN : ∀ l, othersF P = some l → ∀ x ∈ l, 0 ≤ x) :
    Calls Try.prog 45 #[.agg (cP P R)] W (RowP (countsF P) W) := by
  have HOT := Lib.hid (fun W1 (h : Below W.heap.size W W1) => ROthers_any W1 P R (hR.below h) hl hE)
  have HB0 := Lib.hid (below_alloc (Below.refl W.heap.size W) (.cells (cP P R) 30))
  have HLO := Lib.hid (show ∀ l, othersF P = some l → l.length ≤ 500000 from fun l h => by
    unfold othersF at h
    split at h
    · cases h
    · cases h; unfold othersL; rw [List.length_map]; omega)
  obtain ⟨a1, c1, a2, c2, a3, c3⟩ := R
  unfold cP at HB0 HOT ⊢
  unfold RowP at HOT
  have HN := Lib.hid hN
  clear hR hE hN
  go_enter Try.func45, Try.ntmps45
  go_wp2_with fail
  refine (HOT.out _ HB0.out).mono ?_
  rintro e w1 ⟨hw1, hm⟩
  rcases ho : othersF P with _ | l
  · rw [ho] at hm
    subst hm
    have HB1 := Lib.hid (HB0.out.trans (hw1.mono HB0.out.size))
    have HO := Lib.hid (show countsF P = none from by unfold countsF; rw [ho])
    clear hw1 HOT ho
    go_wp2
    go_ret2
    exact ⟨HB1.out, by rw [HO.out]; rfl⟩
  · rw [ho] at hm
    obtain ⟨v, rfl, hv⟩ := hm
    have HB1 := Lib.hid (HB0.out.trans (hw1.mono HB0.out.size))
    obtain ⟨A, k, rfl, hlk, hC⟩ := Kd.R_reads hv
    have HC := Lib.hid hC
    have hll := HLO.out l ho
    have HNN := Lib.hid (HN.out l ho)
    have HO := Lib.hid (show countsF P = some (cntGo [0, 0, 0, 0] (l.drop (0 : Int).toNat)) from by unfold countsF; rw [ho]; rfl)
    have HA2 := Lib.hid (show IntR (w1.alloc (.cells #[.int .i64 0, .int .i64 0, .int .i64 0, .int .i64 0] 3)) w1.heap.size [0, 0, 0, 0] from heap_alloc_new w1 _)
    have HB2 := Lib.hid (below_alloc (Below.refl w1.heap.size w1) (.cells #[.int .i64 0, .int .i64 0, .int .i64 0, .int .i64 0] 3))
    clear hw1 HOT ho hv hC
    go_wp2
    obtain ⟨g, hg⟩ : ∃ g, g = w1.heap.size := ⟨_, rfl⟩
    obtain ⟨ag, hag⟩ : ∃ ag : Addr, ag = ⟨g, 0, none⟩ := ⟨_, rfl⟩
    obtain ⟨w2, hw2⟩ : ∃ w2, w2 = w1.alloc (.cells #[.int .i64 0, .int .i64 0, .int .i64 0, .int .i64 0] 3) := ⟨_, rfl⟩
    rw [← hw2] at HA2 HB2 ⊢
    rw [← hg] at HA2
    have HGW := Lib.hid (show W.heap.size ≤ g from by rw [hg]; exact HB1.out.size)
    have HG1 := Lib.hid (Nat.le_of_eq hg.symm)
    rw [← hg, ← hag]
    have HAG := Lib.hid hag
    clear hw2 hg hag
    go_loopw [7] (fun iv wr => ∃ (i : Int) (acc : List Int), iv = .int .i64 i ∧ 0 ≤ i ∧ i ≤ (l.length : Int) ∧ Hid (acc.length = 4) ∧ Hid (∀ j : Int, 0 ≤ rd acc j ∧ rd acc j ≤ i) ∧ Hid (countsF P = some (cntGo acc (l.drop i.toNat))) ∧ Hid (IntR wr g acc) ∧ Hid (Below w1.heap.size w1 wr)) (fun i _ => l.length - (intOf i).toNat)
    case atStart => exact ⟨0, [0, 0, 0, 0], rfl, by omega, by omega, rfl, (fun j => by
      unfold YtofinglgnkdflaaW.PrintWords.rd
      rw [List.getD_eq_getElem?_getD]
      rcases h : [(0 : Int), 0, 0, 0][j.toNat]? with _ | x
      · exact ⟨by decide, by decide⟩
      · have := List.mem_of_getElem? h; simp at this; subst this; exact ⟨by decide, by decide⟩), HO.out, HA2.out, HB2.out⟩
    case round =>
      obtain ⟨i, acc, rfl, hi0, hi1, HL4, HAC, HCN, HA, HB⟩ := hrel
      clear HO HA2 HB2
      by_cases hlt : i < (l.length : Int)
      · obtain ⟨ad, rfl, z⟩ := Kd.at_int (Kd.C_below HC.out HB.out) i hi0 hlt
        have hst := HCN.out
        rw [cntGo_step acc l i hi0 hlt] at hst
        have hx0 := HNN.out _ (rd_mem_int l i hi0 hlt)
        obtain ⟨x, hx⟩ : ∃ x, x = rd l i := ⟨_, rfl⟩
        rw [← hx] at z hst hx0
        have hm0 : 0 ≤ x % 4 := by omega
        have hm1 : x % 4 < 4 := by omega
        have hac := HAC.out (x % 4)
        have zz := HA.out.cell (x % 4) hm0 (by have := HL4.out; omega)
        have hfr := HA.out.frozen (x % 4).toNat
        have ea := ag_add HAG.out (x % 4).toNat
        rw [← ea] at zz hfr
        obtain ⟨d, hd⟩ : ∃ d, d = rd acc (x % 4) := ⟨_, rfl⟩
        rw [← hd] at zz hac
        have HST := Lib.hid (show countsF P = some (cntGo (acc.set (x % 4).toNat (d + 1)) (l.drop (i + 1).toNat)) from by rw [hst, hd]; rfl)
        have HL5 := Lib.hid (show (acc.set (x % 4).toNat (d + 1)).length = 4 from by rw [List.length_set]; exact HL4.out)
        have HAC2 := Lib.hid (show ∀ j : Int, 0 ≤ rd (acc.set (x % 4).toNat (d + 1)) j ∧ rd (acc.set (x % 4).toNat (d + 1)) j ≤ i + 1 from fun j => by
          have h1 := rd_set' acc (x % 4).toNat j.toNat (d + 1)
          have h2 : rd (acc.set (x % 4).toNat (d + 1)) j = rd (acc.set (x % 4).toNat (d + 1)) (j.toNat : Int) := by unfold YtofinglgnkdflaaW.PrintWords.rd; rw [Int.toNat_natCast]
          rw [h2, h1]
          have h3 := HAC.out (j.toNat : Int)
          split <;> omega)
        have HI2 := Lib.hid (HA.out.set (x % 4).toNat (d + 1))
        rw [← ea] at HI2
        have HB3 := Lib.hid (HB.out.setCell (p := ag.add (x % 4).toNat) (by rw [ea]; exact HG1.out) (.int .i64 (d + 1)))
        clear hst hx ea hd
        go_wp2
        go_roundw
        case rel => exact ⟨i + 1, _, rfl, by omega, by omega, HL5.out, HAC2.out, HST.out, HI2.out, HB3.out⟩
        case measure => simp [intOf]; omega
      · have HE := Lib.hid (show countsF P = some acc from by have := HCN.out; rw [List.drop_eq_nil_of_le (by omega)] at this; exact this)
        have hge : (l.length : Int) ≤ i := by omega
        clear hlt
        go_wp2
        rw [HAG.out]
        go_ret2
        exact ⟨HB1.out.trans (HB.out.mono HB1.out.size), by rw [HE.out]; have h4 := HL4.out; exact ⟨_, rfl, by have h := HA.out.R (ok := fun _ => True) HGW.out trivial (by rw [h4]; decide); rw [h4] at h; exact h⟩⟩
end Go.Proofs.Ytofinglgnkdflaa
