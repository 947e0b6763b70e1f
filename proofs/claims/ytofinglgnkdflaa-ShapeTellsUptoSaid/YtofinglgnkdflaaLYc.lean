/- Layer 26: Of of the reference. -/
import Derived.Test.YtofinglgnkdflaaLYb
import Derived.Test.YtofinglgnkdflaaLTb
import Derived.BigRegion
namespace Go.Proofs.Ytofinglgnkdflaa
open Go.RowKit
open Go.Proofs.Ytofinglgnkdflaa.PHistoryChecks Go.Proofs.YtofinglgnkdflaaW.PrintWords Go.Proofs.YtofinglgnkdflaaW.PrintLast Go.Proofs.YtofinglgnkdflaaW.PrintMore
set_option linter.unusedVariables false
set_option linter.unusedSimpArgs false
theorem rwid_eq (P : PastL) : rwidF P = widthsF P := by
  unfold rwidF
  rcases hx : eventsF P with _ | xs
  · have : widthsF P = none := by unfold widthsF; rw [hx]
    rw [this]; rfl
  · rcases hw : widthsF P with _ | w
    · unfold widthsF at hw; rw [hx] at hw; cases hw
    · rw [Option.isSome_some, if_pos rfl, ← widths_rw hw]
theorem RWidths_any' (W : World) (P : PastL) (R : Rw3) (hR : RdP W P R) (hl : P.cl.length ≤ 250000) (hE : ∀ xs, eventsL P = some xs → ∀ e ∈ xs, okE2 e) :
    Calls Try.prog 41 #[.agg (cP P R)] W (RowP (widthsF P) W) := by rw [← rwid_eq]; exact RWidths_any W P R hR hl hE
set_option maxHeartbeats 4000000 in
set_option maxRecDepth 100000 in
theorem ROf_any (W : World) (P : PastL) (R : Rw3) (hR : RdP W P R) (hl : P.cl.length ≤ 250000) (hE : ∀ xs, eventsL P = some xs → ∀ e ∈ xs, okE2 e) :
    Calls Try.prog 39 #[.agg (cP P R)] W (OfP P W) := by
  have HWD := Lib.hid (fun W1 (h : Below W.heap.size W W1) => RWidths_any' W1 P R (hR.below h) hl hE)
  have HBF := Lib.hid (fun W1 a b (h : Below W.heap.size W W1) => RBefore_any W1 P R a b (hR.below h))
  have h3 := Lib.hid hR.cl
  have hprm := Kd.C_max hR.pr
  have hobm := Kd.C_max hR.ob
  have HA1 := heap_alloc_new W (.cells (cP P R) 30)
  have HZ1 := heap_alloc_new (W.alloc (.cells (cP P R) 30)) (.cells #[.int .i64 0, .int .i64 0, .int .i64 0, .int .i64 0, .int .i64 0, .int .i64 0, .int .i64 0, .int .i64 0] 79)
  have HB0 := Lib.hid (below_alloc (below_alloc (Below.refl W.heap.size W) (.cells (cP P R) 30)) (.cells #[.int .i64 0, .int .i64 0, .int .i64 0, .int .i64 0, .int .i64 0, .int .i64 0, .int .i64 0, .int .i64 0] 79))
  have HX0 := Lib.hid (blk_alloc HA1 (.cells #[.int .i64 0, .int .i64 0, .int .i64 0, .int .i64 0, .int .i64 0, .int .i64 0, .int .i64 0, .int .i64 0] 79))
  rw [alloc_size] at HZ1
  have HZ0 := Lib.hid HZ1
  obtain ⟨a1, c1, a2, c2, a3, c3⟩ := R
  unfold cP at HB0 HX0 HWD HBF HZ0 ⊢
  unfold RowP at HWD
  clear hR hE HA1 HZ1
  rcases hxs : widthsF P with _ | w
  · have HO := Lib.hid (show ofF P = none from by unfold ofF; rw [hxs])
    rw [hxs] at HWD
    clear hxs
    go_enter Try.func39, Try.ntmps39
    go_wp2_with fail
    refine (HWD.out _ HB0.out).mono ?_
    rintro e w1 ⟨hw1, rfl⟩
    have HB1 := Lib.hid (HB0.out.trans (hw1.mono HB0.out.size))
    have HZ := Lib.hid ((hw1.block _ (blk_lt HZ0.out)).trans HZ0.out)
    clear hw1 HX0 HWD HZ0
    have hz := HZ.out
    have r0 : w1.cell? ⟨W.heap.size + 1, 0, none⟩ = some (.int .i64 0) := (blk_cell hz 0).trans rfl
    have r1 : w1.cell? ⟨W.heap.size + 1, 1, none⟩ = some (.int .i64 0) := (blk_cell hz 1).trans rfl
    have r2 : w1.cell? ⟨W.heap.size + 1, 2, none⟩ = some (.int .i64 0) := (blk_cell hz 2).trans rfl
    have r3 : w1.cell? ⟨W.heap.size + 1, 3, none⟩ = some (.int .i64 0) := (blk_cell hz 3).trans rfl
    have r4 : w1.cell? ⟨W.heap.size + 1, 4, none⟩ = some (.int .i64 0) := (blk_cell hz 4).trans rfl
    have r5 : w1.cell? ⟨W.heap.size + 1, 5, none⟩ = some (.int .i64 0) := (blk_cell hz 5).trans rfl
    have r6 : w1.cell? ⟨W.heap.size + 1, 6, none⟩ = some (.int .i64 0) := (blk_cell hz 6).trans rfl
    have r7 : w1.cell? ⟨W.heap.size + 1, 7, none⟩ = some (.int .i64 0) := (blk_cell hz 7).trans rfl
    have z0 := blk_frozen hz 0
    have z1 := blk_frozen hz 1
    have z2 := blk_frozen hz 2
    have z3 := blk_frozen hz 3
    have z4 := blk_frozen hz 4
    have z5 := blk_frozen hz 5
    have z6 := blk_frozen hz 6
    have z7 := blk_frozen hz 7
    clear hz
    go_wp2
    obtain ⟨Wf, hWf⟩ : ∃ Wf, Wf = set8w (W.heap.size + 1) (.int .i64 0) (.int .i64 0) (.int .i64 0) (.int .i64 0) (.int .i64 0) (.int .i64 0) (.int .i64 0) (.int .i64 0) w1 := ⟨_, rfl⟩
    change bodyPost _ _ _ _ _ (set8w (W.heap.size + 1) (.int .i64 0) (.int .i64 0) (.int .i64 0) (.int .i64 0) (.int .i64 0) (.int .i64 0) (.int .i64 0) (.int .i64 0) w1)
    rw [← hWf]
    have hRf : Wf.heap[W.heap.size + 1]? = some (.cells #[.int .i64 0, .int .i64 0, .int .i64 0, .int .i64 0, .int .i64 0, .int .i64 0, .int .i64 0, .int .i64 0] 79 (0, 0)) := by rw [hWf]; exact set8w_at _ _ _ _ _ _ _ _ HZ.out
    have t0 : Wf.cell? ⟨W.heap.size + 1, 0, none⟩ = some (.int .i64 0) := (blk_cell hRf 0).trans rfl
    have t1 : Wf.cell? ⟨W.heap.size + 1, 1, none⟩ = some (.int .i64 0) := (blk_cell hRf 1).trans rfl
    have t2 : Wf.cell? ⟨W.heap.size + 1, 2, none⟩ = some (.int .i64 0) := (blk_cell hRf 2).trans rfl
    have t3 : Wf.cell? ⟨W.heap.size + 1, 3, none⟩ = some (.int .i64 0) := (blk_cell hRf 3).trans rfl
    have t4 : Wf.cell? ⟨W.heap.size + 1, 4, none⟩ = some (.int .i64 0) := (blk_cell hRf 4).trans rfl
    have t5 : Wf.cell? ⟨W.heap.size + 1, 5, none⟩ = some (.int .i64 0) := (blk_cell hRf 5).trans rfl
    have t6 : Wf.cell? ⟨W.heap.size + 1, 6, none⟩ = some (.int .i64 0) := (blk_cell hRf 6).trans rfl
    have t7 : Wf.cell? ⟨W.heap.size + 1, 7, none⟩ = some (.int .i64 0) := (blk_cell hRf 7).trans rfl
    have hBf : Below W.heap.size W Wf := by rw [hWf]; exact set8w_below HB1.out (by omega) _ _ _ _ _ _ _ _
    exact bodyPost_ret (v := .tuple #[.agg #[.int .i64 0, .int .i64 0, .int .i64 0, .int .i64 0, .int .i64 0, .int .i64 0, .int .i64 0, .int .i64 0], .int .i64 2]) (by simp [results, Try.results39, go_sem, t0, t1, t2, t3, t4, t5, t6, t7]) rfl (ofP_none HO.out hBf)
  · obtain ⟨fin, hfin⟩ : ∃ s, s = ofGo P.cl P.cl.length 0 ⟨List.replicate P.cl.length 0, 0, 0, 0⟩ := ⟨_, rfl⟩
    have HO := Lib.hid (show ofF P = some ⟨w.length, P.cl.length, fin.p, P.pr.length, P.ob.length, maxGo w 0, fin.pa, fin.ht⟩ from by unfold ofF; rw [hxs, hfin])
    have HFIN := Lib.hid (show ofGo P.cl (P.cl.length - 0) 0 ⟨List.replicate P.cl.length 0, 0, 0, 0⟩ = fin from hfin.symm)
    have HWB := Lib.hid (fun j h0 => widths_bound hxs (by omega) j h0)
    have hwl : w.length ≤ 1000000 := by
      have h1 := widths_length hxs
      have h2 := cntR_le P.cl
      unfold sizeL at h1; omega
    obtain ⟨wide, hwide⟩ : ∃ m, m = maxGo w 0 := ⟨_, rfl⟩
    rw [← hwide] at HO
    have HWI := Lib.hid (show wide = maxGo (w.drop (0 : Int).toNat) 0 from hwide)
    rw [hxs] at HWD
    obtain ⟨n, hn⟩ : ∃ n, n = P.cl.length := ⟨_, rfl⟩
    have hnl : n ≤ 500000 := by omega
    have HN := Lib.hid hn
    obtain ⟨i0, hi, hz0, hz1, hz2⟩ := info_parts info3'
    have hmk := fun wx => run_make (P := Try.prog) wx 68 3 i0 _ under68 hi hz0 .i64 .i64 (n : Int) (n : Int) (by omega) (by omega) (by rw [hz2]; omega) (by omega)
    rw [hz1] at hmk
    have hmk2 : ∀ wx : World, (Instr.makeSlice 68 (.int .i64 (n : Int)) (.int .i64 (n : Int))).run Try.prog wx = .ok (.slice (some ⟨wx.heap.size, 0, none⟩) n n) (wx.alloc (.cells (madeCells #[.int .i64 0] (n * 1)) 3)) := hmk
    rw [Nat.mul_one] at hmk2
    rw [← hn] at HFIN HO HWD HBF HX0 HB0 HZ0 h3 ⊢
    clear hxs hfin hwide hmk hi hz0 hz1 hz2 hn hl
    go_enter Try.func39, Try.ntmps39
    go_wp2_with fail
    refine (HWD.out _ HB0.out).mono ?_
    rintro e w1 ⟨hw1, v, rfl, hv⟩
    obtain ⟨Aw, kw, rfl, lw, hI⟩ := Kd.R_reads hv
    have HB1 := Lib.hid (HB0.out.trans (hw1.mono HB0.out.size))
    have HX := Lib.hid ((hw1.block _ (blk_lt HX0.out)).trans HX0.out)
    have HZ := Lib.hid ((hw1.block _ (blk_lt HZ0.out)).trans HZ0.out)
    have HI := Lib.hid hI
    have q0 : w1.cell? ⟨W.heap.size, 0, none⟩ = some (.slice a1 P.pr.length c1) := (blk_cell HX.out 0).trans rfl
    have q1 : w1.cell? ⟨W.heap.size, 1, none⟩ = some (.slice a2 P.ob.length c2) := (blk_cell HX.out 1).trans rfl
    have q2 : w1.cell? ⟨W.heap.size, 2, none⟩ = some (.slice a3 n c3) := (blk_cell HX.out 2).trans rfl
    obtain ⟨gs, hgs⟩ : ∃ gs, gs = w1.heap.size := ⟨_, rfl⟩
    have hnew := heap_alloc_new w1 (.cells (sh8C ⟨w.length, n, 0, P.pr.length, P.ob.length, 0, 0, 0⟩) 79)
    rw [← hgs] at hnew
    have HS2 := Lib.hid hnew
    have HB2 := Lib.hid (below_alloc (Below.refl w1.heap.size w1) (.cells (sh8C ⟨w.length, n, 0, P.pr.length, P.ob.length, 0, 0, 0⟩) 79))
    have hgW : W.heap.size + 1 < gs := by rw [hgs]; exact blk_lt HZ.out
    have HGS := Lib.hid hgs
    clear hw1 HWD HX0 HB0 HZ0 hI hv hnew
    go_upto_region 5 with fail
    rw [← HGS.out]
    obtain ⟨w2, hw2⟩ : ∃ w2, w2 = w1.alloc (.cells (sh8C ⟨w.length, n, 0, P.pr.length, P.ob.length, 0, 0, 0⟩) 79) := ⟨_, rfl⟩
    rw [← hw2] at HS2 HB2
    unfold sh8C at hw2
    rw [← hw2]
    clear hw2 q0 q1 q2 hgs
    go_wp2
    go_loopw [7] (fun iv wr => ∃ (i m : Int), iv = .int .i64 i ∧ 0 ≤ i ∧ i ≤ (w.length : Int) ∧ -1000001 ≤ m ∧ m ≤ 1000001 ∧ Hid (wide = maxGo (w.drop i.toNat) m) ∧ Hid (wr.heap[gs]? = some (.cells (sh8C ⟨w.length, n, 0, P.pr.length, P.ob.length, m, 0, 0⟩) 79 (0, 0))) ∧ Hid (Below w1.heap.size w1 wr)) (fun i _ => w.length - (intOf i).toNat)
    case atStart => exact ⟨0, 0, rfl, by omega, by omega, by omega, by omega, HWI.out, HS2.out, HB2.out⟩
    case round =>
      obtain ⟨i, m, rfl, hi0, hi1, hm0, hm1, HM, HS, HB⟩ := hrel
      clear HWI HS2 HB2
      by_cases hlt : i < (w.length : Int)
      · obtain ⟨aw, hAw, z⟩ := Kd.at_int (Kd.C_below HI.out HB.out) i hi0 hlt
        subst hAw
        have hst := HM.out
        rw [maxGo_step w i m hi0 hlt] at hst
        have hwb := HWB.out i hi0
        obtain ⟨x, hx⟩ : ∃ x, x = rd w i := ⟨_, rfl⟩
        rw [← hx] at z hst hwb
        have HST := Lib.hid hst
        have c5 : wr.cell? ⟨gs, 5, none⟩ = some (.int .i64 m) := (blk_cell HS.out 5).trans rfl
        have f5 := blk_frozen HS.out 5
        have HS3 := Lib.hid (show ((wr.setCell ⟨gs, 5, none⟩ (.int .i64 (max m x))).drew).heap[gs]? = some (.cells (sh8C ⟨w.length, n, 0, P.pr.length, P.ob.length, max m x, 0, 0⟩) 79 (0, 0)) from blk_set HS.out 5 _)
        have HB3 := Lib.hid (below_drew (HB.out.setCell (p := ⟨gs, 5, none⟩) (Nat.le_of_eq HGS.out.symm) (.int .i64 (max m x))))
        clear hst hx
        go_wp2
        go_region
        go_wp2
        go_roundw
        case rel => exact ⟨i + 1, max m x, rfl, by omega, by omega, by omega, by omega, HST.out, HS3.out, HB3.out⟩
        case measure => simp [intOf]; omega
      · have hmw := HM.out
        rw [List.drop_eq_nil_of_le (by omega)] at hmw
        have hmw2 : wide = m := hmw
        subst hmw2
        have hge : (w.length : Int) ≤ i := by omega
        have HX2 := (HB.out.block _ (blk_lt HX.out)).trans HX.out
        have q2 : wr.cell? ⟨W.heap.size, 2, none⟩ = some (.slice a3 n c3) := (blk_cell HX2 2).trans rfl
        have hwwr : W.heap.size < wr.heap.size := blk_lt HX2
        have HSa := Lib.hid (show (wr.alloc (.cells (madeCells #[.int .i64 0] n) 3)).heap[gs]? = some (.cells (sh8C ⟨w.length, n, 0, P.pr.length, P.ob.length, wide, 0, 0⟩) 79 (0, 0)) from blk_alloc HS.out _)
        have hi3 := IntR.made wr n
        rw [Nat.mul_one] at hi3
        have HI3 := Lib.hid hi3
        have HB3 := Lib.hid (below_alloc HB.out (.cells (madeCells #[.int .i64 0] n) 3))
        have HGH := Lib.hid (show gs < wr.heap.size from blk_lt HS.out)
        have HG1 := Lib.hid HB.out.size
        clear hlt hmw HX2 HM HS HB hi3
        go_wp2
        obtain ⟨gh, hgh⟩ : ∃ gh, gh = wr.heap.size := ⟨_, rfl⟩
        obtain ⟨ah, hah⟩ : ∃ ah : Addr, ah = ⟨gh, 0, none⟩ := ⟨_, rfl⟩
        obtain ⟨w3, hw3⟩ : ∃ w3, w3 = wr.alloc (.cells (madeCells #[.int .i64 0] n) 3) := ⟨_, rfl⟩
        rw [← hgh] at HI3 HGH HG1
        rw [← hw3] at HI3 HB3 HSa ⊢
        rw [← hgh, ← hah]
        have HAH := Lib.hid hah
        clear hw3 hgh hah q2 hwwr
        have HRL := Lib.hid (show (List.replicate n (0 : Int)).length = n from List.length_replicate)
        go_loopw [9] (fun bv wr => ∃ (b : Nat) (s : OfS), bv = .int .i64 b ∧ b ≤ n ∧ 0 ≤ s.pa ∧ s.pa ≤ 1000000 * (b : Int) ∧ 0 ≤ s.p ∧ s.p ≤ (b : Int) ∧ 0 ≤ s.ht ∧ s.ht ≤ (b : Int) ∧ Hid (s.h.length = n) ∧ Hid (HtB s.h) ∧ Hid (ofGo P.cl (n - b) b s = fin) ∧ Hid (IntR wr gh s.h) ∧ Hid (wr.heap[gs]? = some (.cells (sh8C ⟨w.length, n, s.p, P.pr.length, P.ob.length, wide, s.pa, s.ht⟩) 79 (0, 0))) ∧ Hid (Below w1.heap.size w1 wr)) (fun b _ => n - (intOf b).toNat)
        case atStart => exact ⟨0, ⟨List.replicate n 0, 0, 0, 0⟩, rfl, by omega, by dsimp only; omega, by dsimp only; omega, by dsimp only; omega, by dsimp only; omega, by dsimp only; omega, by dsimp only; omega, HRL.out, HtB.zero n, HFIN.out, HI3.out, HSa.out, HB3.out⟩
        case round =>
          obtain ⟨b, s, rfl, hb, hpa0, hpa1, hp0, hp1, hh0, hh1, HLN, HHT, HGO, HIH, HSS, HBB⟩ := hrel
          obtain ⟨sh, spa, sp, sht⟩ := s
          simp only at hpa0 hpa1 hp0 hp1 hh0 hh1 HLN HHT HGO HIH HSS
          clear HRL HFIN HI3 HSa HB3
          have HBW := HB1.out.trans (HBB.out.mono HB1.out.size)
          have q2 : wr.cell? ⟨W.heap.size, 2, none⟩ = some (.slice a3 n c3) := (blk_cell ((HBB.out.block _ (blk_lt HX.out)).trans HX.out) 2).trans rfl
          by_cases hlt : b < n
          · obtain ⟨ad, A7, c7, A14, c14, hAd, x0, x1, x2, x3, x4, x5, x6, x7, x8, x9, x10, x11, x12, x13, x14, _⟩ := at_T50 (Kd.C_below h3.out HBW) (b : Int) (by omega) (by omega)
            simp only [Int.toNat_natCast] at x0 x1 x2 x3 x4 x5 x6 x7 x8 x9 x10 x11 x12 x13 x14
            have hst := HGO.out
            rw [ofGo_step P.cl n b _ hlt] at hst
            obtain ⟨x, hx⟩ : ∃ x, x = rd_T50 P.cl (b : Int) := ⟨_, rfl⟩
            unfold ofStep at hst
            rw [← hx] at x0 x1 x2 x3 x4 x5 x6 x7 x8 x9 x10 x11 x12 x13 x14 hst
            simp only at hst
            have HST := Lib.hid hst
            subst hAd
            have HB4 := Lib.hid HBB.out
            have HI4 := Lib.hid HIH.out
            have HS4 := Lib.hid HSS.out
            have HGL4 := Lib.hid (blk_lt HSS.out)
            have HGI4 := Lib.hid HIH.out.lt
            have z9 := x9
            have c2' : wr.cell? ⟨gs, 2, none⟩ = some (.int .i64 sp) := (blk_cell HS4.out 2).trans rfl
            have f2' := blk_frozen HS4.out 2
            clear hx hst HBW HIH HSS HBB x0 x1 x2 x3 x4 x5 x6 x7 x8 x9 x10 x11 x12 x13 x14
            go_upto_region 13 with fail
            obtain ⟨w4, hw4⟩ : ∃ w4 : World, w4 = wr := ⟨_, rfl⟩
            rw [← hw4] at HB4 HI4 HS4 z9 c2' f2' q2 HGL4 HGI4 ⊢
            clear hw4
            obtain ⟨p2, hp2⟩ : ∃ p2, p2 = (if x.f5 < 0 then sp + 1 else sp) := ⟨_, rfl⟩
            rw [← hp2] at HST
            have key : True := trivial
            by_cases h5 : x.f5 < 0
            · have hp2' : p2 = sp + 1 := by rw [hp2, if_pos h5]
              subst hp2'
              clear hp2
              have HS5 := (show (w4.setCell ⟨gs, 2, none⟩ (.int .i64 (sp + 1))).heap[gs]? = some (.cells (sh8C ⟨w.length, n, sp + 1, P.pr.length, P.ob.length, wide, spa, sht⟩) 79 (0, 0)) from blk_set HS4.out 2 _)
              have HI5 := (show IntR (w4.setCell ⟨gs, 2, none⟩ (.int .i64 (sp + 1))) gh sh from blk_far HI4.out (by show gh ≠ gs; have := HGH.out; omega) _)
              have HB5 := (HB4.out.setCell (p := ⟨gs, 2, none⟩) (Nat.le_of_eq HGS.out.symm) (.int .i64 (sp + 1)))
              go_upto_region 15 with fail
              obtain ⟨w5, hw5⟩ : ∃ w5, w5 = w4.setCell ⟨gs, 2, none⟩ (.int .i64 (sp + 1)) := ⟨_, rfl⟩
              rw [← hw5] at HS5 HI5 HB5 ⊢
              replace HS5 := Lib.hid HS5
              replace HI5 := Lib.hid HI5
              replace HB5 := Lib.hid HB5
              clear hw5 z9 c2' f2' HS4 HI4 HB4 q2
              obtain ⟨ro, hro⟩ : ∃ r, r = inGo P.cl b b 0 (sh.set b 1, spa) := ⟨_, rfl⟩
              have HRO := Lib.hid (show inGo P.cl b (b - 0) 0 (sh.set b 1, spa) = ro from hro.symm)
              rw [← hro] at HST
              clear hro
              have zb := HI5.out.cell (b : Int) (by omega) (by have := HLN.out; omega)
              have fb := HI5.out.frozen b
              have eb := ag_add HAH.out b
              rw [Int.toNat_natCast, ← eb] at zb
              rw [← eb] at fb
              have HEB := Lib.hid eb
              have hbl : b < n := hlt
              clear eb
              go_upto_region 17 with fail
              have HI6 := HI5.out.set b 1
              rw [← HEB.out] at HI6
              have HS6 := (show (w5.setCell (ah.add b) (.int .i64 1)).heap[gs]? = some (.cells (sh8C ⟨w.length, n, sp + 1, P.pr.length, P.ob.length, wide, spa, sht⟩) 79 (0, 0)) from by rw [HEB.out]; exact blk_far HS5.out (by show gs ≠ gh; have := HGH.out; omega) _)
              have HB6 := HB5.out.setCell (p := ah.add b) (by rw [HEB.out]; exact HG1.out) (.int .i64 1)
              obtain ⟨w6, hw6⟩ : ∃ w6, w6 = w5.setCell (ah.add b) (.int .i64 1) := ⟨_, rfl⟩
              rw [← hw6] at HI6 HS6 HB6 ⊢
              replace HI6 := Lib.hid HI6
              replace HS6 := Lib.hid HS6
              replace HB6 := Lib.hid HB6
              have HT6 := Lib.hid (HHT.out.set b 1 (by omega) (by omega))
              have HL6 := Lib.hid (show (sh.set b 1).length = n from by rw [List.length_set]; exact HLN.out)
              clear hw6 zb fb HI5 HS5 HB5
              go_wp2
              try rw [decide_eq_true (show (b : Int) < (n : Int) by omega)]
              go_loopw [10] (fun av wr => ∃ (a : Nat) (r1 : List Int) (r2 : Int), av = .int .i64 a ∧ a ≤ b ∧ 0 ≤ r2 ∧ r2 ≤ 1000000 * (b : Int) + (a : Int) ∧ Hid (r1.length = n) ∧ Hid (HtB r1) ∧ Hid (inGo P.cl b (b - a) a (r1, r2) = ro) ∧ Hid (IntR wr gh r1) ∧ Hid (wr.heap[gs]? = some (.cells (sh8C ⟨w.length, n, sp + 1, P.pr.length, P.ob.length, wide, r2, sht⟩) 79 (0, 0))) ∧ Hid (Below w1.heap.size w1 wr)) (fun a _ => b - (intOf a).toNat)
              case atStart => exact ⟨0, _, _, rfl, by omega, by omega, by omega, HL6.out, HT6.out, HRO.out, HI6.out, HS6.out, HB6.out⟩
              case round =>
                obtain ⟨a, r1, r2, rfl, ha, hr0, hr1, HL, HT, HGI, HIR, HSR, HBR⟩ := hrel
                clear HL6 HT6 HRO HI6 HS6 HB6
                have HBW := HB1.out.trans (HBR.out.mono HB1.out.size)
                by_cases hab : a < b
                · have HX7 := (HBR.out.block _ (blk_lt HX.out)).trans HX.out
                  have q0 : wr.cell? ⟨W.heap.size, 0, none⟩ = some (.slice a1 P.pr.length c1) := (blk_cell HX7 0).trans rfl
                  have q1 : wr.cell? ⟨W.heap.size, 1, none⟩ = some (.slice a2 P.ob.length c2) := (blk_cell HX7 1).trans rfl
                  have q2 : wr.cell? ⟨W.heap.size, 2, none⟩ = some (.slice (some ad) n c3) := (blk_cell HX7 2).trans rfl
                  have HCB := Lib.hid (HBF.out wr (a : Int) (b : Int) HBW)
                  have hst := HGI.out
                  rw [inGo_step P.cl b a _ hab] at hst
                  unfold inStep at hst
                  obtain ⟨bf, hbf⟩ : ∃ v, v = befB P.cl (a : Int) (b : Int) := ⟨_, rfl⟩
                  rw [← hbf] at HCB hst
                  have HST2 := Lib.hid hst
                  clear hst hbf HX7 HBW
                  go_wp2_with fail
                  refine HCB.out.mono ?_
                  rintro e w7 ⟨rfl, hw7⟩
                  have HB7 := Lib.hid (HBR.out.trans (hw7.mono HBR.out.size))
                  have HI7 := Lib.hid (HIR.out.below hw7)
                  have HS7 := Lib.hid ((hw7.block _ (blk_lt HSR.out)).trans HSR.out)
                  clear hw7 q0 q1 q2 HIR HSR HBR HCB
                  cases bf
                  · have HN := Lib.hid (show inGo P.cl b (b - (a + 1)) (a + 1) (r1, r2 + 1) = ro from by have h := HST2.out; rw [if_neg (by decide)] at h; exact h)
                    have c6 : w7.cell? ⟨gs, 6, none⟩ = some (.int .i64 r2) := (blk_cell HS7.out 6).trans rfl
                    have f6 := blk_frozen HS7.out 6
                    have HS8 := Lib.hid (show (w7.setCell ⟨gs, 6, none⟩ (.int .i64 (r2 + 1))).heap[gs]? = some (.cells (sh8C ⟨w.length, n, sp + 1, P.pr.length, P.ob.length, wide, r2 + 1, sht⟩) 79 (0, 0)) from blk_set HS7.out 6 _)
                    have HI8 := Lib.hid (show IntR (w7.setCell ⟨gs, 6, none⟩ (.int .i64 (r2 + 1))) gh r1 from blk_far HI7.out (by show gh ≠ gs; have := HGH.out; omega) _)
                    have HB8 := Lib.hid (HB7.out.setCell (p := ⟨gs, 6, none⟩) (Nat.le_of_eq HGS.out.symm) (.int .i64 (r2 + 1)))
                    clear HST2
                    go_wp2
                    go_roundw
                    case rel => exact ⟨a + 1, r1, r2 + 1, by simp, hab, by omega, by omega, HL.out, HT.out, HN.out, HI8.out, HS8.out, HB8.out⟩
                    case measure => simp [intOf]; omega
                  · have za := HI7.out.cell (a : Int) (by omega) (by have := HL.out; omega)
                    have zb := HI7.out.cell (b : Int) (by omega) (by have := HL.out; omega)
                    have fb := HI7.out.frozen b
                    have ea := ag_add HAH.out a
                    have ta := HT.out a
                    have tb := HT.out b
                    rw [Int.toNat_natCast, ← ea] at za
                    rw [Int.toNat_natCast, ← HEB.out] at zb
                    rw [← HEB.out] at fb
                    obtain ⟨va, hva⟩ : ∃ v, v = rd r1 (a : Int) := ⟨_, rfl⟩
                    obtain ⟨vb, hvb⟩ : ∃ v, v = rd r1 (b : Int) := ⟨_, rfl⟩
                    rw [← hva] at za ta
                    rw [← hvb] at zb tb
                    have HN := Lib.hid (show inGo P.cl b (b - (a + 1)) (a + 1) (r1.set b (max vb (va + 1)), r2) = ro from by have h := HST2.out; rw [if_pos rfl] at h; rw [hva, hvb]; exact h)
                    have HT8 := Lib.hid (HT.out.set b (max vb (va + 1)) (by omega) (by omega))
                    have HL8 := Lib.hid (show (r1.set b (max vb (va + 1))).length = n from by rw [List.length_set]; exact HL.out)
                    clear HST2 ea hva hvb
                    have HI8 := Lib.hid (show IntR ((w7.setCell (ah.add b) (.int .i64 (max vb (va + 1)))).drew) gh (r1.set b (max vb (va + 1))) from by show IntR (w7.setCell (ah.add b) (.int .i64 (max vb (va + 1)))) _ _; rw [HEB.out]; exact HI7.out.set b _)
                    have HS8 := Lib.hid (show ((w7.setCell (ah.add b) (.int .i64 (max vb (va + 1)))).drew).heap[gs]? = some (.cells (sh8C ⟨w.length, n, sp + 1, P.pr.length, P.ob.length, wide, r2, sht⟩) 79 (0, 0)) from by show (w7.setCell (ah.add b) (.int .i64 (max vb (va + 1)))).heap[gs]? = _; rw [HEB.out]; exact blk_far HS7.out (by show gs ≠ gh; have := HGH.out; omega) _)
                    have HB8 := Lib.hid (below_drew (HB7.out.setCell (p := ah.add b) (by rw [HEB.out]; exact HG1.out) (.int .i64 (max vb (va + 1)))))
                    go_wp2
                    go_region
                    go_wp2
                    go_roundw
                    case rel => exact ⟨a + 1, r1.set b (max vb (va + 1)), r2, by simp, hab, by omega, by omega, HL8.out, HT8.out, HN.out, HI8.out, HS8.out, HB8.out⟩
                    case measure => simp [intOf]; omega
                · have hab2 : a = b := by omega
                  have zb := HIR.out.cell (b : Int) (by omega) (by have := HL.out; omega)
                  have tb := HT.out b
                  rw [Int.toNat_natCast, ← HEB.out] at zb
                  obtain ⟨vb, hvb⟩ : ∃ v, v = rd r1 (b : Int) := ⟨_, rfl⟩
                  rw [← hvb] at zb tb
                  have hro : ro = (r1, r2) := by have h := HGI.out; rw [hab2, Nat.sub_self] at h; exact h.symm
                  have hab3 : ¬ a < b := hab
                  have HN := Lib.hid (show ofGo P.cl (n - (b + 1)) (b + 1) ⟨r1, r2, sp + 1, max sht vb⟩ = fin from by have h := HST.out; rw [hro] at h; rw [hvb]; exact h)
                  have c7' : wr.cell? ⟨gs, 7, none⟩ = some (.int .i64 sht) := (blk_cell HSR.out 7).trans rfl
                  have f7' := blk_frozen HSR.out 7
                  have HS8 := Lib.hid (show ((wr.setCell ⟨gs, 7, none⟩ (.int .i64 (max sht vb))).drew).heap[gs]? = some (.cells (sh8C ⟨w.length, n, sp + 1, P.pr.length, P.ob.length, wide, r2, max sht vb⟩) 79 (0, 0)) from blk_set HSR.out 7 _)
                  have HI8 := Lib.hid (show IntR ((wr.setCell ⟨gs, 7, none⟩ (.int .i64 (max sht vb))).drew) gh r1 from blk_far HIR.out (by show gh ≠ gs; have := HGH.out; omega) _)
                  have HB8 := Lib.hid (below_drew (HBR.out.setCell (p := ⟨gs, 7, none⟩) (Nat.le_of_eq HGS.out.symm) (.int .i64 (max sht vb))))
                  have hab4 : (b : Int) ≤ (a : Int) := by omega
                  clear hvb hro HST HGI hab hab2
                  go_wp2
                  go_region
                  go_wp2
                  go_roundw
                  case rel => exact ⟨b + 1, ⟨r1, r2, sp + 1, max sht vb⟩, by simp, hlt, by dsimp only; omega, by dsimp only; omega, by dsimp only; omega, by dsimp only; omega, by dsimp only; omega, by dsimp only; omega, HL.out, HT.out, HN.out, HI8.out, HS8.out, HB8.out⟩
                  case measure => simp [intOf]; omega
            · have hp2' : p2 = sp := by rw [hp2, if_neg h5]
              rw [hp2'] at HST
              have h5' : 0 ≤ x.f5 := by omega
              clear hp2 hp2' p2 h5
              obtain ⟨w5, hw5⟩ : ∃ w5 : World, w5 = w4 := ⟨_, rfl⟩
              rw [← hw5] at HS4 HI4 HB4 z9 q2 ⊢
              have HS5 := Lib.hid HS4.out
              have HI5 := Lib.hid HI4.out
              have HB5 := Lib.hid HB4.out
              clear c2' f2' HS4 HI4 HB4 hw5
              go_upto_region 15 with fail
              clear z9 q2
              obtain ⟨ro, hro⟩ : ∃ r, r = inGo P.cl b b 0 (sh.set b 1, spa) := ⟨_, rfl⟩
              have HRO := Lib.hid (show inGo P.cl b (b - 0) 0 (sh.set b 1, spa) = ro from hro.symm)
              rw [← hro] at HST
              clear hro
              have zb := HI5.out.cell (b : Int) (by omega) (by have := HLN.out; omega)
              have fb := HI5.out.frozen b
              have eb := ag_add HAH.out b
              rw [Int.toNat_natCast, ← eb] at zb
              rw [← eb] at fb
              have HEB := Lib.hid eb
              have hbl : b < n := hlt
              clear eb
              go_upto_region 17 with fail
              have HI6 := HI5.out.set b 1
              rw [← HEB.out] at HI6
              have HS6 := (show (w5.setCell (ah.add b) (.int .i64 1)).heap[gs]? = some (.cells (sh8C ⟨w.length, n, sp, P.pr.length, P.ob.length, wide, spa, sht⟩) 79 (0, 0)) from by rw [HEB.out]; exact blk_far HS5.out (by show gs ≠ gh; have := HGH.out; omega) _)
              have HB6 := HB5.out.setCell (p := ah.add b) (by rw [HEB.out]; exact HG1.out) (.int .i64 1)
              obtain ⟨w6, hw6⟩ : ∃ w6, w6 = w5.setCell (ah.add b) (.int .i64 1) := ⟨_, rfl⟩
              rw [← hw6] at HI6 HS6 HB6 ⊢
              replace HI6 := Lib.hid HI6
              replace HS6 := Lib.hid HS6
              replace HB6 := Lib.hid HB6
              have HT6 := Lib.hid (HHT.out.set b 1 (by omega) (by omega))
              have HL6 := Lib.hid (show (sh.set b 1).length = n from by rw [List.length_set]; exact HLN.out)
              clear hw6 zb fb HI5 HS5 HB5
              go_wp2
              try rw [decide_eq_true (show (b : Int) < (n : Int) by omega)]
              go_loopw [10] (fun av wr => ∃ (a : Nat) (r1 : List Int) (r2 : Int), av = .int .i64 a ∧ a ≤ b ∧ 0 ≤ r2 ∧ r2 ≤ 1000000 * (b : Int) + (a : Int) ∧ Hid (r1.length = n) ∧ Hid (HtB r1) ∧ Hid (inGo P.cl b (b - a) a (r1, r2) = ro) ∧ Hid (IntR wr gh r1) ∧ Hid (wr.heap[gs]? = some (.cells (sh8C ⟨w.length, n, sp, P.pr.length, P.ob.length, wide, r2, sht⟩) 79 (0, 0))) ∧ Hid (Below w1.heap.size w1 wr)) (fun a _ => b - (intOf a).toNat)
              case atStart => exact ⟨0, _, _, rfl, by omega, by omega, by omega, HL6.out, HT6.out, HRO.out, HI6.out, HS6.out, HB6.out⟩
              case round =>
                obtain ⟨a, r1, r2, rfl, ha, hr0, hr1, HL, HT, HGI, HIR, HSR, HBR⟩ := hrel
                clear HL6 HT6 HRO HI6 HS6 HB6
                have HBW := HB1.out.trans (HBR.out.mono HB1.out.size)
                by_cases hab : a < b
                · have HX7 := (HBR.out.block _ (blk_lt HX.out)).trans HX.out
                  have q0 : wr.cell? ⟨W.heap.size, 0, none⟩ = some (.slice a1 P.pr.length c1) := (blk_cell HX7 0).trans rfl
                  have q1 : wr.cell? ⟨W.heap.size, 1, none⟩ = some (.slice a2 P.ob.length c2) := (blk_cell HX7 1).trans rfl
                  have q2 : wr.cell? ⟨W.heap.size, 2, none⟩ = some (.slice (some ad) n c3) := (blk_cell HX7 2).trans rfl
                  have HCB := Lib.hid (HBF.out wr (a : Int) (b : Int) HBW)
                  have hst := HGI.out
                  rw [inGo_step P.cl b a _ hab] at hst
                  unfold inStep at hst
                  obtain ⟨bf, hbf⟩ : ∃ v, v = befB P.cl (a : Int) (b : Int) := ⟨_, rfl⟩
                  rw [← hbf] at HCB hst
                  have HST2 := Lib.hid hst
                  clear hst hbf HX7 HBW
                  go_wp2_with fail
                  refine HCB.out.mono ?_
                  rintro e w7 ⟨rfl, hw7⟩
                  have HB7 := Lib.hid (HBR.out.trans (hw7.mono HBR.out.size))
                  have HI7 := Lib.hid (HIR.out.below hw7)
                  have HS7 := Lib.hid ((hw7.block _ (blk_lt HSR.out)).trans HSR.out)
                  clear hw7 q0 q1 q2 HIR HSR HBR HCB
                  cases bf
                  · have HN := Lib.hid (show inGo P.cl b (b - (a + 1)) (a + 1) (r1, r2 + 1) = ro from by have h := HST2.out; rw [if_neg (by decide)] at h; exact h)
                    have c6 : w7.cell? ⟨gs, 6, none⟩ = some (.int .i64 r2) := (blk_cell HS7.out 6).trans rfl
                    have f6 := blk_frozen HS7.out 6
                    have HS8 := Lib.hid (show (w7.setCell ⟨gs, 6, none⟩ (.int .i64 (r2 + 1))).heap[gs]? = some (.cells (sh8C ⟨w.length, n, sp, P.pr.length, P.ob.length, wide, r2 + 1, sht⟩) 79 (0, 0)) from blk_set HS7.out 6 _)
                    have HI8 := Lib.hid (show IntR (w7.setCell ⟨gs, 6, none⟩ (.int .i64 (r2 + 1))) gh r1 from blk_far HI7.out (by show gh ≠ gs; have := HGH.out; omega) _)
                    have HB8 := Lib.hid (HB7.out.setCell (p := ⟨gs, 6, none⟩) (Nat.le_of_eq HGS.out.symm) (.int .i64 (r2 + 1)))
                    clear HST2
                    go_wp2
                    go_roundw
                    case rel => exact ⟨a + 1, r1, r2 + 1, by simp, hab, by omega, by omega, HL.out, HT.out, HN.out, HI8.out, HS8.out, HB8.out⟩
                    case measure => simp [intOf]; omega
                  · have za := HI7.out.cell (a : Int) (by omega) (by have := HL.out; omega)
                    have zb := HI7.out.cell (b : Int) (by omega) (by have := HL.out; omega)
                    have fb := HI7.out.frozen b
                    have ea := ag_add HAH.out a
                    have ta := HT.out a
                    have tb := HT.out b
                    rw [Int.toNat_natCast, ← ea] at za
                    rw [Int.toNat_natCast, ← HEB.out] at zb
                    rw [← HEB.out] at fb
                    obtain ⟨va, hva⟩ : ∃ v, v = rd r1 (a : Int) := ⟨_, rfl⟩
                    obtain ⟨vb, hvb⟩ : ∃ v, v = rd r1 (b : Int) := ⟨_, rfl⟩
                    rw [← hva] at za ta
                    rw [← hvb] at zb tb
                    have HN := Lib.hid (show inGo P.cl b (b - (a + 1)) (a + 1) (r1.set b (max vb (va + 1)), r2) = ro from by have h := HST2.out; rw [if_pos rfl] at h; rw [hva, hvb]; exact h)
                    have HT8 := Lib.hid (HT.out.set b (max vb (va + 1)) (by omega) (by omega))
                    have HL8 := Lib.hid (show (r1.set b (max vb (va + 1))).length = n from by rw [List.length_set]; exact HL.out)
                    clear HST2 ea hva hvb
                    have HI8 := Lib.hid (show IntR ((w7.setCell (ah.add b) (.int .i64 (max vb (va + 1)))).drew) gh (r1.set b (max vb (va + 1))) from by show IntR (w7.setCell (ah.add b) (.int .i64 (max vb (va + 1)))) _ _; rw [HEB.out]; exact HI7.out.set b _)
                    have HS8 := Lib.hid (show ((w7.setCell (ah.add b) (.int .i64 (max vb (va + 1)))).drew).heap[gs]? = some (.cells (sh8C ⟨w.length, n, sp, P.pr.length, P.ob.length, wide, r2, sht⟩) 79 (0, 0)) from by show (w7.setCell (ah.add b) (.int .i64 (max vb (va + 1)))).heap[gs]? = _; rw [HEB.out]; exact blk_far HS7.out (by show gs ≠ gh; have := HGH.out; omega) _)
                    have HB8 := Lib.hid (below_drew (HB7.out.setCell (p := ah.add b) (by rw [HEB.out]; exact HG1.out) (.int .i64 (max vb (va + 1)))))
                    go_wp2
                    go_region
                    go_wp2
                    go_roundw
                    case rel => exact ⟨a + 1, r1.set b (max vb (va + 1)), r2, by simp, hab, by omega, by omega, HL8.out, HT8.out, HN.out, HI8.out, HS8.out, HB8.out⟩
                    case measure => simp [intOf]; omega
                · have hab2 : a = b := by omega
                  have zb := HIR.out.cell (b : Int) (by omega) (by have := HL.out; omega)
                  have tb := HT.out b
                  rw [Int.toNat_natCast, ← HEB.out] at zb
                  obtain ⟨vb, hvb⟩ : ∃ v, v = rd r1 (b : Int) := ⟨_, rfl⟩
                  rw [← hvb] at zb tb
                  have hro : ro = (r1, r2) := by have h := HGI.out; rw [hab2, Nat.sub_self] at h; exact h.symm
                  have hab3 : ¬ a < b := hab
                  have HN := Lib.hid (show ofGo P.cl (n - (b + 1)) (b + 1) ⟨r1, r2, sp, max sht vb⟩ = fin from by have h := HST.out; rw [hro] at h; rw [hvb]; exact h)
                  have c7' : wr.cell? ⟨gs, 7, none⟩ = some (.int .i64 sht) := (blk_cell HSR.out 7).trans rfl
                  have f7' := blk_frozen HSR.out 7
                  have HS8 := Lib.hid (show ((wr.setCell ⟨gs, 7, none⟩ (.int .i64 (max sht vb))).drew).heap[gs]? = some (.cells (sh8C ⟨w.length, n, sp, P.pr.length, P.ob.length, wide, r2, max sht vb⟩) 79 (0, 0)) from blk_set HSR.out 7 _)
                  have HI8 := Lib.hid (show IntR ((wr.setCell ⟨gs, 7, none⟩ (.int .i64 (max sht vb))).drew) gh r1 from blk_far HIR.out (by show gh ≠ gs; have := HGH.out; omega) _)
                  have HB8 := Lib.hid (below_drew (HBR.out.setCell (p := ⟨gs, 7, none⟩) (Nat.le_of_eq HGS.out.symm) (.int .i64 (max sht vb))))
                  have hab4 : (b : Int) ≤ (a : Int) := by omega
                  clear hvb hro HST HGI hab hab2
                  go_wp2
                  go_region
                  go_wp2
                  go_roundw
                  case rel => exact ⟨b + 1, ⟨r1, r2, sp, max sht vb⟩, by simp, hlt, by dsimp only; omega, by dsimp only; omega, by dsimp only; omega, by dsimp only; omega, by dsimp only; omega, by dsimp only; omega, HL.out, HT.out, HN.out, HI8.out, HS8.out, HB8.out⟩
                  case measure => simp [intOf]; omega
          · have hbn : b = n := by omega
            have hfin : fin = ⟨sh, spa, sp, sht⟩ := by have h := HGO.out; rw [hbn, Nat.sub_self] at h; exact h.symm
            have HO2 := Lib.hid (show ofF P = some ⟨w.length, n, sp, P.pr.length, P.ob.length, wide, spa, sht⟩ from by have h := HO.out; rw [hfin] at h; exact h)
            have HZ9 := Lib.hid ((HBB.out.block _ (blk_lt HZ.out)).trans HZ.out)
            have HB9 := Lib.hid HBW
            have hb9 : (n : Int) ≤ (b : Int) := by omega
            have hs := HSS.out
            have hz := HZ9.out
            have s0 : wr.cell? ⟨gs, 0, none⟩ = some (.int .i64 (w.length : Int)) := (blk_cell hs 0).trans rfl
            have s1 : wr.cell? ⟨gs, 1, none⟩ = some (.int .i64 (n : Int)) := (blk_cell hs 1).trans rfl
            have s2 : wr.cell? ⟨gs, 2, none⟩ = some (.int .i64 sp) := (blk_cell hs 2).trans rfl
            have s3 : wr.cell? ⟨gs, 3, none⟩ = some (.int .i64 (P.pr.length : Int)) := (blk_cell hs 3).trans rfl
            have s4 : wr.cell? ⟨gs, 4, none⟩ = some (.int .i64 (P.ob.length : Int)) := (blk_cell hs 4).trans rfl
            have s5 : wr.cell? ⟨gs, 5, none⟩ = some (.int .i64 wide) := (blk_cell hs 5).trans rfl
            have s6 : wr.cell? ⟨gs, 6, none⟩ = some (.int .i64 spa) := (blk_cell hs 6).trans rfl
            have s7 : wr.cell? ⟨gs, 7, none⟩ = some (.int .i64 sht) := (blk_cell hs 7).trans rfl
            have r0 : wr.cell? ⟨W.heap.size + 1, 0, none⟩ = some (.int .i64 0) := (blk_cell hz 0).trans rfl
            have z0 := blk_frozen hz 0
            have r1 : wr.cell? ⟨W.heap.size + 1, 1, none⟩ = some (.int .i64 0) := (blk_cell hz 1).trans rfl
            have z1 := blk_frozen hz 1
            have r2 : wr.cell? ⟨W.heap.size + 1, 2, none⟩ = some (.int .i64 0) := (blk_cell hz 2).trans rfl
            have z2 := blk_frozen hz 2
            have r3 : wr.cell? ⟨W.heap.size + 1, 3, none⟩ = some (.int .i64 0) := (blk_cell hz 3).trans rfl
            have z3 := blk_frozen hz 3
            have r4 : wr.cell? ⟨W.heap.size + 1, 4, none⟩ = some (.int .i64 0) := (blk_cell hz 4).trans rfl
            have z4 := blk_frozen hz 4
            have r5 : wr.cell? ⟨W.heap.size + 1, 5, none⟩ = some (.int .i64 0) := (blk_cell hz 5).trans rfl
            have z5 := blk_frozen hz 5
            have r6 : wr.cell? ⟨W.heap.size + 1, 6, none⟩ = some (.int .i64 0) := (blk_cell hz 6).trans rfl
            have z6 := blk_frozen hz 6
            have r7 : wr.cell? ⟨W.heap.size + 1, 7, none⟩ = some (.int .i64 0) := (blk_cell hz 7).trans rfl
            have z7 := blk_frozen hz 7
            clear hs hz hbn hfin hlt HBW HGO
            go_wp2
            obtain ⟨Wf, hWf⟩ : ∃ Wf, Wf = set8w (W.heap.size + 1) (.int .i64 (w.length : Int)) (.int .i64 (n : Int)) (.int .i64 sp) (.int .i64 (P.pr.length : Int)) (.int .i64 (P.ob.length : Int)) (.int .i64 wide) (.int .i64 spa) (.int .i64 sht) wr := ⟨_, rfl⟩
            change bodyPost _ _ _ _ _ (set8w (W.heap.size + 1) (.int .i64 (w.length : Int)) (.int .i64 (n : Int)) (.int .i64 sp) (.int .i64 (P.pr.length : Int)) (.int .i64 (P.ob.length : Int)) (.int .i64 wide) (.int .i64 spa) (.int .i64 sht) wr)
            rw [← hWf]
            have hRf : Wf.heap[W.heap.size + 1]? = some (.cells #[.int .i64 (w.length : Int), .int .i64 (n : Int), .int .i64 sp, .int .i64 (P.pr.length : Int), .int .i64 (P.ob.length : Int), .int .i64 wide, .int .i64 spa, .int .i64 sht] 79 (0, 0)) := by rw [hWf]; exact set8w_at _ _ _ _ _ _ _ _ HZ9.out
            have t0 : Wf.cell? ⟨W.heap.size + 1, 0, none⟩ = some (.int .i64 (w.length : Int)) := (blk_cell hRf 0).trans rfl
            have t1 : Wf.cell? ⟨W.heap.size + 1, 1, none⟩ = some (.int .i64 (n : Int)) := (blk_cell hRf 1).trans rfl
            have t2 : Wf.cell? ⟨W.heap.size + 1, 2, none⟩ = some (.int .i64 sp) := (blk_cell hRf 2).trans rfl
            have t3 : Wf.cell? ⟨W.heap.size + 1, 3, none⟩ = some (.int .i64 (P.pr.length : Int)) := (blk_cell hRf 3).trans rfl
            have t4 : Wf.cell? ⟨W.heap.size + 1, 4, none⟩ = some (.int .i64 (P.ob.length : Int)) := (blk_cell hRf 4).trans rfl
            have t5 : Wf.cell? ⟨W.heap.size + 1, 5, none⟩ = some (.int .i64 wide) := (blk_cell hRf 5).trans rfl
            have t6 : Wf.cell? ⟨W.heap.size + 1, 6, none⟩ = some (.int .i64 spa) := (blk_cell hRf 6).trans rfl
            have t7 : Wf.cell? ⟨W.heap.size + 1, 7, none⟩ = some (.int .i64 sht) := (blk_cell hRf 7).trans rfl
            have hBf : Below W.heap.size W Wf := by rw [hWf]; exact set8w_below HB9.out (by omega) _ _ _ _ _ _ _ _
            exact bodyPost_ret (v := .tuple #[.agg #[.int .i64 (w.length : Int), .int .i64 (n : Int), .int .i64 sp, .int .i64 (P.pr.length : Int), .int .i64 (P.ob.length : Int), .int .i64 wide, .int .i64 spa, .int .i64 sht], .int .i64 0]) (by simp [results, Try.results39, go_sem, t0, t1, t2, t3, t4, t5, t6, t7]) rfl (ofP_some HO2.out hBf)
end Go.Proofs.Ytofinglgnkdflaa
