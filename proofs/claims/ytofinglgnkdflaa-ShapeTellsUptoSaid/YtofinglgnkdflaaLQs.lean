/- The reference of layer 7: Events: the walk. -/
import Derived.Test.YtofinglgnkdflaaLQr
import Derived.Test.YtofinglgnkdflaaLQm
namespace Go.Proofs.Ytofinglgnkdflaa
open Go.RowKit
open Go.Proofs.Ytofinglgnkdflaa.PHistoryChecks Go.Proofs.YtofinglgnkdflaaW.PrintWords Go.Proofs.YtofinglgnkdflaaW.PrintLast Go.Proofs.YtofinglgnkdflaaW.PrintMore
set_option linter.unusedVariables false
set_option linter.unusedSimpArgs false
theorem copy_F (W w : World) (g : Nat) (v : S43) (A : Option Addr) (c : Nat) (hC : Kd.C k43 W A v.f4.length v.f4) (hc : v.f4.length ≤ c) (hb : Below W.heap.size W w) (hg : W.heap.size ≤ g) (hgw : g < w.heap.size) :
    Calls Try.prog 54 #[v43 v A c] w (fun e w' => ∃ A' c', e = .returned (v43 v A' c') ∧ v.f4.length ≤ c' ∧ Kd.F k43 w' (fun k => k ≠ g) A' v.f4.length v.f4 ∧ Below w.heap.size w w') := by
  refine (copy_any w v A c (Kd.C_below hC hb)).mono fun e w' h => ?_
  rcases h with ⟨_, A', c', rfl, hR, hl, hB⟩ | ⟨_, rfl, hB⟩
  · exact ⟨A', c', rfl, hl, F_of_R hR hgw, hB⟩
  · exact ⟨A, c, rfl, hc, F_of_C hC (hb.trans (hB.mono hb.size)) hg, hB⟩
theorem rs_bad {P : PastL} {xs : List S47} {x : S50} (h : x.f0 < 0 ∨ (P.pr.length : Int) ≤ x.f0 ∨ x.f1 < 0 ∨ (P.ob.length : Int) ≤ x.f1 ∨ x.f4 < 0 ∨ (xs.length : Int) ≤ x.f4 ∨ x.f5 < -1 ∨ (xs.length : Int) ≤ x.f5) : revStep P xs x = none := by
  unfold revStep
  by_cases h5 : x.f5 < -1
  · rw [if_pos h5]
  · rw [if_neg h5]
    unfold evStep
    cases hi : evIn P x with
    | false => simp
    | true =>
      unfold evIn at hi
      simp only [Bool.and_eq_true, decide_eq_true_eq] at hi
      cases hp : putB xs x.f4 with
      | false => simp
      | true =>
        unfold putB at hp
        simp only [Bool.and_eq_true, decide_eq_true_eq] at hp
        have hf : putB (putL xs x.f4 (evCall P x)) x.f5 = false := by
          unfold putB
          rw [putL_length, decide_eq_false (show ¬ x.f5 < (xs.length : Int) by omega)]; simp
        simp only [if_true]
        rw [if_pos (show 0 ≤ x.f5 by omega), hf]; simp
def REvsP (P : PastL) (W : World) (e : Ending) (w' : World) : Prop :=
  Below W.heap.size W w' ∧ match eventsF P with
    | none => e = .returned (.tuple #[.slice none 0 0, .int .i64 2])
    | some xs => ∃ A c, e = .returned (.tuple #[.slice A xs.length c, .int .i64 0]) ∧ Kd.C k47 w' A xs.length xs ∧ xs.length ≤ c
theorem revsP_bad {P : PastL} {W w' : World} (h : reventsF P = none) (hb : Below W.heap.size W w') : REvsP P W (.returned (.tuple #[.slice none 0 0, .int .i64 2])) w' := ⟨hb, by rw [← revents_eq, h]⟩
theorem revsP_good {P : PastL} {W w' : World} {xs : List S47} {A : Option Addr} {c : Nat} (h : reventsF P = some xs) (hb : Below W.heap.size W w') (hC : Kd.C k47 w' A xs.length xs) (hc : xs.length ≤ c) : REvsP P W (.returned (.tuple #[.slice A xs.length c, .int .i64 0])) w' := ⟨hb, by rw [← revents_eq, h]; exact ⟨A, c, rfl, hC, hc⟩⟩
theorem rev_none {P : PastL} {xs : List S47} {i : Int} (h0 : 0 ≤ i) (h1 : i < (P.cl.length : Int)) (h : revStep P xs (rd_T50 P.cl i) = none) (hr : revL P = revFrom P xs (P.cl.drop i.toNat)) : reventsF P = none := by
  have hn : i.toNat < P.cl.length := by omega
  have e : rd_T50 P.cl i = P.cl[i.toNat] := by unfold rd_T50; rw [List.getD_eq_getElem?_getD, List.getElem?_eq_getElem hn]; rfl
  rw [List.drop_eq_getElem_cons hn] at hr
  simp only [revFrom] at hr
  rw [← e, h] at hr
  unfold reventsF; rw [hr]
theorem rev_some {P : PastL} {xs ys : List S47} {i : Int} (h0 : 0 ≤ i) (h1 : i < (P.cl.length : Int)) (h : revStep P xs (rd_T50 P.cl i) = some ys) (hr : revL P = revFrom P xs (P.cl.drop i.toNat)) : revL P = revFrom P ys (P.cl.drop (i + 1).toNat) := by
  have hn : i.toNat < P.cl.length := by omega
  have e : rd_T50 P.cl i = P.cl[i.toNat] := by unfold rd_T50; rw [List.getD_eq_getElem?_getD, List.getElem?_eq_getElem hn]; rfl
  have e2 : (i + 1).toNat = i.toNat + 1 := by omega
  rw [List.drop_eq_getElem_cons hn] at hr
  simp only [revFrom] at hr
  rw [← e, h] at hr
  rw [e2]; exact hr
theorem EvS.below {P : PastL} {x : S50} {A7 : Option Addr} {c7 : Nat} {A14 : Option Addr} {c14 c1 c2 c3 b b6 : Nat} {pd od ad : Addr} {w w2 : World} (h : EvS P x A7 c7 A14 c14 c1 c2 c3 b b6 pd od ad w) (hb : Below w.heap.size w w2) : EvS P x A7 c7 A14 c14 c1 c2 c3 b b6 pd od ad w2 :=
  ⟨(hb.block _ (blk_lt h.hb)).trans h.hb, (hb.block _ (blk_lt h.hc)).trans h.hc, pw_cell_below hb h.p, pw_cell_below hb h.o⟩
theorem rowX_at {w : World} {g i : Nat} {xs : List S47} (h : RowX w g xs) (hi : i < xs.length) : ∃ y A8 c8, xs[i]? = some y ∧ ∀ o u, (c47 y A8 c8)[o]? = some u → w.cell? ⟨g, i * 12 + o, none⟩ = some u := by
  obtain ⟨cur, h1, h2, h3, h4, h5⟩ := h
  obtain ⟨c, hc, x, hx, hK⟩ := h5 i hi
  obtain ⟨A8, c8, rfl, _⟩ := k47_open (Kd.FK_now hK)
  exact ⟨x, A8, c8, hx, fun o u hu => (blk_cell h1 _).trans (hc.2 o u (by rw [← hu]; exact (Array.getElem?_toList ..)))⟩
theorem rowX_frozen {w : World} {g : Nat} {xs : List S47} (h : RowX w g xs) (j : Nat) : w.frozen? ⟨g, j, none⟩ = false := Blk.frozen (show Blk 12 47 w g xs.length xs.length _ from h) j
set_option maxHeartbeats 16000000 in
set_option maxRecDepth 100000 in
theorem REvents_any (W : World) (P : PastL) (R : Rw3) (hR : RdP W P R) (hl : P.cl.length ≤ 250000) (hE : ∀ xs, eventsL P = some xs → ∀ e ∈ xs, okE2 e) :
    Calls Try.prog 22 #[.agg (cP P R)] W (REvsP P W) := by
  have hs2 := cntR_le P.cl
  obtain ⟨n, hn⟩ : ∃ n, n = sizeL P.cl := ⟨_, rfl⟩
  have hnl : n ≤ 500000 := by rw [hn]; unfold sizeL; omega
  have HNN := Lib.hid (show (n : Int) = P.cl.length + cntR P.cl from by rw [hn]; unfold sizeL; omega)
  have HST := Lib.hid (show revL P = revFrom P (List.replicate n z47) (P.cl.drop (0 : Int).toNat) from by rw [hn]; rfl)
  obtain ⟨i0, hi, hz0, hz1, hz2⟩ := info_parts info47
  have hmk := fun wx => run_make (P := Try.prog) wx 25 47 i0 _ Try.underlying25 hi hz0 .i64 .i64 (n : Int) (n : Int) (by omega) (by omega) (by rw [hz2]; omega) (by omega)
  rw [hz1] at hmk
  have hmk2 : ∀ wx : World, (Instr.makeSlice 25 (.int .i64 (n : Int)) (.int .i64 (n : Int))).run Try.prog wx = .ok (.slice (some ⟨wx.heap.size, 0, none⟩) n n) (wx.alloc (.cells (madeCells (c47 z47 none 0) (n * 12)) 47)) := hmk
  have HR := Lib.hid hR
  have HEV := Lib.hid hE
  have h3 := Lib.hid hR.cl
  have h1 := Lib.hid hR.pr
  have h2 := Lib.hid hR.ob
  have hpm := Kd.C_max hR.pr
  have hom := Kd.C_max hR.ob
  have HP0 := Lib.hid (fun W1 (h : Below W.heap.size W W1) => hR.below h)
  obtain ⟨a1, c1, a2, c2, a3, c3⟩ := R
  have hbx := Lib.hid (heap_alloc_new W (.cells (cP P ⟨a1, c1, a2, c2, a3, c3⟩) 30))
  have HB0 := Lib.hid (below_alloc (Below.refl W.heap.size W) (.cells (cP P ⟨a1, c1, a2, c2, a3, c3⟩) 30))
  unfold cP at HB0 hbx ⊢
  clear hR hE hmk hi hz0 hz1 hz2 hn hs2
  go_enter Try.func22, Try.ntmps22
  go_wp2
  obtain ⟨W0, hW0⟩ : ∃ w, w = W.alloc (.cells #[.slice a1 P.pr.length c1, .slice a2 P.ob.length c2, .slice a3 P.cl.length c3] 30) := ⟨_, rfl⟩
  rw [← hW0] at hbx HB0 ⊢
  clear hW0
  go_loopw [5, 4] (fun iv nv wr => ∃ i m : Int, iv = .int .i64 i ∧ nv = .int .i64 m ∧ 0 ≤ i ∧ i ≤ (P.cl.length : Int) ∧ 0 ≤ m ∧ m ≤ 1000000 ∧ Hid (m = P.cl.length + cntR (P.cl.take i.toNat)) ∧ Hid (Below W0.heap.size W0 wr)) (fun i _ _ => P.cl.length - (intOf i).toNat)
  case atStart => exact ⟨0, P.cl.length, rfl, rfl, by omega, by omega, by omega, by omega, by show (P.cl.length : Int) = P.cl.length + cntR (P.cl.take 0); rw [List.take_zero]; simp [cntR], Below.refl _ _⟩
  case round =>
    obtain ⟨i, m, rfl, rfl, hi0, hi1, hm0, hm1, HN, HB⟩ := hrel
    have q2 : wr.cell? ⟨W.heap.size, 2, none⟩ = some (.slice a3 P.cl.length c3) := pw_cell_below HB.out ((blk_cell hbx.out 2).trans rfl)
    have HBW := Lib.hid (HB0.out.trans (HB.out.mono HB0.out.size))
    by_cases hlt : i < (P.cl.length : Int)
    · obtain ⟨ad, _, _, _, _, hAd, _, _, _, _, _, _, _, _, _, y9, _⟩ := at_T50 (Kd.C_below h3.out HBW.out) i hi0 hlt
      subst hAd
      have hst := cntR_step P.cl i hi0 hlt
      have hcl := cntR_le (P.cl.take i.toNat)
      have htl : (P.cl.take i.toNat).length ≤ i.toNat := List.length_take_le _ _
      have hnn := HN.out
      obtain ⟨f, hf⟩ : ∃ f, f = (rd_T50 P.cl i).f5 := ⟨_, rfl⟩
      rw [← hf] at y9 hst
      have hm2 : m ≤ (P.cl.length : Int) + i := by omega
      have HSTP := Lib.hid hst
      clear hst hcl htl hnn hf
      by_cases h5 : f ≥ 0
      · have d5 : decide (f ≥ 0) = true := decide_eq_true h5
        have HN2 := Lib.hid (show m + 1 = P.cl.length + cntR (P.cl.take (i + 1).toNat) from by have h := HSTP.out; rw [if_pos (show 0 ≤ f from h5)] at h; have := HN.out; omega)
        clear h5 HSTP
        go_wp2
        go_roundw
        case rel => exact ⟨i + 1, m + 1, rfl, rfl, by omega, by omega, by omega, by omega, HN2.out, HB.out⟩
        case measure => simp [intOf]; omega
      · have d5 : decide (f ≥ 0) = false := decide_eq_false h5
        have HN2 := Lib.hid (show m = P.cl.length + cntR (P.cl.take (i + 1).toNat) from by have h := HSTP.out; rw [if_neg (show ¬ 0 ≤ f from h5)] at h; have := HN.out; omega)
        clear h5 HSTP
        go_wp2
        go_roundw
        case rel => exact ⟨i + 1, m, rfl, rfl, by omega, by omega, by omega, by omega, HN2.out, HB.out⟩
        case measure => simp [intOf]; omega
    · obtain rfl : m = (n : Int) := by
        have := HN.out
        rw [List.take_of_length_le (by omega)] at this
        have := HNN.out
        omega
      have hge : (P.cl.length : Int) ≤ i := by omega
      have HRW := Lib.hid (rowX_made wr n (by omega))
      have HBG := Lib.hid (below_alloc HB.out (.cells (madeCells (c47 z47 none 0) (n * 12)) 47))
      have hgW : W0.heap.size ≤ wr.heap.size := HB.out.size
      have hW0s : W.heap.size < W0.heap.size := blk_lt hbx.out
      have hwwr : W.heap.size < wr.heap.size := by omega
      clear hlt HN HNN HB HBW
      go_wp2
      obtain ⟨g, hg⟩ : ∃ g, g = wr.heap.size := ⟨_, rfl⟩
      obtain ⟨w1, hw1⟩ : ∃ w, w = wr.alloc (.cells (madeCells (c47 z47 none 0) (n * 12)) 47) := ⟨_, rfl⟩
      rw [← hw1] at HRW HBG ⊢
      rw [← hg] at HRW hgW ⊢
      obtain ⟨ag, hag⟩ : ∃ ag : Addr, ag = ⟨g, 0, none⟩ := ⟨_, rfl⟩
      rw [← hag]
      have HAG := Lib.hid hag
      have HGW := Lib.hid hgW
      clear hw1 hg hag q2 hge hwwr hgW
      go_loopw [7, 8] (fun iv bv wr => ∃ (i : Int) (xs : List S47), iv = .int .i64 i ∧ 0 ≤ i ∧ i ≤ (P.cl.length : Int) ∧ Hid (n = xs.length) ∧ Hid (revL P = revFrom P xs (P.cl.drop i.toNat)) ∧ Hid (RowX wr g xs) ∧ Hid (Below W0.heap.size W0 wr)) (fun i _ _ => P.cl.length - (intOf i).toNat)
      case atStart => exact ⟨0, _, rfl, by omega, by omega, (by simp : n = (List.replicate n z47).length), HST.out, HRW.out, HBG.out⟩
      case round =>
        obtain ⟨i, xs, rfl, hi0, hi1, HNX, HRV, HRX, HB⟩ := hrel
        have HBW := Lib.hid (HB0.out.trans (HB.out.mono HB0.out.size))
        obtain ⟨q0, q1, q2⟩ : wr.cell? ⟨W.heap.size, 0, none⟩ = some (.slice a1 P.pr.length c1) ∧ wr.cell? ⟨W.heap.size, 1, none⟩ = some (.slice a2 P.ob.length c2) ∧ wr.cell? ⟨W.heap.size, 2, none⟩ = some (.slice a3 P.cl.length c3) := ⟨pw_cell_below HB.out ((blk_cell hbx.out 0).trans rfl), pw_cell_below HB.out ((blk_cell hbx.out 1).trans rfl), pw_cell_below HB.out ((blk_cell hbx.out 2).trans rfl)⟩
        by_cases hlt : i < (P.cl.length : Int)
        · obtain ⟨ad, A7, c7, A14, c14, hAd, x0, x1, x2, x3, x4, x5, x6, x7, x8, x9, x10, x11, x12, x13, x14, hl7, hg7, hl14, hg14⟩ := at_T50 h3.out i hi0 hlt
          replace x0 := pw_cell_below HBW.out x0
          replace x1 := pw_cell_below HBW.out x1
          replace x2 := pw_cell_below HBW.out x2
          replace x3 := pw_cell_below HBW.out x3
          replace x4 := pw_cell_below HBW.out x4
          replace x5 := pw_cell_below HBW.out x5
          replace x6 := pw_cell_below HBW.out x6
          replace x7 := pw_cell_below HBW.out x7
          replace x8 := pw_cell_below HBW.out x8
          replace x9 := pw_cell_below HBW.out x9
          replace x10 := pw_cell_below HBW.out x10
          replace x11 := pw_cell_below HBW.out x11
          replace x12 := pw_cell_below HBW.out x12
          replace x13 := pw_cell_below HBW.out x13
          replace x14 := pw_cell_below HBW.out x14
          have HNO := Lib.hid (fun h => rev_none hi0 hlt h HRV.out)
          have HSO := Lib.hid (fun ys h => rev_some (ys := ys) hi0 hlt h HRV.out)
          obtain ⟨x, hx⟩ : ∃ x, x = rd_T50 P.cl i := ⟨_, rfl⟩
          rw [← hx] at x0 x1 x2 x3 x4 x5 x6 x7 x8 x9 x10 x11 x12 x13 x14 hl7 hg7 hl14 hg14 HNO HSO
          subst hAd
          have hwb : W.heap.size < wr.heap.size := by have := HB.out.size; omega
          have HXB := Lib.hid (heap_alloc_new wr (.cells (c50 x A7 c7 A14 c14) 50))
          have hxb := below_alloc (Below.refl wr.heap.size wr) (.cells (c50 x A7 c7 A14 c14) 50)
          have HGX := Lib.hid (show g < wr.heap.size from Blk.lt HRX.out)
          have HB2 := Lib.hid (HB.out.trans (hxb.mono HB.out.size))
          have HRX2 := Lib.hid (HRX.out.below hxb)
          clear hx HRV HRX
          go_upto_region 12 with fail
          obtain ⟨w2, hw2⟩ : ∃ w, w = wr.alloc (.cells (c50 x A7 c7 A14 c14) 50) := ⟨_, rfl⟩
          rw [← hw2] at HXB HB2 HRX2
          unfold c50 at hw2
          rw [← hw2]
          obtain ⟨bx, hbx2⟩ : ∃ b, b = wr.heap.size := ⟨_, rfl⟩
          rw [← hbx2] at HXB ⊢
          have HBX := Lib.hid hbx2
          clear hbx2 hw2 x0 x1 x2 x3 x4 x5 x6 x7 x8 x9 x10 x11 x12 x13 x14 hwb q0 q1 q2 hxb
          have HBW2 := Lib.hid (HB0.out.trans (HB2.out.mono HB0.out.size))
          obtain ⟨q0, q1, q2⟩ : w2.cell? ⟨W.heap.size, 0, none⟩ = some (.slice a1 P.pr.length c1) ∧ w2.cell? ⟨W.heap.size, 1, none⟩ = some (.slice a2 P.ob.length c2) ∧ w2.cell? ⟨W.heap.size, 2, none⟩ = some (.slice (some ad) P.cl.length c3) := ⟨pw_cell_below HB2.out ((blk_cell hbx.out 0).trans rfl), pw_cell_below HB2.out ((blk_cell hbx.out 1).trans rfl), pw_cell_below HB2.out ((blk_cell hbx.out 2).trans rfl)⟩
          obtain ⟨x0, x1, x2, x3, x4, x5, x6, x7, x8, x9, x10, x11, x12, x13, x14⟩ := box50 HXB.out
          by_cases e0 : x.f0 < 0
          · have d0 : decide (x.f0 < 0) = true := decide_eq_true e0
            have HV := Lib.hid (HNO.out (rs_bad (by have hnx := HNX.out; omega)))
            go_wp2
            go_ret2
            exact revsP_bad HV.out HBW2.out
          have d0 : decide (x.f0 < 0) = false := decide_eq_false e0
          by_cases e1 : x.f0 ≥ (P.pr.length : Int)
          · have d1 : decide (x.f0 ≥ (P.pr.length : Int)) = true := decide_eq_true e1
            have HV := Lib.hid (HNO.out (rs_bad (by have hnx := HNX.out; omega)))
            go_wp2
            go_ret2
            exact revsP_bad HV.out HBW2.out
          have d1 : decide (x.f0 ≥ (P.pr.length : Int)) = false := decide_eq_false e1
          by_cases e2 : x.f1 < 0
          · have d2 : decide (x.f1 < 0) = true := decide_eq_true e2
            have HV := Lib.hid (HNO.out (rs_bad (by have hnx := HNX.out; omega)))
            go_wp2
            go_ret2
            exact revsP_bad HV.out HBW2.out
          have d2 : decide (x.f1 < 0) = false := decide_eq_false e2
          by_cases e3 : x.f1 ≥ (P.ob.length : Int)
          · have d3 : decide (x.f1 ≥ (P.ob.length : Int)) = true := decide_eq_true e3
            have HV := Lib.hid (HNO.out (rs_bad (by have hnx := HNX.out; omega)))
            go_wp2
            go_ret2
            exact revsP_bad HV.out HBW2.out
          have d3 : decide (x.f1 ≥ (P.ob.length : Int)) = false := decide_eq_false e3
          by_cases e4 : x.f4 < 0
          · have d4 : decide (x.f4 < 0) = true := decide_eq_true e4
            have HV := Lib.hid (HNO.out (rs_bad (by have hnx := HNX.out; omega)))
            go_wp2
            go_ret2
            exact revsP_bad HV.out HBW2.out
          have d4 : decide (x.f4 < 0) = false := decide_eq_false e4
          by_cases e5 : x.f4 ≥ (n : Int)
          · have d5 : decide (x.f4 ≥ (n : Int)) = true := decide_eq_true e5
            have HV := Lib.hid (HNO.out (rs_bad (by have hnx := HNX.out; omega)))
            go_wp2
            go_ret2
            exact revsP_bad HV.out HBW2.out
          have d5 : decide (x.f4 ≥ (n : Int)) = false := decide_eq_false e5
          by_cases e6 : x.f5 < -1
          · have d6 : decide (x.f5 < -1) = true := decide_eq_true e6
            have HV := Lib.hid (HNO.out (rs_bad (by have hnx := HNX.out; omega)))
            go_wp2
            go_ret2
            exact revsP_bad HV.out HBW2.out
          have d6 : decide (x.f5 < -1) = false := decide_eq_false e6
          by_cases e7 : x.f5 ≥ (n : Int)
          · have d7 : decide (x.f5 ≥ (n : Int)) = true := decide_eq_true e7
            have HV := Lib.hid (HNO.out (rs_bad (by have hnx := HNX.out; omega)))
            go_wp2
            go_ret2
            exact revsP_bad HV.out HBW2.out
          have d7 : decide (x.f5 ≥ (n : Int)) = false := decide_eq_false e7
          obtain ⟨ad2, A8, c8, hA2, y0, _⟩ := at_T47 HRX2.out.C x.f4 (by omega) (by have hnx := HNX.out; omega)
          rw [← HAG.out] at hA2
          cases hA2
          by_cases k0 : (rd_T47 xs x.f4).f0 = 0
          · have hk : ((rd_T47 xs x.f4).f0 != 0) = false := by rw [k0]; rfl
            have hp : putB xs x.f4 = true := by unfold putB; rw [decide_eq_true (show 0 ≤ x.f4 by omega), decide_eq_true (show x.f4 < (xs.length : Int) by have hnx := HNX.out; omega), decide_eq_true k0]; rfl
            have hin : evIn P x = true := by unfold evIn; rw [decide_eq_true (show 0 ≤ x.f0 by omega), decide_eq_true (show x.f0 < (P.pr.length : Int) by omega), decide_eq_true (show 0 ≤ x.f1 by omega), decide_eq_true (show x.f1 < (P.ob.length : Int) by omega)]; rfl
            obtain ⟨pd, hpd, p0⟩ := Kd.at_string h1.out x.f0 (by omega) (by omega)
            obtain ⟨od, hod, o0⟩ := Kd.at_string h2.out x.f1 (by omega) (by omega)
            subst hpd hod
            have hpb : pd.block < W.heap.size := by have := World.block_lt_of_cell? W _ p0; rw [add_block] at this; omega
            have hob : od.block < W.heap.size := by have := World.block_lt_of_cell? W _ o0; rw [add_block] at this; omega
            have HSS := Lib.hid (show EvS P x A7 c7 A14 c14 c1 c2 c3 W.heap.size bx pd od ad w2 from ⟨(HB2.out.block _ (blk_lt hbx.out)).trans hbx.out, HXB.out, pw_cell_below HBW2.out p0, pw_cell_below HBW2.out o0⟩)
            have hgb : W.heap.size < g ∧ g < bx := ⟨by have h1 := HGW.out; have h2 := blk_lt hbx.out; omega, by rw [HBX.out]; exact HGX.out⟩
            have HGB := Lib.hid hgb
            have HPB := Lib.hid hpb
            have HOB := Lib.hid hob
            have HIN := Lib.hid hin
            have HPP := Lib.hid hp
            obtain ⟨kk, hkk⟩ : ∃ k, k = (rd_T47 xs x.f4).f0 := ⟨_, rfl⟩
            rw [← hkk] at y0 hk
            clear k0 hkk p0 o0 hpb hob hgb hin hp
            go_upto_region 16 with fail
            have hag := HAG.out
            subst hag
            clear y0 hk HAG
            have b0 : 0 ≤ x.f0 := by omega
            have b1 : x.f0 < (P.pr.length : Int) := by omega
            have b2 : 0 ≤ x.f1 := by omega
            have b3 : x.f1 < (P.ob.length : Int) := by omega
            have b4 : 0 ≤ x.f4 := by omega
            have b5 : x.f4 < (n : Int) := by omega
            clear q0 q1 q2 x0 x1 x2 x3 x4 x5 x6 x7 x8 x9 x10 x11 x12 x13 x14
            have HDa := Lib.hid (below_drew HBW2.out)
            have HRDa := Lib.hid (show RowX w2.drew g xs from HRX2.out)
            have HSDa := Lib.hid HSS.out.drew
            refine wp_region_last_drew (ds := [22]) (S := EvS P x A7 c7 A14 c14 c1 c2 c3 W.heap.size bx pd od ad) (by kernel_rfl) ?_ (fun hHeld => ?_)
            · exact HSDa.out
            refine runL 0 (v := ?va0) rfl (by kernel_rfl) (fun _ _ _ h => h) (by assumption) (by rfl) ?ya0 ?ra0
            case ya0 => (intro w hSw; go_simp; try with_reducible rfl)
            try simp only [Act.put, List.setIfInBounds_toArray, List.set_cons_zero, List.set_cons_succ]
            refine runL 1 (v := ?va1) rfl (by kernel_rfl) (fun _ _ _ h => h) (by assumption) (by rfl) ?ya1 ?ra1
            case ya1 => (intro w hSw; go_simp; try with_reducible rfl)
            try simp only [Act.put, List.setIfInBounds_toArray, List.set_cons_zero, List.set_cons_succ]
            refine runL 2 (v := ?va2) rfl (by kernel_rfl) (fun _ _ _ h => h) (by assumption) (by rfl) ?ya2 ?ra2
            case ya2 => (intro w hSw; have k8 : w.cell? ⟨bx, 8, none⟩ = some (.int .i64 x.f4) := hSw.c6 8 _ rfl; go_simp; try with_reducible rfl)
            try simp only [Act.put, List.setIfInBounds_toArray, List.set_cons_zero, List.set_cons_succ]
            refine runL 3 (v := ?va3) rfl (by kernel_rfl) (fun _ _ _ h => h) (by assumption) (by rfl) ?ya3 ?ra3
            case ya3 => (intro w hSw; go_simp; try with_reducible rfl)
            try simp only [Act.put, List.setIfInBounds_toArray, List.set_cons_zero, List.set_cons_succ]
            refine runL 4 (v := ?va4) rfl (by kernel_rfl) (fun _ _ _ h => h) (by assumption) (by rfl) ?ya4 ?ra4
            case ya4 => (intro w hSw; have k0 : w.cell? ⟨W.heap.size, 0, none⟩ = some (.slice (some pd) P.pr.length c1) := hSw.b1 0 _ rfl; go_simp; try with_reducible rfl)
            try simp only [Act.put, List.setIfInBounds_toArray, List.set_cons_zero, List.set_cons_succ]
            refine runL 5 (v := ?va5) rfl (by kernel_rfl) (fun _ _ _ h => h) (by assumption) (by rfl) ?ya5 ?ra5
            case ya5 => (intro w hSw; go_simp; try with_reducible rfl)
            try simp only [Act.put, List.setIfInBounds_toArray, List.set_cons_zero, List.set_cons_succ]
            refine runL 6 (v := ?va6) rfl (by kernel_rfl) (fun _ _ _ h => h) (by assumption) (by rfl) ?ya6 ?ra6
            case ya6 => (intro w hSw; have k0 : w.cell? ⟨bx, 0, none⟩ = some (.int .i64 x.f0) := hSw.c6 0 _ rfl; go_simp; try with_reducible rfl)
            try simp only [Act.put, List.setIfInBounds_toArray, List.set_cons_zero, List.set_cons_succ]
            refine runL 7 (v := ?va7) rfl (by kernel_rfl) (fun _ _ _ h => h) (by assumption) (by rfl) ?ya7 ?ra7
            case ya7 => (intro w hSw; go_simp; try with_reducible rfl)
            try simp only [Act.put, List.setIfInBounds_toArray, List.set_cons_zero, List.set_cons_succ]
            refine runL 8 (v := ?va8) rfl (by kernel_rfl) (fun _ _ _ h => h) (by assumption) (by rfl) ?ya8 ?ra8
            case ya8 => (intro w hSw; have k0 := hSw.p; go_simp; try with_reducible rfl)
            try simp only [Act.put, List.setIfInBounds_toArray, List.set_cons_zero, List.set_cons_succ]
            refine runL 9 (v := ?va9) rfl (by kernel_rfl) (fun _ _ _ h => h) (by assumption) (by rfl) ?ya9 ?ra9
            case ya9 => (intro w hSw; go_simp; try with_reducible rfl)
            try simp only [Act.put, List.setIfInBounds_toArray, List.set_cons_zero, List.set_cons_succ]
            refine runL 10 (v := ?va10) rfl (by kernel_rfl) (fun _ _ _ h => h) (by assumption) (by rfl) ?ya10 ?ra10
            case ya10 => (intro w hSw; have k1 : w.cell? ⟨W.heap.size, 1, none⟩ = some (.slice (some od) P.ob.length c2) := hSw.b1 1 _ rfl; go_simp; try with_reducible rfl)
            try simp only [Act.put, List.setIfInBounds_toArray, List.set_cons_zero, List.set_cons_succ]
            refine runL 11 (v := ?va11) rfl (by kernel_rfl) (fun _ _ _ h => h) (by assumption) (by rfl) ?ya11 ?ra11
            case ya11 => (intro w hSw; go_simp; try with_reducible rfl)
            try simp only [Act.put, List.setIfInBounds_toArray, List.set_cons_zero, List.set_cons_succ]
            refine runL 12 (v := ?va12) rfl (by kernel_rfl) (fun _ _ _ h => h) (by assumption) (by rfl) ?ya12 ?ra12
            case ya12 => (intro w hSw; have k1 : w.cell? ⟨bx, 1, none⟩ = some (.int .i64 x.f1) := hSw.c6 1 _ rfl; go_simp; try with_reducible rfl)
            try simp only [Act.put, List.setIfInBounds_toArray, List.set_cons_zero, List.set_cons_succ]
            refine runL 13 (v := ?va13) rfl (by kernel_rfl) (fun _ _ _ h => h) (by assumption) (by rfl) ?ya13 ?ra13
            case ya13 => (intro w hSw; go_simp; try with_reducible rfl)
            try simp only [Act.put, List.setIfInBounds_toArray, List.set_cons_zero, List.set_cons_succ]
            refine runL 14 (v := ?va14) rfl (by kernel_rfl) (fun _ _ _ h => h) (by assumption) (by rfl) ?ya14 ?ra14
            case ya14 => (intro w hSw; have k0 := hSw.o; go_simp; try with_reducible rfl)
            try simp only [Act.put, List.setIfInBounds_toArray, List.set_cons_zero, List.set_cons_succ]
            refine runL 15 (v := ?va15) rfl (by kernel_rfl) (fun _ _ _ h => h) (by assumption) (by rfl) ?ya15 ?ra15
            case ya15 => (intro w hSw; go_simp; try with_reducible rfl)
            try simp only [Act.put, List.setIfInBounds_toArray, List.set_cons_zero, List.set_cons_succ]
            refine runL 16 (v := ?va16) rfl (by kernel_rfl) (fun _ _ _ h => h) (by assumption) (by rfl) ?ya16 ?ra16
            case ya16 => (intro w hSw; have k2 : w.cell? ⟨bx, 2, none⟩ = some (.string x.f2) := hSw.c6 2 _ rfl; go_simp; try with_reducible rfl)
            try simp only [Act.put, List.setIfInBounds_toArray, List.set_cons_zero, List.set_cons_succ]
            refine runL 17 (v := ?va17) rfl (by kernel_rfl) (fun _ _ _ h => h) (by assumption) (by rfl) ?ya17 ?ra17
            case ya17 => (intro w hSw; go_simp; try with_reducible rfl)
            try simp only [Act.put, List.setIfInBounds_toArray, List.set_cons_zero, List.set_cons_succ]
            refine runL 18 (v := ?va18) rfl (by kernel_rfl) (fun _ _ _ h => h) (by assumption) (by rfl) ?ya18 ?ra18
            case ya18 => (intro w hSw; have k3 : w.cell? ⟨bx, 3, none⟩ = some (.int .i64 x.f3.f0) := hSw.c6 3 _ rfl; have k4 : w.cell? ⟨bx, 4, none⟩ = some (.int .i64 x.f3.f1) := hSw.c6 4 _ rfl; have k5 : w.cell? ⟨bx, 5, none⟩ = some (.int .i64 x.f3.f2) := hSw.c6 5 _ rfl; have k6 : w.cell? ⟨bx, 6, none⟩ = some (.string x.f3.f3) := hSw.c6 6 _ rfl; have k7 : w.cell? ⟨bx, 7, none⟩ = some (.slice A7 x.f3.f4.length c7) := hSw.c6 7 _ rfl; go_simp; try with_reducible rfl)
            try simp only [Act.put, List.setIfInBounds_toArray, List.set_cons_zero, List.set_cons_succ]
            refine wpAnyLast_ready (rs := [19]) (by kernel_rfl) (by simp) ?_
            refine AllReadyL.cons rfl (by decide) (fun K hK => ?_) AllReadyL.nil
            go_simp
            go_at_call 54; refine (copy_F W w2.drew g x.f3 A7 c7 hg7 hl7 HDa.out (Nat.le_of_lt HGB.out.1) (Blk.lt HRDa.out)).mono ?_; rintro r w7 ⟨A6a, c6a, rfl, hl6, hF6, hb6⟩; have HSEa := Lib.hid (HSDa.out.below hb6); have HREa := Lib.hid (HRDa.out.below hb6); have HBEa := Lib.hid (HDa.out.trans (hb6.mono HDa.out.size)); have HZEa := Lib.hid ((below_drew HB2.out).trans (hb6.mono HB2.out.size)); have HFa := Lib.hid hF6; have HLa := Lib.hid hl6; unfold v43; clear hb6 hF6 hl6
            go_wp2_with fail
            refine hK.out _ _ ?_ (fun hHeld2 => ?_)
            · exact HSEa.out
            clear hK K hHeld
            rename _ => hHeld
            try simp only [Act.put, List.setIfInBounds_toArray, List.set_cons_zero, List.set_cons_succ]
            refine runL 20 (v := ?va20) rfl (by kernel_rfl) (fun _ _ _ h => h) (by assumption) (by rfl) ?ya20 ?ra20
            case ya20 => (intro w hSw; go_simp; try with_reducible rfl)
            try simp only [Act.put, List.setIfInBounds_toArray, List.set_cons_zero, List.set_cons_succ]
            refine runL 21 (v := ?va21) rfl (by kernel_rfl) (fun _ _ _ h => h) (by assumption) (by rfl) ?ya21 ?ra21
            case ya21 => (intro w hSw; go_simp; try with_reducible rfl)
            try simp only [Act.put, List.setIfInBounds_toArray, List.set_cons_zero, List.set_cons_succ]
            have hPUTa : RowX (setsW g (x.f4.toNat * 12) (c47 (evCall P x) A6a c6a).toList w7) g (xs.set x.f4.toNat (evCall P x)) := HREa.out.put (x := evCall P x) (by have hnx := HNX.out; omega) HLa.out HFa.out
            have hGRa := setsW_grown g (c47 (evCall P x) A6a c6a).toList (x.f4.toNat * 12) w7
            have HRFa := Lib.hid hPUTa
            have HGRa := Lib.hid hGRa
            clear hPUTa hGRa
            obtain ⟨oy, oA, oc, _, hce⟩ := rowX_at (i := x.f4.toNat) HREa.out (by have hnx := HNX.out; omega)
            have s0 : w7.cell? ⟨g, x.f4.toNat * 12, none⟩ = some (.int .i64 oy.f0) := hce 0 _ rfl
            have z0 := rowX_frozen HREa.out (x.f4.toNat * 12)
            have s1 : w7.cell? ⟨g, x.f4.toNat * 12 + 1, none⟩ = some (.string oy.f1) := hce 1 _ rfl
            have z1 := rowX_frozen HREa.out (x.f4.toNat * 12 + 1)
            have s2 : w7.cell? ⟨g, x.f4.toNat * 12 + 2, none⟩ = some (.string oy.f2) := hce 2 _ rfl
            have z2 := rowX_frozen HREa.out (x.f4.toNat * 12 + 2)
            have s3 : w7.cell? ⟨g, x.f4.toNat * 12 + 3, none⟩ = some (.string oy.f3) := hce 3 _ rfl
            have z3 := rowX_frozen HREa.out (x.f4.toNat * 12 + 3)
            have s4 : w7.cell? ⟨g, x.f4.toNat * 12 + 4, none⟩ = some (.int .i64 oy.f4.f0) := hce 4 _ rfl
            have z4 := rowX_frozen HREa.out (x.f4.toNat * 12 + 4)
            have s5 : w7.cell? ⟨g, x.f4.toNat * 12 + 5, none⟩ = some (.int .i64 oy.f4.f1) := hce 5 _ rfl
            have z5 := rowX_frozen HREa.out (x.f4.toNat * 12 + 5)
            have s6 : w7.cell? ⟨g, x.f4.toNat * 12 + 6, none⟩ = some (.int .i64 oy.f4.f2) := hce 6 _ rfl
            have z6 := rowX_frozen HREa.out (x.f4.toNat * 12 + 6)
            have s7 : w7.cell? ⟨g, x.f4.toNat * 12 + 7, none⟩ = some (.string oy.f4.f3) := hce 7 _ rfl
            have z7 := rowX_frozen HREa.out (x.f4.toNat * 12 + 7)
            have s8 : w7.cell? ⟨g, x.f4.toNat * 12 + 8, none⟩ = some (.slice oA oy.f4.f4.length oc) := hce 8 _ rfl
            have z8 := rowX_frozen HREa.out (x.f4.toNat * 12 + 8)
            have s9 : w7.cell? ⟨g, x.f4.toNat * 12 + 9, none⟩ = some (.int .i64 oy.f5.f0) := hce 9 _ rfl
            have z9 := rowX_frozen HREa.out (x.f4.toNat * 12 + 9)
            have s10 : w7.cell? ⟨g, x.f4.toNat * 12 + 10, none⟩ = some (.int .i64 oy.f5.f1) := hce 10 _ rfl
            have z10 := rowX_frozen HREa.out (x.f4.toNat * 12 + 10)
            have s11 : w7.cell? ⟨g, x.f4.toNat * 12 + 11, none⟩ = some (.int .i64 oy.f5.f2) := hce 11 _ rfl
            have z11 := rowX_frozen HREa.out (x.f4.toNat * 12 + 11)
            clear hce
            refine wpAnyLast_ready (rs := [22]) (by kernel_rfl) (by simp) ?_
            refine AllReadyL.cons_last rfl (by decide) (fun K hK => ?_) AllReadyL.nil
            go_simp
            skip
            go_wp2_with fail
            refine hK.out _ _ ?_
            refine wpAnyLast_done (by kernel_rfl) ?_ _
            clear s0 z0 s1 z1 s2 z2 s3 z3 s4 z4 s5 z5 s6 z6 s7 z7 s8 z8 s9 z9 s10 z10 s11 z11
            obtain ⟨w8, hwn⟩ : ∃ w, w = setsW g (x.f4.toNat * 12) (c47 (evCall P x) A6a c6a).toList w7 := ⟨_, rfl⟩
            rw [← hwn] at HRFa HGRa
            have hwn2 : w8 = ((((((((((((w7.setCell ⟨g, x.f4.toNat * 12, none⟩ (.int .i64 1)).setCell ⟨g, x.f4.toNat * 12 + 1, none⟩ (.string (rdB P.pr x.f0))).setCell ⟨g, x.f4.toNat * 12 + 2, none⟩ (.string (rdB P.ob x.f1))).setCell ⟨g, x.f4.toNat * 12 + 3, none⟩ (.string x.f2)).setCell ⟨g, x.f4.toNat * 12 + 4, none⟩ (.int .i64 x.f3.f0)).setCell ⟨g, x.f4.toNat * 12 + 5, none⟩ (.int .i64 x.f3.f1)).setCell ⟨g, x.f4.toNat * 12 + 6, none⟩ (.int .i64 x.f3.f2)).setCell ⟨g, x.f4.toNat * 12 + 7, none⟩ (.string x.f3.f3)).setCell ⟨g, x.f4.toNat * 12 + 8, none⟩ (.slice A6a x.f3.f4.length c6a)).setCell ⟨g, x.f4.toNat * 12 + 9, none⟩ (.int .i64 0)).setCell ⟨g, x.f4.toNat * 12 + 10, none⟩ (.int .i64 0)).setCell ⟨g, x.f4.toNat * 12 + 11, none⟩ (.int .i64 0)) := by rw [hwn]; rfl
            rw [← hwn2]
            clear hwn hwn2 hHeld
            have HSw8 := Lib.hid (HSEa.out.grown HGRa.out HGB.out.1 HGB.out.2 (Nat.lt_trans HPB.out HGB.out.1) (Nat.lt_trans HOB.out HGB.out.1))
            have HBw8 := Lib.hid (HZEa.out.grown HGRa.out HZEa.out.size (fun k hk => by cases hk; exact HGW.out))
            have HVw8 := Lib.hid (HB0.out.trans (HBw8.out.mono HB0.out.size))
            obtain ⟨ysa, hys⟩ : ∃ ys, ys = xs.set x.f4.toNat (evCall P x) := ⟨_, rfl⟩
            rw [← hys] at HRFa
            have HYP := Lib.hid (show putL xs x.f4 (evCall P x) = ysa from by unfold putL; rw [HPP.out, if_pos rfl, hys])
            have HNY := Lib.hid (show n = ysa.length from by rw [hys, List.length_set]; exact HNX.out)
            clear hys HRX2 HBW2 HB2 HSS HXB HDa HRDa HSDa HSEa HREa HBEa HZEa HFa HLa HGRa
            have x9 : w8.cell? ⟨bx, 9, none⟩ = some (.int .i64 x.f5) := HSw8.out.c6 9 _ rfl
            by_cases h5 : x.f5 < 0
            · have d5' : decide (x.f5 < 0) = true := decide_eq_true h5
              have HOK := Lib.hid (HSO.out ysa (by unfold revStep evStep; rw [if_neg (show ¬ x.f5 < -1 by omega), HIN.out, HPP.out, if_pos rfl, if_pos rfl, if_neg (show ¬ 0 ≤ x.f5 by omega), HYP.out]))
              go_wp2
              go_roundw
              case rel => exact ⟨i + 1, ysa, rfl, by omega, by omega, HNY.out, HOK.out, HRFa.out, HBw8.out⟩
              case measure => simp [intOf]; omega
            · have d5' : decide (x.f5 < 0) = false := decide_eq_false h5
              have HLT := Lib.hid (show x.f5.toNat < ysa.length from by have hny := HNY.out; omega)
              obtain ⟨ry, rA, rc, hry, hrc⟩ := rowX_at HRFa.out HLT.out
              have hrd : rd_T47 ysa x.f5 = ry := by unfold rd_T47; rw [List.getD_eq_getElem?_getD, hry]; rfl
              have y0 : w8.cell? ⟨g, x.f5.toNat * 12, none⟩ = some (.int .i64 ry.f0) := hrc 0 _ rfl
              have b6 : 0 ≤ x.f5 := by omega
              have b7 : x.f5 < (n : Int) := by omega
              clear hry hrc
              by_cases k0 : ry.f0 = 0
              · have hk : (ry.f0 != 0) = false := by rw [k0]; rfl
                have HP2 := Lib.hid (show putB ysa x.f5 = true from by unfold putB; rw [decide_eq_true b6, decide_eq_true (show x.f5 < (ysa.length : Int) by have hny := HNY.out; omega), hrd, decide_eq_true k0]; rfl)
                clear hrd
                obtain ⟨kk2, hkk2⟩ : ∃ k, k = ry.f0 := ⟨_, rfl⟩
                rw [← hkk2] at y0 hk
                clear k0 hkk2
                go_upto_region 20 with fail
                clear y0 hk x9
                have HDb := Lib.hid (below_drew HVw8.out)
                have HRDb := Lib.hid (show RowX w8.drew g ysa from HRFa.out)
                have HSDb := Lib.hid HSw8.out.drew
                refine wp_region_last_drew (ds := [14]) (S := EvS P x A7 c7 A14 c14 c1 c2 c3 W.heap.size bx pd od ad) (by kernel_rfl) ?_ (fun hHeld => ?_)
                · exact HSDb.out
                refine runL 0 (v := ?vb0) rfl (by kernel_rfl) (fun _ _ _ h => h) (by assumption) (by rfl) ?yb0 ?rb0
                case yb0 => (intro w hSw; go_simp; try with_reducible rfl)
                try simp only [Act.put, List.setIfInBounds_toArray, List.set_cons_zero, List.set_cons_succ]
                refine runL 1 (v := ?vb1) rfl (by kernel_rfl) (fun _ _ _ h => h) (by assumption) (by rfl) ?yb1 ?rb1
                case yb1 => (intro w hSw; go_simp; try with_reducible rfl)
                try simp only [Act.put, List.setIfInBounds_toArray, List.set_cons_zero, List.set_cons_succ]
                refine runL 2 (v := ?vb2) rfl (by kernel_rfl) (fun _ _ _ h => h) (by assumption) (by rfl) ?yb2 ?rb2
                case yb2 => (intro w hSw; have k9 : w.cell? ⟨bx, 9, none⟩ = some (.int .i64 x.f5) := hSw.c6 9 _ rfl; go_simp; try with_reducible rfl)
                try simp only [Act.put, List.setIfInBounds_toArray, List.set_cons_zero, List.set_cons_succ]
                refine runL 3 (v := ?vb3) rfl (by kernel_rfl) (fun _ _ _ h => h) (by assumption) (by rfl) ?yb3 ?rb3
                case yb3 => (intro w hSw; go_simp; try with_reducible rfl)
                try simp only [Act.put, List.setIfInBounds_toArray, List.set_cons_zero, List.set_cons_succ]
                refine runL 4 (v := ?vb4) rfl (by kernel_rfl) (fun _ _ _ h => h) (by assumption) (by rfl) ?yb4 ?rb4
                case yb4 => (intro w hSw; have k0 : w.cell? ⟨W.heap.size, 0, none⟩ = some (.slice (some pd) P.pr.length c1) := hSw.b1 0 _ rfl; go_simp; try with_reducible rfl)
                try simp only [Act.put, List.setIfInBounds_toArray, List.set_cons_zero, List.set_cons_succ]
                refine runL 5 (v := ?vb5) rfl (by kernel_rfl) (fun _ _ _ h => h) (by assumption) (by rfl) ?yb5 ?rb5
                case yb5 => (intro w hSw; go_simp; try with_reducible rfl)
                try simp only [Act.put, List.setIfInBounds_toArray, List.set_cons_zero, List.set_cons_succ]
                refine runL 6 (v := ?vb6) rfl (by kernel_rfl) (fun _ _ _ h => h) (by assumption) (by rfl) ?yb6 ?rb6
                case yb6 => (intro w hSw; have k0 : w.cell? ⟨bx, 0, none⟩ = some (.int .i64 x.f0) := hSw.c6 0 _ rfl; go_simp; try with_reducible rfl)
                try simp only [Act.put, List.setIfInBounds_toArray, List.set_cons_zero, List.set_cons_succ]
                refine runL 7 (v := ?vb7) rfl (by kernel_rfl) (fun _ _ _ h => h) (by assumption) (by rfl) ?yb7 ?rb7
                case yb7 => (intro w hSw; go_simp; try with_reducible rfl)
                try simp only [Act.put, List.setIfInBounds_toArray, List.set_cons_zero, List.set_cons_succ]
                refine runL 8 (v := ?vb8) rfl (by kernel_rfl) (fun _ _ _ h => h) (by assumption) (by rfl) ?yb8 ?rb8
                case yb8 => (intro w hSw; have k0 := hSw.p; go_simp; try with_reducible rfl)
                try simp only [Act.put, List.setIfInBounds_toArray, List.set_cons_zero, List.set_cons_succ]
                refine runL 9 (v := ?vb9) rfl (by kernel_rfl) (fun _ _ _ h => h) (by assumption) (by rfl) ?yb9 ?rb9
                case yb9 => (intro w hSw; go_simp; try with_reducible rfl)
                try simp only [Act.put, List.setIfInBounds_toArray, List.set_cons_zero, List.set_cons_succ]
                refine runL 10 (v := ?vb10) rfl (by kernel_rfl) (fun _ _ _ h => h) (by assumption) (by rfl) ?yb10 ?rb10
                case yb10 => (intro w hSw; have k10 : w.cell? ⟨bx, 10, none⟩ = some (.int .i64 x.f6.f0) := hSw.c6 10 _ rfl; have k11 : w.cell? ⟨bx, 11, none⟩ = some (.int .i64 x.f6.f1) := hSw.c6 11 _ rfl; have k12 : w.cell? ⟨bx, 12, none⟩ = some (.int .i64 x.f6.f2) := hSw.c6 12 _ rfl; have k13 : w.cell? ⟨bx, 13, none⟩ = some (.string x.f6.f3) := hSw.c6 13 _ rfl; have k14 : w.cell? ⟨bx, 14, none⟩ = some (.slice A14 x.f6.f4.length c14) := hSw.c6 14 _ rfl; go_simp; try with_reducible rfl)
                try simp only [Act.put, List.setIfInBounds_toArray, List.set_cons_zero, List.set_cons_succ]
                refine wpAnyLast_ready (rs := [11]) (by kernel_rfl) (by simp) ?_
                refine AllReadyL.cons rfl (by decide) (fun K hK => ?_) AllReadyL.nil
                go_simp
                go_at_call 54; refine (copy_F W w8.drew g x.f6 A14 c14 hg14 hl14 HDb.out (Nat.le_of_lt HGB.out.1) (Blk.lt HRDb.out)).mono ?_; rintro r w10 ⟨A6b, c6b, rfl, hl6, hF6, hb6⟩; have HSEb := Lib.hid (HSDb.out.below hb6); have HREb := Lib.hid (HRDb.out.below hb6); have HBEb := Lib.hid (HDb.out.trans (hb6.mono HDb.out.size)); have HZEb := Lib.hid ((below_drew HBw8.out).trans (hb6.mono HBw8.out.size)); have HFb := Lib.hid hF6; have HLb := Lib.hid hl6; unfold v43; clear hb6 hF6 hl6
                go_wp2_with fail
                refine hK.out _ _ ?_ (fun hHeld2 => ?_)
                · exact HSEb.out
                clear hK K hHeld
                rename _ => hHeld
                try simp only [Act.put, List.setIfInBounds_toArray, List.set_cons_zero, List.set_cons_succ]
                refine runL 12 (v := ?vb12) rfl (by kernel_rfl) (fun _ _ _ h => h) (by assumption) (by rfl) ?yb12 ?rb12
                case yb12 => (intro w hSw; go_simp; try with_reducible rfl)
                try simp only [Act.put, List.setIfInBounds_toArray, List.set_cons_zero, List.set_cons_succ]
                refine runL 13 (v := ?vb13) rfl (by kernel_rfl) (fun _ _ _ h => h) (by assumption) (by rfl) ?yb13 ?rb13
                case yb13 => (intro w hSw; go_simp; try with_reducible rfl)
                try simp only [Act.put, List.setIfInBounds_toArray, List.set_cons_zero, List.set_cons_succ]
                have hPUTb : RowX (setsW g (x.f5.toNat * 12) (c47 (evRet P x) A6b c6b).toList w10) g (ysa.set x.f5.toNat (evRet P x)) := HREb.out.put (x := evRet P x) (by exact HLT.out) HLb.out HFb.out
                have hGRb := setsW_grown g (c47 (evRet P x) A6b c6b).toList (x.f5.toNat * 12) w10
                have HRFb := Lib.hid hPUTb
                have HGRb := Lib.hid hGRb
                clear hPUTb hGRb
                obtain ⟨oy, oA, oc, _, hce⟩ := rowX_at (i := x.f5.toNat) HREb.out (by exact HLT.out)
                have s0 : w10.cell? ⟨g, x.f5.toNat * 12, none⟩ = some (.int .i64 oy.f0) := hce 0 _ rfl
                have z0 := rowX_frozen HREb.out (x.f5.toNat * 12)
                have s1 : w10.cell? ⟨g, x.f5.toNat * 12 + 1, none⟩ = some (.string oy.f1) := hce 1 _ rfl
                have z1 := rowX_frozen HREb.out (x.f5.toNat * 12 + 1)
                have s2 : w10.cell? ⟨g, x.f5.toNat * 12 + 2, none⟩ = some (.string oy.f2) := hce 2 _ rfl
                have z2 := rowX_frozen HREb.out (x.f5.toNat * 12 + 2)
                have s3 : w10.cell? ⟨g, x.f5.toNat * 12 + 3, none⟩ = some (.string oy.f3) := hce 3 _ rfl
                have z3 := rowX_frozen HREb.out (x.f5.toNat * 12 + 3)
                have s4 : w10.cell? ⟨g, x.f5.toNat * 12 + 4, none⟩ = some (.int .i64 oy.f4.f0) := hce 4 _ rfl
                have z4 := rowX_frozen HREb.out (x.f5.toNat * 12 + 4)
                have s5 : w10.cell? ⟨g, x.f5.toNat * 12 + 5, none⟩ = some (.int .i64 oy.f4.f1) := hce 5 _ rfl
                have z5 := rowX_frozen HREb.out (x.f5.toNat * 12 + 5)
                have s6 : w10.cell? ⟨g, x.f5.toNat * 12 + 6, none⟩ = some (.int .i64 oy.f4.f2) := hce 6 _ rfl
                have z6 := rowX_frozen HREb.out (x.f5.toNat * 12 + 6)
                have s7 : w10.cell? ⟨g, x.f5.toNat * 12 + 7, none⟩ = some (.string oy.f4.f3) := hce 7 _ rfl
                have z7 := rowX_frozen HREb.out (x.f5.toNat * 12 + 7)
                have s8 : w10.cell? ⟨g, x.f5.toNat * 12 + 8, none⟩ = some (.slice oA oy.f4.f4.length oc) := hce 8 _ rfl
                have z8 := rowX_frozen HREb.out (x.f5.toNat * 12 + 8)
                have s9 : w10.cell? ⟨g, x.f5.toNat * 12 + 9, none⟩ = some (.int .i64 oy.f5.f0) := hce 9 _ rfl
                have z9 := rowX_frozen HREb.out (x.f5.toNat * 12 + 9)
                have s10 : w10.cell? ⟨g, x.f5.toNat * 12 + 10, none⟩ = some (.int .i64 oy.f5.f1) := hce 10 _ rfl
                have z10 := rowX_frozen HREb.out (x.f5.toNat * 12 + 10)
                have s11 : w10.cell? ⟨g, x.f5.toNat * 12 + 11, none⟩ = some (.int .i64 oy.f5.f2) := hce 11 _ rfl
                have z11 := rowX_frozen HREb.out (x.f5.toNat * 12 + 11)
                clear hce
                refine wpAnyLast_ready (rs := [14]) (by kernel_rfl) (by simp) ?_
                refine AllReadyL.cons_last rfl (by decide) (fun K hK => ?_) AllReadyL.nil
                go_simp
                skip
                go_wp2_with fail
                refine hK.out _ _ ?_
                refine wpAnyLast_done (by kernel_rfl) ?_ _
                clear s0 z0 s1 z1 s2 z2 s3 z3 s4 z4 s5 z5 s6 z6 s7 z7 s8 z8 s9 z9 s10 z10 s11 z11
                obtain ⟨w11, hwn⟩ : ∃ w, w = setsW g (x.f5.toNat * 12) (c47 (evRet P x) A6b c6b).toList w10 := ⟨_, rfl⟩
                rw [← hwn] at HRFb HGRb
                have hwn2 : w11 = ((((((((((((w10.setCell ⟨g, x.f5.toNat * 12, none⟩ (.int .i64 2)).setCell ⟨g, x.f5.toNat * 12 + 1, none⟩ (.string (rdB P.pr x.f0))).setCell ⟨g, x.f5.toNat * 12 + 2, none⟩ (.string ⟨#[]⟩)).setCell ⟨g, x.f5.toNat * 12 + 3, none⟩ (.string ⟨#[]⟩)).setCell ⟨g, x.f5.toNat * 12 + 4, none⟩ (.int .i64 x.f6.f0)).setCell ⟨g, x.f5.toNat * 12 + 5, none⟩ (.int .i64 x.f6.f1)).setCell ⟨g, x.f5.toNat * 12 + 6, none⟩ (.int .i64 x.f6.f2)).setCell ⟨g, x.f5.toNat * 12 + 7, none⟩ (.string x.f6.f3)).setCell ⟨g, x.f5.toNat * 12 + 8, none⟩ (.slice A6b x.f6.f4.length c6b)).setCell ⟨g, x.f5.toNat * 12 + 9, none⟩ (.int .i64 0)).setCell ⟨g, x.f5.toNat * 12 + 10, none⟩ (.int .i64 0)).setCell ⟨g, x.f5.toNat * 12 + 11, none⟩ (.int .i64 0)) := by rw [hwn]; rfl
                rw [← hwn2]
                clear hwn hwn2 hHeld
                have HSw11 := Lib.hid (HSEb.out.grown HGRb.out HGB.out.1 HGB.out.2 (Nat.lt_trans HPB.out HGB.out.1) (Nat.lt_trans HOB.out HGB.out.1))
                have HBw11 := Lib.hid (HZEb.out.grown HGRb.out HZEb.out.size (fun k hk => by cases hk; exact HGW.out))
                have HVw11 := Lib.hid (HB0.out.trans (HBw11.out.mono HB0.out.size))
                obtain ⟨ysb, hys⟩ : ∃ ys, ys = ysa.set x.f5.toNat (evRet P x) := ⟨_, rfl⟩
                rw [← hys] at HRFb
                have HOK := Lib.hid (HSO.out ysb (by unfold revStep evStep; rw [if_neg (show ¬ x.f5 < -1 by omega), HIN.out, HPP.out, if_pos rfl, if_pos rfl, if_pos b6, HYP.out, HP2.out, if_pos rfl]; unfold putL; rw [HP2.out, if_pos rfl, hys]))
                have HNZ := Lib.hid (show n = ysb.length from by rw [hys, List.length_set]; exact HNY.out)
                clear hys
                go_wp2
                go_roundw
                case rel => exact ⟨i + 1, ysb, rfl, by omega, by omega, HNZ.out, HOK.out, HRFb.out, HBw11.out⟩
                case measure => simp [intOf]; omega
              · have hk : (ry.f0 != 0) = true := by rw [bne_iff_ne]; exact k0
                have HV := Lib.hid (HNO.out (by
                  unfold revStep evStep
                  have hp : putB ysa x.f5 = false := by unfold putB; rw [hrd, decide_eq_false k0]; simp
                  rw [if_neg (show ¬ x.f5 < -1 by omega), HIN.out, HPP.out, if_pos rfl, if_pos rfl, if_pos b6, HYP.out, hp]; rfl))
                clear hrd
                obtain ⟨kk2, hkk2⟩ : ∃ k, k = ry.f0 := ⟨_, rfl⟩
                rw [← hkk2] at y0 hk
                clear k0 hkk2
                go_wp2
                go_ret2
                exact revsP_bad HV.out HVw8.out
          · have hk : ((rd_T47 xs x.f4).f0 != 0) = true := by rw [bne_iff_ne]; exact k0
            have HV := Lib.hid (HNO.out (by
              unfold revStep evStep
              rw [if_neg (show ¬ x.f5 < -1 by omega)]
              have hp : putB xs x.f4 = false := by unfold putB; rw [decide_eq_false k0]; simp
              rw [hp]; simp))
            obtain ⟨kk, hkk⟩ : ∃ k, k = (rd_T47 xs x.f4).f0 := ⟨_, rfl⟩
            rw [← hkk] at y0 hk
            clear k0 hkk
            go_wp2
            go_ret2
            exact revsP_bad HV.out HBW2.out
        · have HRL := Lib.hid (show revL P = some xs from by rw [HRV.out, List.drop_eq_nil_of_le (by omega)]; rfl)
          have hnx := HNX.out
          subst hnx
          have hlen : xs.length ≤ 500000 := hnl
          have hag := HAG.out
          subst hag
          have HMK := Lib.hid (fun W4 (h : Below wr.heap.size wr W4) => RMake_any W4 xs (some ⟨g, 0, none⟩) xs.length (Kd.C_below HRX.out.C h) (Nat.le_refl _) hlen (fun e he => HEV.out xs (rev_ev P.cl HRL.out) e he))
          simp only [rmake_eq] at HMK
          unfold MakeP at HMK
          have HD := Lib.hid (show reventsF P = if (makeF xs).2.2 = 0 then if sameP P (makeF xs).1 then some xs else none else none from by unfold reventsF; rw [HRL.out])
          obtain ⟨mk, hmk⟩ : ∃ mk, mk = makeF xs := ⟨_, rfl⟩
          rw [← hmk] at HMK
          simp only [← hmk] at HD
          obtain ⟨Q, ma, mc⟩ := mk
          have HX1 := Lib.hid ((HB.out.block _ (blk_lt hbx.out)).trans hbx.out)
          clear hmk HEV HRV HNX HRL
          go_wp2_with fail
          refine (HMK.out _ (by first | exact Below.refl _ _ | exact below_drew (Below.refl _ _))).mono ?_
          rintro e w2 ⟨s1, s2, cv, rfl, r1, r2, r3, hw2⟩
          clear q0 q1 q2
          obtain ⟨B1, d1, rfl, l1, rr1⟩ := Kd.R_reads r1
          obtain ⟨B2, d2, rfl, l2, rr2⟩ := Kd.R_reads r2
          obtain ⟨B3, d3, rfl, l3, rr3⟩ := Kd.R_reads r3
          have HB2 := Lib.hid (HBW.out.trans (hw2.mono HBW.out.size))
          have HX2 := Lib.hid ((hw2.block _ (blk_lt HX1.out)).trans HX1.out)
          have HRX2 := Lib.hid (HRX.out.below hw2)
          have HEQ := Lib.hid (fun W4 (h : Below w2.heap.size w2 W4) => rSame_any W4 P Q ⟨a1, c1, a2, c2, a3, c3⟩ ⟨B1, d1, B2, d2, B3, d3⟩ (HP0.out W4 (HB2.out.trans (h.mono HB2.out.size))) (RdP.below ⟨rr1, l1, rr2, l2, rr3, l3⟩ h))
          unfold cP at HEQ
          have q0 : w2.cell? ⟨W.heap.size, 0, none⟩ = some (.slice a1 P.pr.length c1) := (blk_cell HX2.out 0).trans rfl
          have q1 : w2.cell? ⟨W.heap.size, 1, none⟩ = some (.slice a2 P.ob.length c2) := (blk_cell HX2.out 1).trans rfl
          have q2 : w2.cell? ⟨W.heap.size, 2, none⟩ = some (.slice a3 P.cl.length c3) := (blk_cell HX2.out 2).trans rfl
          have hww : W.heap.size < w2.heap.size := blk_lt HX2.out
          obtain ⟨sm, hsm⟩ : ∃ sm, sm = sameP P Q := ⟨_, rfl⟩
          rw [← hsm] at HEQ
          simp only [← hsm] at HD
          have HB3 := Lib.hid (below_alloc HB2.out (.cells #[.slice B1 Q.pr.length d1, .slice B2 Q.ob.length d2, .slice B3 Q.cl.length d3] 30))
          have HA3 := Lib.hid (below_alloc (Below.refl w2.heap.size w2) (.cells #[.slice B1 Q.pr.length d1, .slice B2 Q.ob.length d2, .slice B3 Q.cl.length d3] 30))
          clear hw2 r1 r2 r3 rr1 rr2 rr3 HMK HX1 HBW HRX hsm
          by_cases hc : mc = 0
          · have hc' : (mc != 0) = false := by rw [bne_eq_false_iff_eq]; exact hc
            rw [if_pos hc] at HD
            subst hc
            go_wp2_with fail
            refine (HEQ.out _ HA3.out).mono ?_
            rintro e w3 ⟨rfl, hw3⟩
            have HB4 := Lib.hid (HB3.out.trans (hw3.mono HB3.out.size))
            have HA4 := Lib.hid (HA3.out.trans (hw3.mono HA3.out.size))
            have HRX3 := Lib.hid (HRX2.out.below HA4.out)
            clear hw3 q0 q1 q2 HEQ HB3 HA3 HRX2
            cases sm
            · have HNO := Lib.hid (show reventsF P = none from HD.out)
              go_wp2
              go_ret2
              exact revsP_bad HNO.out HB4.out
            · have HYE := Lib.hid (show reventsF P = some xs from HD.out)
              go_wp2
              go_ret2
              exact revsP_good HYE.out HB4.out HRX3.out.C (Nat.le_refl _)
          · have hc' : (mc != 0) = true := by rw [bne_iff_ne]; exact hc
            rw [if_neg hc] at HD
            go_wp2
            go_ret2
            exact revsP_bad HD.out HB3.out
end Go.Proofs.Ytofinglgnkdflaa
