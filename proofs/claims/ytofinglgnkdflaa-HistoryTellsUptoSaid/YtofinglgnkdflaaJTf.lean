/- Layer 7: Open and Widest of the reference. -/
import Derived.Test.YtofinglgnkdflaaJTd
import Derived.Test.YtofinglgnkdflaaJTe
namespace Go.Proofs.Ytofinglgnkdflaa
open Go.RowKit
open Go.Proofs.Ytofinglgnkdflaa.PHistoryChecks Go.Proofs.YtofinglgnkdflaaW.PrintWords Go.Proofs.YtofinglgnkdflaaW.PrintLast Go.Proofs.YtofinglgnkdflaaW.PrintMore
set_option linter.unusedVariables false
set_option linter.unusedSimpArgs false
theorem evLen {P : PastL} {xs : List S47} (h : eventsF P = some xs) : xs.length = sizeL P.cl := by
  have h1 := eventsF_L h
  unfold eventsL at h1
  rw [evFrom_length P.cl h1, List.length_replicate]
theorem openF_bad {P : PastL} {t : Int} (h : eventsF P = none ∨ t < 0 ∨ (sizeL P.cl : Int) < t) : openF P t = none := by
  unfold openF
  rcases h with h | h | h
  · rw [h]; rfl
  · rw [if_pos h]; split <;> rfl
  · rw [if_pos h]; by_cases h1 : (eventsF P).isSome = true <;> by_cases h2 : t < 0 <;> simp [h1, h2]
theorem openF_good {P : PastL} {t : Int} {xs : List S47} (h : eventsF P = some xs) (h0 : 0 ≤ t) (h1 : t ≤ (sizeL P.cl : Int)) : openF P t = some (openGo t P.cl 0 []) := by
  unfold openF
  rw [h, Option.isSome_some, if_pos rfl, if_neg (by omega), if_neg (by omega)]
set_option maxHeartbeats 8000000 in
set_option maxRecDepth 100000 in
theorem ROpen_any (W : World) (P : PastL) (R : Rw3) (t : Int) (hR : RdP W P R) (hl : P.cl.length ≤ 250000) (hE : ∀ xs, eventsL P = some xs → ∀ e ∈ xs, okE2 e) :
    Calls Try.prog 35 #[.agg (cP P R), .int .i64 t] W (OpenP P t W) := by
  have HEV := Lib.hid (fun W1 (h : Below W.heap.size W W1) => REvents_any W1 P R (hR.below h) hl hE)
  have h3 := Lib.hid hR.cl
  have hcr := cntR_le P.cl
  have hsl : sizeL P.cl ≤ 1000000 := by unfold sizeL; omega
  obtain ⟨sz, hsz⟩ : ∃ n, n = sizeL P.cl := ⟨_, rfl⟩
  rw [← hsz] at hsl
  have HSE := Lib.hid hsz
  obtain ⟨o, ho⟩ : ∃ o, o = eventsF P := ⟨_, rfl⟩
  have HO := Lib.hid ho.symm
  unfold REvsP at HEV
  rw [← ho] at HEV
  obtain ⟨a1, c1, a2, c2, a3, c3⟩ := R
  have HB0 := Lib.hid (below_alloc (Below.refl W.heap.size W) (.cells (cP P ⟨a1, c1, a2, c2, a3, c3⟩) 30))
  have hbx := Lib.hid (heap_alloc_new W (.cells (cP P ⟨a1, c1, a2, c2, a3, c3⟩) 30))
  unfold cP at HB0 HEV hbx ⊢
  clear hR hE ho hsz hcr
  go_enter Try.func35, Try.ntmps35
  go_wp2_with fail
  refine (HEV.out _ HB0.out).mono ?_
  rintro e w1 ⟨hw1, hm⟩
  have HB1 := Lib.hid (HB0.out.trans (hw1.mono HB0.out.size))
  have HX1 := Lib.hid ((hw1.block _ (blk_lt hbx.out)).trans hbx.out)
  obtain ⟨q0, q1, q2⟩ := box_cells HX1.out
  clear hw1 HEV hbx HB0
  cases o with
  | none =>
    subst hm
    have HNO := Lib.hid (openF_bad (P := P) (t := t) (.inl HO.out))
    go_wp2
    go_ret2
    exact openP_bad HNO.out HB1.out
  | some xs =>
    obtain ⟨A, c, rfl, hC, hc⟩ := hm
    have hxl : xs.length = sz := by rw [HSE.out]; exact evLen HO.out
    have HXL := Lib.hid hxl
    rw [hxl]
    clear hC hxl
    by_cases h0 : t < 0
    · have HNO := Lib.hid (openF_bad (P := P) (t := t) (.inr (.inl h0)))
      have d0 : decide (t < 0) = true := decide_eq_true h0
      go_wp2
      go_ret2
      exact openP_bad HNO.out HB1.out
    have d0 : decide (t < 0) = false := decide_eq_false h0
    have h0' : 0 ≤ t := by omega
    by_cases h1 : t > (sz : Int)
    · have HNO := Lib.hid (openF_bad (P := P) (t := t) (.inr (.inr (by rw [← HSE.out]; exact h1))))
      have d1 : decide (t > (sz : Int)) = true := decide_eq_true h1
      clear h0
      go_wp2
      go_ret2
      exact openP_bad HNO.out HB1.out
    have d1 : decide (t > (sz : Int)) = false := decide_eq_false h1
    have HYE := Lib.hid (show openF P t = some (openGo t (P.cl.drop (0 : Int).toNat) 0 []) from openF_good HO.out h0' (by rw [← HSE.out]; omega))
    have hwb : W.heap.size < w1.heap.size := blk_lt HX1.out
    clear h0 h1
    go_wp2
    go_loopw [9, 8, 10] (fun nv rv bv wr => ∃ (i : Int) (js : List Int) (A : Option Addr) (c : Nat), nv = .int .i64 i ∧ rv = .slice A js.length c ∧ 0 ≤ i ∧ i ≤ (P.cl.length : Int) ∧ js.length ≤ i.toNat ∧ Hid (openF P t = some (openGo t (P.cl.drop i.toNat) i js)) ∧ Hid ((Kd.int .i64).R 3 wr w1.heap.size (fun k => w1.heap.size ≤ k) (.slice A js.length c) js) ∧ Hid (Below w1.heap.size w1 wr)) (fun i _ _ _ => P.cl.length - (intOf i).toNat)
    case atStart => exact ⟨0, [], none, 0, rfl, rfl, by omega, by omega, by simp, HYE.out, Kd.R_nil _ _ _ _ _, Below.refl _ _⟩
    case round =>
      obtain ⟨i, js, A, c, rfl, rfl, hi0, hi1, hjl, HN, HR, HB⟩ := hrel
      have HX := Lib.hid ((HB.out.block _ hwb).trans HX1.out)
      have HBW := Lib.hid (HB1.out.trans (HB.out.mono HB1.out.size))
      obtain ⟨q0, q1, q2⟩ := box_cells HX.out
      clear HYE
      by_cases hlt : i < (P.cl.length : Int)
      · obtain ⟨ad, A7, c7, A14, c14, rfl, x0, x1, x2, x3, x4, x5, x6, x7, x8, x9, x10, x11, x12, x13, x14, _⟩ := at_T50 (Kd.C_below h3.out HBW.out) i hi0 hlt
        have HST := Lib.hid (HN.out.trans (by rw [openGo_step t P.cl i js hi0 hlt]))
        obtain ⟨x, hx⟩ : ∃ x, x = rd_T50 P.cl i := ⟨_, rfl⟩
        rw [← hx] at x0 x1 x2 x3 x4 x5 x6 x7 x8 x9 x10 x11 x12 x13 x14 HST
        have HB3 := Lib.hid (below_alloc HB.out (.cells (c50 x A7 c7 A14 c14) 50))
        have hR3 := Lib.hid (Kd.R_below HR.out (below_alloc (Below.refl wr.heap.size wr) (.cells (c50 x A7 c7 A14 c14) 50)))
        clear hx
        by_cases hop : opB t x = true
        · have HS2 := Lib.hid (HST.out.trans (by rw [hop, if_pos rfl]))
          have ha : x.f4 < t := by unfold opB at hop; simp at hop; exact hop.1
          have hjm : (js.length + 1) * 8 ≤ 140737488355328 := by omega
          by_cases h5 : x.f5 < 0
          · have d5 : decide (x.f5 < 0) = true := decide_eq_true h5
            clear hop HST
            go_wp2_with (at_builtin; (refine Kd.R_append (w0 := w1) (Kd.int .i64) w1.heap.size rfl _ _ 68 3 _ 8 rfl under68 info3' rfl (by decide) (by decide) (.slice A js.length c) js i [.int .i64 i] (fun b => w1.heap.size ≤ b) (fun _ => False) rfl (by rw [alloc_size]; rfl) rfl (fun _ h => h.elim) (fun b hb => Nat.le_trans HB3.out.size hb) hR3.out HB3.out HB3.out.size hjm ?_; intro v1 w3 hR4 hb4 hg4 hat4; obtain ⟨A1, k1, rfl⟩ := Kd.R_slice hR4; have HR4 := Lib.hid hR4; have HB4 := Lib.hid hb4; clear hR4 hb4 hg4 hat4))
            go_roundw
            case rel => exact ⟨i + 1, js ++ [i], A1, k1, rfl, (by simp), by omega, by omega, by rw [List.length_append, List.length_singleton]; omega, HS2.out, HR4.out, HB4.out⟩
            case measure => simp [intOf]; omega
          · have d5 : decide (x.f5 < 0) = false := decide_eq_false h5
            have h6 : x.f5 ≥ t := by unfold opB at hop; simp at hop; omega
            have d6 : decide (x.f5 ≥ t) = true := decide_eq_true h6
            clear hop HST h5
            go_wp2_with (at_builtin; (refine Kd.R_append (w0 := w1) (Kd.int .i64) w1.heap.size rfl _ _ 68 3 _ 8 rfl under68 info3' rfl (by decide) (by decide) (.slice A js.length c) js i [.int .i64 i] (fun b => w1.heap.size ≤ b) (fun _ => False) rfl (by rw [alloc_size]; rfl) rfl (fun _ h => h.elim) (fun b hb => Nat.le_trans HB3.out.size hb) hR3.out HB3.out HB3.out.size hjm ?_; intro v1 w3 hR4 hb4 hg4 hat4; obtain ⟨A1, k1, rfl⟩ := Kd.R_slice hR4; have HR4 := Lib.hid hR4; have HB4 := Lib.hid hb4; clear hR4 hb4 hg4 hat4))
            go_roundw
            case rel => exact ⟨i + 1, js ++ [i], A1, k1, rfl, (by simp), by omega, by omega, by rw [List.length_append, List.length_singleton]; omega, HS2.out, HR4.out, HB4.out⟩
            case measure => simp [intOf]; omega
        · have HS2 := Lib.hid (HST.out.trans (by rw [if_neg hop]))
          by_cases ha : x.f4 < t
          · have h5 : 0 ≤ x.f5 ∧ x.f5 < t := by unfold opB at hop; simp at hop; have := hop ha; omega
            have d5 : decide (x.f5 < 0) = false := decide_eq_false (by omega)
            have d6 : decide (x.f5 ≥ t) = false := decide_eq_false (by omega)
            clear hop HST h5
            go_wp2
            go_roundw
            case rel => exact ⟨i + 1, js, A, c, rfl, rfl, by omega, by omega, by omega, HS2.out, hR3.out, HB3.out⟩
            case measure => simp [intOf]; omega
          · have d4 : decide (x.f4 < t) = false := decide_eq_false ha
            clear hop HST ha
            go_wp2
            go_roundw
            case rel => exact ⟨i + 1, js, A, c, rfl, rfl, by omega, by omega, by omega, HS2.out, hR3.out, HB3.out⟩
            case measure => simp [intOf]; omega
      · have HE := Lib.hid (HN.out.trans (by rw [openGo_end t P.cl i js hlt]))
        have hge : (P.cl.length : Int) ≤ i := by omega
        clear hlt
        go_wp2
        go_ret2
        exact ⟨HBW.out, by rw [HE.out]; exact ⟨_, rfl, Kd.R_mono (Kd.R_lower HR.out HB1.out.size) (fun _ _ => trivial)⟩⟩
theorem mxQ_step (l : List Int) (i : Int) (h0 : 0 ≤ i) : mxQ l (i + 1).toNat = max (mxQ l i.toNat) (psum l i.toNat) := by
  rw [show (i + 1).toNat = i.toNat + 1 by omega]; rfl
theorem mxQ_bound {P : PastL} {xs : List S47} (h : eventsF P = some xs) : ∀ t : Nat, 0 ≤ mxQ (chF P) t ∧ mxQ (chF P) t ≤ t
  | 0 => by simp [mxQ]
  | t + 1 => by
    have h1 := mxQ_bound h t
    have h2 := open_psum h t
    have h3 : psum (chF P) t ≤ t := by
      have : ∀ t : Nat, psum (chF P) t ≤ t := by
        intro t
        induction t with
        | zero => exact Int.le_refl _
        | succ t ih =>
          have h4 : rd (chF P) (t : Int) ≤ 1 := by
            by_cases hj : t < sizeL P.cl
            · rcases widths_unit h t hj with h5 | h5 <;> omega
            · unfold YtofinglgnkdflaaW.PrintWords.rd
              rw [List.getD_eq_getElem?_getD, List.getElem?_eq_none (by unfold chF; rw [chgL_length, List.length_replicate]; omega)]
              decide
          show psum (chF P) t + rd (chF P) (t : Int) ≤ _
          omega
      exact this t
    simp only [mxQ]
    omega
set_option maxHeartbeats 8000000 in
set_option maxRecDepth 100000 in
theorem RWidest_any (W : World) (P : PastL) (R : Rw3) (hR : RdP W P R) (hl : P.cl.length ≤ 250000) (hE : ∀ xs, eventsL P = some xs → ∀ e ∈ xs, okE2 e) :
    Calls Try.prog 37 #[.agg (cP P R)] W (fun e w' => e = .returned (.tuple #[.int .i64 (widF P).1, .int .i64 (widF P).2]) ∧ Below W.heap.size W w') := by
  have HEV := Lib.hid (fun W1 (h : Below W.heap.size W W1) => REvents_any W1 P R (hR.below h) hl hE)
  have HOP := Lib.hid (fun W1 (h : Below W.heap.size W W1) t => ROpen_any W1 P R t (hR.below h) hl hE)
  have hcr := cntR_le P.cl
  have hsl : sizeL P.cl ≤ 1000000 := by unfold sizeL; omega
  obtain ⟨sz, hsz⟩ : ∃ n, n = sizeL P.cl := ⟨_, rfl⟩
  rw [← hsz] at hsl
  have HSE := Lib.hid hsz
  obtain ⟨wv, hwv⟩ : ∃ r, r = widF P := ⟨_, rfl⟩
  rw [← hwv]
  have HQ := Lib.hid hwv
  obtain ⟨o, ho⟩ : ∃ o, o = eventsF P := ⟨_, rfl⟩
  have HO := Lib.hid ho.symm
  unfold REvsP at HEV
  rw [← ho] at HEV
  unfold OpenP at HOP
  obtain ⟨v1, v2⟩ := wv
  obtain ⟨a1, c1, a2, c2, a3, c3⟩ := R
  have HB0 := Lib.hid (below_alloc (Below.refl W.heap.size W) (.cells (cP P ⟨a1, c1, a2, c2, a3, c3⟩) 30))
  have hbx := Lib.hid (heap_alloc_new W (.cells (cP P ⟨a1, c1, a2, c2, a3, c3⟩) 30))
  unfold cP at HB0 HEV HOP hbx ⊢
  clear hR hE ho hsz hcr hwv
  go_enter Try.func37, Try.ntmps37
  go_wp2_with fail
  refine (HEV.out _ HB0.out).mono ?_
  rintro e w1 ⟨hw1, hm⟩
  have HB1 := Lib.hid (HB0.out.trans (hw1.mono HB0.out.size))
  have HX1 := Lib.hid ((hw1.block _ (blk_lt hbx.out)).trans hbx.out)
  obtain ⟨q0, q1, q2⟩ := box_cells HX1.out
  clear hw1 HEV hbx HB0
  cases o with
  | none =>
    subst hm
    have HR := Lib.hid (show (v1, v2) = ((0 : Int), (2 : Int)) from by rw [HQ.out]; unfold widF; rw [HO.out])
    go_wp2
    go_ret2
    have h1 := HR.out
    cases h1
    exact ⟨rfl, HB1.out⟩
  | some xs =>
    obtain ⟨A, c, rfl, hC, hc⟩ := hm
    have hxl : xs.length = sz := by rw [HSE.out]; exact evLen HO.out
    have HR := Lib.hid (show (v1, v2) = (mxQ (chF P) (sz + 1), (0 : Int)) from by rw [HQ.out]; unfold widF; rw [HO.out, ← hxl]; simp only; rw [wid_mx HO.out])
    have HMB := Lib.hid (fun t => mxQ_bound HO.out t)
    have HPS := Lib.hid (fun t => open_psum HO.out t)
    have HOG := Lib.hid (fun (t : Int) (h0 : 0 ≤ t) (h1 : t ≤ (sz : Int)) => openF_good HO.out h0 (by rw [← HSE.out]; exact h1))
    have hwb : W.heap.size < w1.heap.size := blk_lt HX1.out
    have HC1 := Lib.hid hc
    rw [hxl]
    clear hC hxl hc
    go_wp2
    go_loopw [7, 6, 8, 9] (fun iv mv ov ev wr => ∃ i : Int, iv = .int .i64 i ∧ mv = .int .i64 (mxQ (chF P) i.toNat) ∧ 0 ≤ i ∧ i ≤ (sz : Int) + 1 ∧ Hid (Below w1.heap.size w1 wr)) (fun i _ _ _ _ => sz + 1 - (intOf i).toNat)
    case atStart => exact ⟨0, rfl, rfl, by omega, by omega, Below.refl _ _⟩
    case round =>
      obtain ⟨i, rfl, rfl, hi0, hi1, HB⟩ := hrel
      have HX := Lib.hid ((HB.out.block _ hwb).trans HX1.out)
      have HBW := Lib.hid (HB1.out.trans (HB.out.mono HB1.out.size))
      obtain ⟨q0, q1, q2⟩ := box_cells HX.out
      have HMS := Lib.hid (mxQ_step (chF P) i hi0)
      obtain ⟨mm, hmm⟩ : ∃ m, m = mxQ (chF P) i.toNat := ⟨_, rfl⟩
      rw [← hmm] at HMS ⊢
      have hm1 := HMB.out i.toNat
      rw [← hmm] at hm1
      obtain ⟨hm1, hm2⟩ := hm1
      have HMM := Lib.hid hmm
      clear hmm
      by_cases hle : i ≤ (sz : Int)
      · have HCA := Lib.hid (HOP.out wr HBW.out i)
        rw [HOG.out i hi0 hle] at HCA
        go_wp2_with fail
        refine HCA.out.mono ?_
        rintro e w2 ⟨hw2, v, rfl, hv⟩
        obtain ⟨A2, k2, rfl, l2, _⟩ := Kd.R_reads hv
        have HB2 := Lib.hid (HB.out.trans (hw2.mono HB.out.size))
        have hps := HPS.out i.toNat
        rw [Int.toNat_of_nonneg hi0] at hps
        rw [← hps] at HMS
        obtain ⟨jl, hjl⟩ : ∃ n, n = (openGo i P.cl 0 []).length := ⟨_, rfl⟩
        rw [← hjl] at HMS ⊢
        clear hw2 hv l2 hps hjl HCA q0 q1 q2
        go_wp2
        go_roundw
        case rel => exact ⟨i + 1, rfl, by rw [HMS.out], by omega, by omega, HB2.out⟩
        case measure => simp [intOf]; omega
      · obtain rfl : i = (sz : Int) + 1 := by omega
        have d0 : decide ((sz : Int) + 1 ≤ (sz : Int)) = false := decide_eq_false hle
        clear hle
        go_wp2
        go_ret2
        have h1 := HR.out
        cases h1
        have e := HMM.out
        rw [show ((sz : Int) + 1).toNat = sz + 1 by omega] at e
        exact ⟨by rw [← e]; rfl, HBW.out⟩
end Go.Proofs.Ytofinglgnkdflaa
