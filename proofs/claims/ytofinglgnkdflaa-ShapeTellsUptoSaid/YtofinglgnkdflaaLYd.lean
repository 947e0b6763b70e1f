/- Layer 26: the law that the shape is told as the document tells it. -/
import Derived.Test.YtofinglgnkdflaaLYc
import Derived.Test.YtofinglgnkdflaaLXR
namespace Go.Proofs.Ytofinglgnkdflaa
open Go.RowKit
open Go.Proofs.Ytofinglgnkdflaa.PHistoryChecks Go.Proofs.YtofinglgnkdflaaW.PrintWords Go.Proofs.YtofinglgnkdflaaW.PrintLast Go.Proofs.YtofinglgnkdflaaW.PrintMore
set_option linter.unusedVariables false
set_option linter.unusedSimpArgs false
def ofT (P : PastL) : Sh8 := (ofF P).getD ⟨0, 0, 0, 0, 0, 0, 0, 0⟩
def ofC (P : PastL) : Int := if (ofF P).isSome then 0 else 2
def OfO (P : PastL) (W : World) (e : Ending) (w' : World) : Prop := Below W.heap.size W w' ∧ e = .returned (.tuple #[.agg (sh8C (ofT P)), .int .i64 (ofC P)])
theorem ofP_out {P : PastL} {W w : World} {e : Ending} (h : OfP P W e w) : OfO P W e w := by
  obtain ⟨hb, hm⟩ := h
  refine ⟨hb, ?_⟩
  unfold ofT ofC
  rcases ho : ofF P with _ | s
  · rw [ho] at hm; exact hm
  · rw [ho] at hm; exact hm
def rowC (o : Option (List Int)) : Int := if o.isSome then 0 else 2
def RowO (o : Option (List Int)) (W : World) (e : Ending) (w' : World) : Prop :=
  Below W.heap.size W w' ∧ ∃ A c, e = .returned (.tuple #[.slice A (o.getD []).length c, .int .i64 (rowC o)]) ∧ (Kd.int .i64).C w' A (o.getD []).length (o.getD [])
theorem rowP_out {o : Option (List Int)} {W w : World} {e : Ending} (h : RowP o W e w) : RowO o W e w := by
  obtain ⟨hb, hm⟩ := h
  refine ⟨hb, ?_⟩
  unfold rowC
  cases o with
  | none => exact ⟨none, 0, hm, Kd.C_nil _ _⟩
  | some l =>
    obtain ⟨v, rfl, hR⟩ := hm
    obtain ⟨A, c, rfl, hl, hC⟩ := Kd.R_reads hR
    exact ⟨A, c, rfl, hC⟩
theorem widP_out {P : PastL} {W w : World} {e : Ending} (hl : P.cl.length ≤ 500000) (h : WidP P W e w) : RowO (widthsF P) W e w := by
  obtain ⟨hb, hm⟩ := h
  refine ⟨hb, ?_⟩
  unfold rowC
  rcases ho : widthsF P with _ | l
  · rw [ho] at hm; exact ⟨none, 0, hm, Kd.C_nil _ _⟩
  · rw [ho] at hm
    obtain ⟨g, hg, rfl, hI⟩ := hm
    have hll := widths_length ho
    have h2 := cntR_le P.cl
    have hR := hI.R (base := 0) (ok := fun _ => True) (Nat.zero_le _) trivial (by unfold sizeL at hll; simp only [maxLen]; omega)
    exact ⟨_, _, rfl, (Kd.R_reads' hR).2.2⟩
theorem othP_out {P : PastL} {W w : World} {e : Ending} (h : OthP P W e w) : RowO (othersF P) W e w := by
  obtain ⟨hb, hm⟩ := h
  refine ⟨hb, ?_⟩
  unfold rowC
  rcases hm with ⟨ho, rfl⟩ | ⟨l, v, ho, rfl, hR⟩
  · rw [ho]; exact ⟨none, 0, rfl, Kd.C_nil _ _⟩
  · rw [ho]
    obtain ⟨A, c, rfl, hl, hC⟩ := Kd.R_reads hR
    exact ⟨A, c, rfl, hC⟩
theorem cntP_out {P : PastL} {W w : World} {e : Ending} (h : CntP P W e w) : RowO (countsF P) W e w := by
  obtain ⟨hb, hm⟩ := h
  refine ⟨hb, ?_⟩
  unfold rowC
  rcases hm with ⟨ho, rfl⟩ | ⟨l, g, ho, h4, hg, rfl, hA⟩
  · rw [ho]; exact ⟨none, 0, rfl, Kd.C_nil _ _⟩
  · rw [ho]
    exact ⟨some ⟨g, 0, none⟩, 4, by simp [h4], hA.C (by rw [h4]; decide)⟩
theorem others_nonneg {P : PastL} {l : List Int} (h : othersF P = some l) : ∀ x ∈ l, 0 ≤ x := by
  rw [← others_ro] at h
  unfold roF at h
  split at h
  · cases h
    intro x hx
    unfold roL at hx
    obtain ⟨j, _, rfl⟩ := List.mem_map.1 hx
    omega
  · cases h
set_option maxHeartbeats 16000000 in
set_option maxRecDepth 100000 in
theorem shapeTells_law (W : World) (P : PastL) (R : Rw3) (hR : RdP W P R) (hl : P.cl.length ≤ 250000) (hE : ∀ xs, eventsL P = some xs → ∀ e ∈ xs, okE e ∧ nd e.f4 ≤ 1000000) (hE2 : ∀ xs, eventsL P = some xs → ∀ e ∈ xs, okE2 e) :
    Calls Try.prog 8 #[.agg (cP P R)] W (fun e w' => e = .returned (.bool true) ∧ Below W.heap.size W w') := by
  have HF1 := Lib.hid (fun W1 (h : Below W.heap.size W W1) => (Of_any W1 P R (hR.below h) (by omega) hE).mono fun _ _ => ofP_out)
  have HF2 := Lib.hid (fun W1 (h : Below W.heap.size W W1) => (ROf_any W1 P R (hR.below h) hl hE2).mono fun _ _ => ofP_out)
  have HD1 := Lib.hid (fun W1 (h : Below W.heap.size W W1) => (Widths_any W1 P R (hR.below h) (by omega) hE).mono fun _ _ => widP_out (by omega))
  have HD2 := Lib.hid (fun W1 (h : Below W.heap.size W W1) => (RWidths_any' W1 P R (hR.below h) hl hE2).mono fun _ _ => rowP_out)
  have HO1 := Lib.hid (fun W1 (h : Below W.heap.size W W1) => (Others_any W1 P R (hR.below h) (by omega) hE).mono fun _ _ => othP_out)
  have HO2 := Lib.hid (fun W1 (h : Below W.heap.size W W1) => (ROthers_any W1 P R (hR.below h) hl hE2).mono fun _ _ => rowP_out)
  have HN1 := Lib.hid (fun W1 (h : Below W.heap.size W W1) => (Counts_any W1 P R (hR.below h) (by omega) hE (fun l h => others_nonneg h)).mono fun _ _ => cntP_out)
  have HN2 := Lib.hid (fun W1 (h : Below W.heap.size W W1) => (RCounts_any W1 P R (hR.below h) hl hE2 (fun l h => others_nonneg h)).mono fun _ _ => rowP_out)
  have HB0 := Lib.hid (below_alloc (Below.refl W.heap.size W) (.cells (cP P R) 30))
  have hbx := Lib.hid (heap_alloc_new W (.cells (cP P R) 30))
  unfold OfO at HF1 HF2
  unfold RowO at HD1 HD2 HO1 HO2 HN1 HN2
  obtain ⟨T, hT⟩ : ∃ r, r = ofT P := ⟨_, rfl⟩
  obtain ⟨tc, htc⟩ : ∃ r, r = ofC P := ⟨_, rfl⟩
  obtain ⟨D, hD⟩ : ∃ r, r = (widthsF P).getD [] := ⟨_, rfl⟩
  obtain ⟨dc, hdc⟩ : ∃ r, r = rowC (widthsF P) := ⟨_, rfl⟩
  obtain ⟨O, hO⟩ : ∃ r, r = (othersF P).getD [] := ⟨_, rfl⟩
  obtain ⟨oc, hoc⟩ : ∃ r, r = rowC (othersF P) := ⟨_, rfl⟩
  obtain ⟨M, hM⟩ : ∃ r, r = (countsF P).getD [] := ⟨_, rfl⟩
  obtain ⟨mc, hmc⟩ : ∃ r, r = rowC (countsF P) := ⟨_, rfl⟩
  rw [← hT, ← htc] at HF1 HF2
  rw [← hD, ← hdc] at HD1 HD2
  rw [← hO, ← hoc] at HO1 HO2
  rw [← hM, ← hmc] at HN1 HN2
  obtain ⟨x0, x1, x2, x3, x4, x5, x6, x7⟩ := T
  unfold sh8C at HF1 HF2
  unfold cP at HB0 hbx HF1 HF2 HD1 HD2 HO1 HO2 HN1 HN2 ⊢
  clear hR hE hE2 hT htc hD hdc hO hoc hM hmc hl
  go_enter Try.func8, Try.ntmps8
  go_wp2_with fail
  refine (HF1.out _ HB0.out).mono ?_
  rintro e w1 ⟨hw1, rfl⟩
  have HX1 := Lib.hid ((hw1.block _ (blk_lt hbx.out)).trans hbx.out)
  have HB1 := Lib.hid (HB0.out.trans (hw1.mono HB0.out.size))
  have HXP := Lib.hid (blk_alloc HX1.out (.cells #[.int .i64 x0, .int .i64 x1, .int .i64 x2, .int .i64 x3, .int .i64 x4, .int .i64 x5, .int .i64 x6, .int .i64 x7] 79))
  have HXA := Lib.hid (heap_alloc_new w1 (.cells #[.int .i64 x0, .int .i64 x1, .int .i64 x2, .int .i64 x3, .int .i64 x4, .int .i64 x5, .int .i64 x6, .int .i64 x7] 79))
  have HB1a := Lib.hid (below_alloc HB1.out (.cells #[.int .i64 x0, .int .i64 x1, .int .i64 x2, .int .i64 x3, .int .i64 x4, .int .i64 x5, .int .i64 x6, .int .i64 x7] 79))
  have hwb : W.heap.size < w1.heap.size := blk_lt HX1.out
  obtain ⟨q0, q1, q2⟩ := box_cells' HXP.out
  clear hw1 hbx HB0 HF1 HX1 HB1
  go_upto_region 2 with fail
  obtain ⟨w2, hw2⟩ : ∃ w, w = w1.alloc (.cells #[.int .i64 x0, .int .i64 x1, .int .i64 x2, .int .i64 x3, .int .i64 x4, .int .i64 x5, .int .i64 x6, .int .i64 x7] 79) := ⟨_, rfl⟩
  rw [← hw2] at HXP HXA HB1a q0 q1 q2 ⊢
  clear hw2
  go_wp2_with fail
  refine (HF2.out _ HB1a.out).mono ?_
  rintro e w3 ⟨hw3, rfl⟩
  have HX3 := Lib.hid ((hw3.block _ (blk_lt HXP.out)).trans HXP.out)
  have HA3 := Lib.hid ((hw3.block _ (blk_lt HXA.out)).trans HXA.out)
  have HB3 := Lib.hid (HB1a.out.trans (hw3.mono HB1a.out.size))
  have HXP4 := Lib.hid (blk_alloc HX3.out (.cells #[.int .i64 x0, .int .i64 x1, .int .i64 x2, .int .i64 x3, .int .i64 x4, .int .i64 x5, .int .i64 x6, .int .i64 x7] 79))
  have HXA4 := Lib.hid (blk_alloc HA3.out (.cells #[.int .i64 x0, .int .i64 x1, .int .i64 x2, .int .i64 x3, .int .i64 x4, .int .i64 x5, .int .i64 x6, .int .i64 x7] 79))
  have HXB4 := Lib.hid (heap_alloc_new w3 (.cells #[.int .i64 x0, .int .i64 x1, .int .i64 x2, .int .i64 x3, .int .i64 x4, .int .i64 x5, .int .i64 x6, .int .i64 x7] 79))
  have HB4 := Lib.hid (below_alloc HB3.out (.cells #[.int .i64 x0, .int .i64 x1, .int .i64 x2, .int .i64 x3, .int .i64 x4, .int .i64 x5, .int .i64 x6, .int .i64 x7] 79))
  have hwb3 : w1.heap.size < w3.heap.size := blk_lt HA3.out
  clear hw3 HF2 HX3 HA3 HB3 HXP HXA HB1a q0 q1 q2
  obtain ⟨q0, q1, q2⟩ := box_cells' HXP4.out
  go_upto_region 3 with fail
  obtain ⟨w4, hw4⟩ : ∃ w, w = w3.alloc (.cells #[.int .i64 x0, .int .i64 x1, .int .i64 x2, .int .i64 x3, .int .i64 x4, .int .i64 x5, .int .i64 x6, .int .i64 x7] 79) := ⟨_, rfl⟩
  rw [← hw4] at HXP4 HXA4 HXB4 HB4 q0 q1 q2 ⊢
  clear hw4
  have HT4 := Lib.hid (fun w (h : Below w4.heap.size w4 w) => And.intro (HB4.out.trans (h.mono HB4.out.size)) (And.intro ((h.block _ (blk_lt HXP4.out)).trans HXP4.out) (And.intro ((h.block _ (blk_lt HXA4.out)).trans HXA4.out) ((h.block _ (blk_lt HXB4.out)).trans HXB4.out))))
  have HC0 := Lib.hid (Below.refl w4.heap.size w4)
  go_wp2_with fail
  refine (HD1.out _ (HT4.out _ HC0.out).1).mono ?_
  rintro e w5 ⟨hw, A0, c0, rfl, hC⟩
  have HE0 := Lib.hid (HC0.out.trans (hw.mono HC0.out.size))
  have HK0 := Lib.hid hC
  clear hw hC HD1 q0 q1 q2
  obtain ⟨q0, q1, q2⟩ := box_cells' (HT4.out _ HE0.out).2.1
  go_wp2_with fail
  refine (HD2.out _ (HT4.out _ HE0.out).1).mono ?_
  rintro e w6 ⟨hw, A1, c1, rfl, hC⟩
  have HE1 := Lib.hid (HE0.out.trans (hw.mono HE0.out.size))
  have HK0' := Lib.hid (Kd.C_below HK0.out hw)
  clear HK0
  have HK0 := Lib.hid HK0'.out
  clear HK0'
  have HK1 := Lib.hid hC
  clear hw hC HD2 q0 q1 q2
  obtain ⟨q0, q1, q2⟩ := box_cells' (HT4.out _ HE1.out).2.1
  go_wp2_with fail
  refine (HO1.out _ (HT4.out _ HE1.out).1).mono ?_
  rintro e w7 ⟨hw, A2, c2, rfl, hC⟩
  have HE2 := Lib.hid (HE1.out.trans (hw.mono HE1.out.size))
  have HK0' := Lib.hid (Kd.C_below HK0.out hw)
  clear HK0
  have HK0 := Lib.hid HK0'.out
  clear HK0'
  have HK1' := Lib.hid (Kd.C_below HK1.out hw)
  clear HK1
  have HK1 := Lib.hid HK1'.out
  clear HK1'
  have HK2 := Lib.hid hC
  clear hw hC HO1 q0 q1 q2
  obtain ⟨q0, q1, q2⟩ := box_cells' (HT4.out _ HE2.out).2.1
  go_wp2_with fail
  refine (HO2.out _ (HT4.out _ HE2.out).1).mono ?_
  rintro e w8 ⟨hw, A3, c3, rfl, hC⟩
  have HE3 := Lib.hid (HE2.out.trans (hw.mono HE2.out.size))
  have HK0' := Lib.hid (Kd.C_below HK0.out hw)
  clear HK0
  have HK0 := Lib.hid HK0'.out
  clear HK0'
  have HK1' := Lib.hid (Kd.C_below HK1.out hw)
  clear HK1
  have HK1 := Lib.hid HK1'.out
  clear HK1'
  have HK2' := Lib.hid (Kd.C_below HK2.out hw)
  clear HK2
  have HK2 := Lib.hid HK2'.out
  clear HK2'
  have HK3 := Lib.hid hC
  clear hw hC HO2 q0 q1 q2
  obtain ⟨q0, q1, q2⟩ := box_cells' (HT4.out _ HE3.out).2.1
  go_wp2_with fail
  refine (HN1.out _ (HT4.out _ HE3.out).1).mono ?_
  rintro e w9 ⟨hw, A4, c4, rfl, hC⟩
  have HE4 := Lib.hid (HE3.out.trans (hw.mono HE3.out.size))
  have HK0' := Lib.hid (Kd.C_below HK0.out hw)
  clear HK0
  have HK0 := Lib.hid HK0'.out
  clear HK0'
  have HK1' := Lib.hid (Kd.C_below HK1.out hw)
  clear HK1
  have HK1 := Lib.hid HK1'.out
  clear HK1'
  have HK2' := Lib.hid (Kd.C_below HK2.out hw)
  clear HK2
  have HK2 := Lib.hid HK2'.out
  clear HK2'
  have HK3' := Lib.hid (Kd.C_below HK3.out hw)
  clear HK3
  have HK3 := Lib.hid HK3'.out
  clear HK3'
  have HK4 := Lib.hid hC
  clear hw hC HN1 q0 q1 q2
  obtain ⟨q0, q1, q2⟩ := box_cells' (HT4.out _ HE4.out).2.1
  go_wp2_with fail
  refine (HN2.out _ (HT4.out _ HE4.out).1).mono ?_
  rintro e w10 ⟨hw, A5, c5, rfl, hC⟩
  have HE5 := Lib.hid (HE4.out.trans (hw.mono HE4.out.size))
  have HK0' := Lib.hid (Kd.C_below HK0.out hw)
  clear HK0
  have HK0 := Lib.hid HK0'.out
  clear HK0'
  have HK1' := Lib.hid (Kd.C_below HK1.out hw)
  clear HK1
  have HK1 := Lib.hid HK1'.out
  clear HK1'
  have HK2' := Lib.hid (Kd.C_below HK2.out hw)
  clear HK2
  have HK2 := Lib.hid HK2'.out
  clear HK2'
  have HK3' := Lib.hid (Kd.C_below HK3.out hw)
  clear HK3
  have HK3 := Lib.hid HK3'.out
  clear HK3'
  have HK4' := Lib.hid (Kd.C_below HK4.out hw)
  clear HK4
  have HK4 := Lib.hid HK4'.out
  clear HK4'
  have HK5 := Lib.hid hC
  clear hw hC HN2 q0 q1 q2
  obtain ⟨q0, q1, q2⟩ := box_cells' (HT4.out _ HE5.out).2.1
  have hxa := (HT4.out _ HE5.out).2.2.1
  have hxb := (HT4.out _ HE5.out).2.2.2
  have a0 : w10.cell? ⟨w1.heap.size, 0, none⟩ = some (.int .i64 x0) := (blk_cell hxa 0).trans rfl
  have b0 : w10.cell? ⟨w3.heap.size, 0, none⟩ = some (.int .i64 x0) := (blk_cell hxb 0).trans rfl
  have a1 : w10.cell? ⟨w1.heap.size, 1, none⟩ = some (.int .i64 x1) := (blk_cell hxa 1).trans rfl
  have b1 : w10.cell? ⟨w3.heap.size, 1, none⟩ = some (.int .i64 x1) := (blk_cell hxb 1).trans rfl
  have a2 : w10.cell? ⟨w1.heap.size, 2, none⟩ = some (.int .i64 x2) := (blk_cell hxa 2).trans rfl
  have b2 : w10.cell? ⟨w3.heap.size, 2, none⟩ = some (.int .i64 x2) := (blk_cell hxb 2).trans rfl
  have a3 : w10.cell? ⟨w1.heap.size, 3, none⟩ = some (.int .i64 x3) := (blk_cell hxa 3).trans rfl
  have b3 : w10.cell? ⟨w3.heap.size, 3, none⟩ = some (.int .i64 x3) := (blk_cell hxb 3).trans rfl
  have a4 : w10.cell? ⟨w1.heap.size, 4, none⟩ = some (.int .i64 x4) := (blk_cell hxa 4).trans rfl
  have b4 : w10.cell? ⟨w3.heap.size, 4, none⟩ = some (.int .i64 x4) := (blk_cell hxb 4).trans rfl
  have a5 : w10.cell? ⟨w1.heap.size, 5, none⟩ = some (.int .i64 x5) := (blk_cell hxa 5).trans rfl
  have b5 : w10.cell? ⟨w3.heap.size, 5, none⟩ = some (.int .i64 x5) := (blk_cell hxb 5).trans rfl
  have a6 : w10.cell? ⟨w1.heap.size, 6, none⟩ = some (.int .i64 x6) := (blk_cell hxa 6).trans rfl
  have b6 : w10.cell? ⟨w3.heap.size, 6, none⟩ = some (.int .i64 x6) := (blk_cell hxb 6).trans rfl
  have a7 : w10.cell? ⟨w1.heap.size, 7, none⟩ = some (.int .i64 x7) := (blk_cell hxa 7).trans rfl
  have b7 : w10.cell? ⟨w3.heap.size, 7, none⟩ = some (.int .i64 x7) := (blk_cell hxb 7).trans rfl
  have HBW := Lib.hid (HT4.out _ HE5.out).1
  have hbq : ∀ x : Int, (x == x) = true := fun x => beq_self_eq_true x
  have hdd : (D == D) = true := beq_self_eq_true D
  have hoo : (O == O) = true := beq_self_eq_true O
  have hmm : (M == M) = true := beq_self_eq_true M
  have HI1 := Lib.hid (fun w (h : Below w10.heap.size w10 w) => Ints_any D D A0 A1 c0 c1 w (Kd.C_below HK0.out h) (Kd.C_below HK1.out h))
  have HI2 := Lib.hid (fun w (h : Below w10.heap.size w10 w) => Ints_any O O A2 A3 c2 c3 w (Kd.C_below HK2.out h) (Kd.C_below HK3.out h))
  have HI3 := Lib.hid (fun w (h : Below w10.heap.size w10 w) => Ints_any M M A4 A5 c4 c5 w (Kd.C_below HK4.out h) (Kd.C_below HK5.out h))
  rw [hdd] at HI1
  rw [hoo] at HI2
  rw [hmm] at HI3
  clear hdd hoo hmm HK0 HK1 HK2 HK3 HK4 HK5 hxa hxb HT4
  go_wp2_with fail
  refine (num_any w10 tc).mono ?_
  rintro e v0 ⟨rfl, hw⟩
  have HV0 := Lib.hid hw
  clear hw a0 a1 a2 a3 a4 a5 a6 a7 b0 b1 b2 b3 b4 b5 b6 b7 q0 q1 q2
  go_wp2_with fail
  refine (HI1.out v0 HV0.out).mono ?_
  rintro e v1 ⟨rfl, hw⟩
  have HV1 := Lib.hid (HV0.out.trans (hw.mono HV0.out.size))
  clear hw
  go_wp2_with fail
  refine (num_any v1 dc).mono ?_
  rintro e v2 ⟨rfl, hw⟩
  have HV2 := Lib.hid (HV1.out.trans (hw.mono HV1.out.size))
  clear hw
  go_wp2_with fail
  refine (HI2.out v2 HV2.out).mono ?_
  rintro e v3 ⟨rfl, hw⟩
  have HV3 := Lib.hid (HV2.out.trans (hw.mono HV2.out.size))
  clear hw
  go_wp2_with fail
  refine (num_any v3 oc).mono ?_
  rintro e v4 ⟨rfl, hw⟩
  have HV4 := Lib.hid (HV3.out.trans (hw.mono HV3.out.size))
  clear hw
  go_wp2_with fail
  refine (HI3.out v4 HV4.out).mono ?_
  rintro e v5 ⟨rfl, hw⟩
  have HV5 := Lib.hid (HV4.out.trans (hw.mono HV4.out.size))
  clear hw
  go_wp2_with fail
  refine (num_any v5 mc).mono ?_
  rintro e v6 ⟨rfl, hw⟩
  have HV6 := Lib.hid (HV5.out.trans (hw.mono HV5.out.size))
  clear hw
  go_wp2_with fail
  refine (alive_any v6).mono ?_
  rintro e v7 ⟨rfl, hw⟩
  have HV7 := Lib.hid (HV6.out.trans (hw.mono HV6.out.size))
  clear hw
  go_wp2
  go_ret
  exact ⟨rfl, HBW.out.trans (HV7.out.mono HBW.out.size)⟩
end Go.Proofs.Ytofinglgnkdflaa
