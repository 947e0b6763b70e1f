/- Layer 7: the law of what precedes and what is open. -/
import Derived.Test.YtofinglgnkdflaaJTf
import Derived.Test.YtofinglgnkdflaaJHd
namespace Go.Proofs.Ytofinglgnkdflaa
open Go.RowKit
open Go.Proofs.Ytofinglgnkdflaa.PHistoryChecks Go.Proofs.YtofinglgnkdflaaW.PrintWords Go.Proofs.YtofinglgnkdflaaW.PrintLast Go.Proofs.YtofinglgnkdflaaW.PrintMore
set_option linter.unusedVariables false
set_option linter.unusedSimpArgs false
theorem at_row {w : World} {A : Option Addr} {n : Nat} {xs : List (List Int)} (h : rowK.C w A n xs) (i : Int) (h0 : 0 ≤ i) (h1 : i < n) :
    ∃ ad A1 c1, A = some ad ∧ w.cell? (ad.add i.toNat) = some (.slice A1 (xs.getD i.toNat []).length c1) ∧ (xs.getD i.toNat []).length ≤ c1 ∧ (Kd.int .u64).C w A1 (xs.getD i.toNat []).length (xs.getD i.toNat []) := by
  obtain ⟨ad, c, e, _, hK, hc0⟩ := Kd.C_get h [] i h0 h1
  obtain ⟨A1, c1, rfl, hl, hC⟩ := hK
  have h := hc0 0 _ rfl
  exact ⟨ad, A1, c1, e, by rw [show i.toNat * rowK.sz + 0 = i.toNat from by show i.toNat * 1 + 0 = i.toNat; omega] at h; exact h, hl, hC⟩
def PreO (P : PastL) (W : World) (e : Ending) (w' : World) : Prop :=
  Below W.heap.size W w' ∧ ∃ A c, e = .returned (.tuple #[.slice A ((predsF P).getD []).length c, .int .i64 (evC P)]) ∧ rowK.C w' A ((predsF P).getD []).length ((predsF P).getD [])
theorem preP_out {P : PastL} {W w : World} {e : Ending} {o : Option (List (List Int))} (ho : o = predsF P) (h : PredsP o W e w) : PreO P W e w := by
  subst ho
  obtain ⟨hb, hm⟩ := h
  refine ⟨hb, ?_⟩
  unfold predsF evC at *
  cases hs : (eventsF P).isSome with
  | false => rw [hs] at hm; exact ⟨none, 0, hm, Kd.C_nil _ _⟩
  | true =>
    rw [hs] at hm
    obtain ⟨v, rfl, hR⟩ := hm
    obtain ⟨A, c, rfl, hl, hC⟩ := Kd.R_reads hR
    exact ⟨A, c, rfl, hC⟩
theorem preds_same (P : PastL) : rpredsF P = predsF P := by
  unfold rpredsF predsF
  rcases hx : eventsF P with _ | xs
  · rfl
  · rw [Option.isSome_some, if_pos rfl, if_pos rfl, pred_same (fun a b h1 h2 => bef_late (calls_ok hx) h2 h1)]
def opC (P : PastL) (t : Int) : Int := if (openF P t).isSome then 0 else 2
def OpO (P : PastL) (t : Int) (W : World) (e : Ending) (w' : World) : Prop :=
  Below W.heap.size W w' ∧ ∃ A c, e = .returned (.tuple #[.slice A ((openF P t).getD []).length c, .int .i64 (opC P t)]) ∧ (Kd.int .i64).C w' A ((openF P t).getD []).length ((openF P t).getD [])
theorem openP_out {P : PastL} {t : Int} {W w : World} {e : Ending} (h : OpenP P t W e w) : OpO P t W e w := by
  obtain ⟨hb, hm⟩ := h
  refine ⟨hb, ?_⟩
  unfold opC
  rcases ho : openF P t with _ | js
  · rw [ho] at hm; exact ⟨none, 0, hm, Kd.C_nil _ _⟩
  · rw [ho] at hm
    obtain ⟨v, rfl, hR⟩ := hm
    obtain ⟨A, c, rfl, hl, hC⟩ := Kd.R_reads hR
    exact ⟨A, c, rfl, hC⟩
structure TeS (W : World) (P : PastL) (R : Rw3) (A B : Option Addr) (X : List (List Int)) (w : World) : Prop where
  hb : w.heap[W.heap.size]? = some (.cells #[.slice R.a1 P.pr.length R.c1, .slice R.a2 P.ob.length R.c2, .slice R.a3 P.cl.length R.c3] 30 (0, 0))
  bw : Below W.heap.size W w
  ca : rowK.C w A X.length X
  cb : rowK.C w B X.length X
theorem TeS.below {W w w1 : World} {P : PastL} {R : Rw3} {A B : Option Addr} {X : List (List Int)} (h : TeS W P R A B X w) (hb : Below w.heap.size w w1) : TeS W P R A B X w1 :=
  ⟨(hb.block _ (blk_lt h.hb)).trans h.hb, h.bw.trans (hb.mono h.bw.size), Kd.C_below h.ca hb, Kd.C_below h.cb hb⟩
theorem TeS.cells {W w : World} {P : PastL} {R : Rw3} {A B : Option Addr} {X : List (List Int)} (h : TeS W P R A B X w) : w.cell? ⟨W.heap.size, 0, none⟩ = some (.slice R.a1 P.pr.length R.c1) ∧ w.cell? ⟨W.heap.size, 1, none⟩ = some (.slice R.a2 P.ob.length R.c2) ∧ w.cell? ⟨W.heap.size, 2, none⟩ = some (.slice R.a3 P.cl.length R.c3) :=
  ⟨(blk_cell h.hb 0).trans rfl, (blk_cell h.hb 1).trans rfl, (blk_cell h.hb 2).trans rfl⟩
set_option maxHeartbeats 16000000 in
set_option maxRecDepth 100000 in
theorem tells_law (W : World) (P : PastL) (R : Rw3) (a b t : Int) (hR : RdP W P R) (hl : P.cl.length ≤ 250000) (hE : ∀ xs, eventsL P = some xs → ∀ e ∈ xs, okE e ∧ nd e.f4 ≤ 1000000) (hE2 : ∀ xs, eventsL P = some xs → ∀ e ∈ xs, okE2 e) :
    Calls Try.prog 7 #[.agg (cP P R), .int .i64 a, .int .i64 b, .int .i64 t] W (fun e w' => e = .returned (.bool true) ∧ Below W.heap.size W w') := by
  have HP1 := Lib.hid (fun W1 (h : Below W.heap.size W W1) => (Preds_any W1 P R (hR.below h) (by omega) hE past_len).mono fun _ _ => preP_out rfl)
  have HP2 := Lib.hid (fun W1 (h : Below W.heap.size W W1) => (RPreds_any W1 P R (hR.below h) hl hE2).mono fun _ _ => preP_out (preds_same P))
  have HB1 := Lib.hid (fun W1 (h : Below W.heap.size W W1) => Before_any W1 P R a b (hR.below h))
  have HB2 := Lib.hid (fun W1 (h : Below W.heap.size W W1) => RBefore_any W1 P R a b (hR.below h))
  have HO1 := Lib.hid (fun W1 (h : Below W.heap.size W W1) => (Open_any W1 P R t (hR.below h) (by omega) hE).mono fun _ _ => openP_out)
  have HO2 := Lib.hid (fun W1 (h : Below W.heap.size W W1) => (ROpen_any W1 P R t (hR.below h) hl hE2).mono fun _ _ => openP_out)
  have HW1 := Lib.hid (fun W1 (h : Below W.heap.size W W1) => Widest_any W1 P R (hR.below h) (by omega) hE)
  have HW2 := Lib.hid (fun W1 (h : Below W.heap.size W W1) => RWidest_any W1 P R (hR.below h) hl hE2)
  have HBx := Lib.hid (below_alloc (Below.refl W.heap.size W) (.cells (cP P R) 30))
  have hbx := Lib.hid (heap_alloc_new W (.cells (cP P R) 30))
  unfold PreO at HP1 HP2
  unfold OpO at HO1 HO2
  obtain ⟨r, hr⟩ : ∃ r : Int, r = evC P := ⟨_, rfl⟩
  obtain ⟨X, hX⟩ : ∃ r, r = (predsF P).getD [] := ⟨_, rfl⟩
  obtain ⟨u, hu⟩ : ∃ r : Int, r = opC P t := ⟨_, rfl⟩
  obtain ⟨J, hJ⟩ : ∃ r, r = (openF P t).getD [] := ⟨_, rfl⟩
  obtain ⟨bf, hbf⟩ : ∃ r, r = befB P.cl a b := ⟨_, rfl⟩
  obtain ⟨wv, hwv⟩ : ∃ r, r = widF P := ⟨_, rfl⟩
  rw [← hr, ← hX] at HP1 HP2
  rw [← hu, ← hJ] at HO1 HO2
  rw [← hbf] at HB1 HB2
  rw [← hwv] at HW1 HW2
  obtain ⟨y1, y2⟩ := wv
  unfold cP at HBx hbx HP1 HP2 HO1 HO2 HB1 HB2 HW1 HW2 ⊢
  clear hR hE hE2 hr hX hu hJ hbf hwv
  go_enter Try.func7, Try.ntmps7
  go_wp2_with fail
  refine (HP1.out _ HBx.out).mono ?_
  rintro e w1 ⟨hw1, A, c, rfl, hCA⟩
  have HB1' := Lib.hid (HBx.out.trans (hw1.mono HBx.out.size))
  have HX1 := Lib.hid ((hw1.block _ (blk_lt hbx.out)).trans hbx.out)
  have HCA := Lib.hid hCA
  obtain ⟨q0, q1, q2⟩ := box_cells HX1.out
  clear HP1 hw1 hbx HBx hCA
  go_wp2_with fail
  refine (HP2.out _ HB1'.out).mono ?_
  rintro e w2 ⟨hw2, B, d, rfl, hCB⟩
  have HS2 := Lib.hid (show TeS W P R A B X w2 from ⟨(hw2.block _ (blk_lt HX1.out)).trans HX1.out, HB1'.out.trans (hw2.mono HB1'.out.size), Kd.C_below HCA.out hw2, hCB⟩)
  have HSD := Lib.hid (HS2.out.below (below_drew (Below.refl w2.heap.size w2)))
  clear HP2 hw2 HX1 HB1' HCA hCB q0 q1 q2
  have hbb : (bf != bf) = false := by cases bf <;> rfl
  go_upto_region 3 with fail
  refine wp_region_held_drew (S := TeS W P R A B X) (by kernel_rfl) ?_ (fun hHeld => ?_)
  · exact HSD.out
  refine runH 0 (v := ?v0) rfl (by kernel_rfl) (fun _ _ _ h => h) (by assumption) (by rfl) ?y0 ?r0
  case y0 => (intro w hSw; clear hSw; go_simp; try with_reducible rfl)
  try simp only [Act.put, List.setIfInBounds_toArray, List.set_cons_zero, List.set_cons_succ]
  refine runH 1 (v := ?v1) rfl (by kernel_rfl) (fun _ _ _ h => h) (by assumption) (by rfl) ?y1 ?r1
  case y1 => (intro w hSw; clear hSw; go_simp; try with_reducible rfl)
  try simp only [Act.put, List.setIfInBounds_toArray, List.set_cons_zero, List.set_cons_succ]
  refine runH 2 (v := ?v2) rfl (by kernel_rfl) (fun _ _ _ h => h) (by assumption) (by rfl) ?y2 ?r2
  case y2 => (intro w hSw; clear hSw; go_simp; try with_reducible rfl)
  try simp only [Act.put, List.setIfInBounds_toArray, List.set_cons_zero, List.set_cons_succ]
  refine runH 3 (v := ?v3) rfl (by kernel_rfl) (fun _ _ _ h => h) (by assumption) (by rfl) ?y3 ?r3
  case y3 => (intro w hSw; clear hSw; go_simp; try with_reducible rfl)
  try simp only [Act.put, List.setIfInBounds_toArray, List.set_cons_zero, List.set_cons_succ]
  refine runH 4 (v := ?v4) rfl (by kernel_rfl) (fun _ _ _ h => h) (by assumption) (by rfl) ?y4 ?r4
  case y4 => (intro w hSw; clear hSw; go_simp; try with_reducible rfl)
  try simp only [Act.put, List.setIfInBounds_toArray, List.set_cons_zero, List.set_cons_succ]
  refine runH 5 (v := ?v5) rfl (by kernel_rfl) (fun _ _ _ h => h) (by assumption) (by rfl) ?y5 ?r5
  case y5 => (intro w hSw; clear hSw; go_simp; try with_reducible rfl)
  try simp only [Act.put, List.setIfInBounds_toArray, List.set_cons_zero, List.set_cons_succ]
  refine runH 6 (v := ?v6) rfl (by kernel_rfl) (fun _ _ _ h => h) (by assumption) (by rfl) ?y6 ?r6
  case y6 => (intro w hSw; clear hSw; go_simp; try with_reducible rfl)
  try simp only [Act.put, List.setIfInBounds_toArray, List.set_cons_zero, List.set_cons_succ]
  refine runH 7 (v := ?v7) rfl (by kernel_rfl) (fun _ _ _ h => h) (by assumption) (by rfl) ?y7 ?r7
  case y7 => (intro w hSw; clear hSw; go_simp; try with_reducible rfl)
  try simp only [Act.put, List.setIfInBounds_toArray, List.set_cons_zero, List.set_cons_succ]
  refine runH 8 (v := ?v8) rfl (by kernel_rfl) (fun _ _ _ h => h) (by assumption) (by rfl) ?y8 ?r8
  case y8 => (intro w hSw; clear hSw; go_simp; try with_reducible rfl)
  try simp only [Act.put, List.setIfInBounds_toArray, List.set_cons_zero, List.set_cons_succ]
  refine runH 9 (v := ?v9) rfl (by kernel_rfl) (fun _ _ _ h => h) (by assumption) (by rfl) ?y9 ?r9
  case y9 => (intro w hSw; clear hSw; go_simp; try with_reducible rfl)
  try simp only [Act.put, List.setIfInBounds_toArray, List.set_cons_zero, List.set_cons_succ]
  refine runH 10 (v := ?v10) rfl (by kernel_rfl) (fun _ _ _ h => h) (by assumption) (by rfl) ?y10 ?r10
  case y10 => (intro w hSw; clear hSw; go_simp; try with_reducible rfl)
  try simp only [Act.put, List.setIfInBounds_toArray, List.set_cons_zero, List.set_cons_succ]
  refine runH 11 (v := ?v11) rfl (by kernel_rfl) (fun _ _ _ h => h) (by assumption) (by rfl) ?y11 ?r11
  case y11 => (intro w hSw; obtain ⟨q0, q1, q2⟩ := hSw.cells; clear hSw; go_simp; try with_reducible rfl)
  try simp only [Act.put, List.setIfInBounds_toArray, List.set_cons_zero, List.set_cons_succ]
  refine runH 12 (v := ?v12) rfl (by kernel_rfl) (fun _ _ _ h => h) (by assumption) (by rfl) ?y12 ?r12
  case y12 => (intro w hSw; clear hSw; go_simp; try with_reducible rfl)
  try simp only [Act.put, List.setIfInBounds_toArray, List.set_cons_zero, List.set_cons_succ]
  refine runH 13 (v := ?v13) rfl (by kernel_rfl) (fun _ _ _ h => h) (by assumption) (by rfl) ?y13 ?r13
  case y13 => (intro w hSw; clear hSw; go_simp; try with_reducible rfl)
  try simp only [Act.put, List.setIfInBounds_toArray, List.set_cons_zero, List.set_cons_succ]
  refine runH 15 (v := ?v15) rfl (by kernel_rfl) (fun _ _ _ h => h) (by assumption) (by rfl) ?y15 ?r15
  case y15 => (intro w hSw; obtain ⟨q0, q1, q2⟩ := hSw.cells; clear hSw; go_simp; try with_reducible rfl)
  try simp only [Act.put, List.setIfInBounds_toArray, List.set_cons_zero, List.set_cons_succ]
  refine runH 16 (v := ?v16) rfl (by kernel_rfl) (fun _ _ _ h => h) (by assumption) (by rfl) ?y16 ?r16
  case y16 => (intro w hSw; clear hSw; go_simp; try with_reducible rfl)
  try simp only [Act.put, List.setIfInBounds_toArray, List.set_cons_zero, List.set_cons_succ]
  refine runH 17 (v := ?v17) rfl (by kernel_rfl) (fun _ _ _ h => h) (by assumption) (by rfl) ?y17 ?r17
  case y17 => (intro w hSw; clear hSw; go_simp; try with_reducible rfl)
  try simp only [Act.put, List.setIfInBounds_toArray, List.set_cons_zero, List.set_cons_succ]
  refine wpAnyH_ready (rs := [14]) (by kernel_rfl) (by simp) ?_
  refine AllReadyH.cons rfl (fun K hK => ?_) AllReadyH.nil
  go_simp
  go_at_call 29; refine (HB1.out _ hHeld.bw).mono ?_; rintro e v14 ⟨rfl, hb14⟩; have hN14 := hHeld.below hb14
  go_wp2_with fail
  refine hK.out _ _ ?_ (fun hHeld2 => ?_)
  · exact hN14
  clear hK K hHeld
  rename _ => hHeld
  try simp only [Act.put, List.setIfInBounds_toArray, List.set_cons_zero, List.set_cons_succ]
  refine wpAnyH_ready (rs := [18]) (by kernel_rfl) (by simp) ?_
  refine AllReadyH.cons rfl (fun K hK => ?_) AllReadyH.nil
  go_simp
  go_at_call 32; refine (HB2.out _ hHeld.bw).mono ?_; rintro e v18 ⟨rfl, hb18⟩; have hN18 := hHeld.below hb18
  go_wp2_with fail
  refine hK.out _ _ ?_ (fun hHeld2 => ?_)
  · exact hN18
  clear hK K hHeld
  rename _ => hHeld
  try simp only [Act.put, List.setIfInBounds_toArray, List.set_cons_zero, List.set_cons_succ]
  refine runH 19 (v := ?v19) rfl (by kernel_rfl) (fun _ _ _ h => h) (by assumption) (by rfl) ?y19 ?r19
  case y19 => (intro w hSw; clear hSw; go_simp; try with_reducible rfl)
  try simp only [Act.put, List.setIfInBounds_toArray, List.set_cons_zero, List.set_cons_succ]
  refine runH 20 (v := ?v20) rfl (by kernel_rfl) (fun _ _ _ h => h) (by assumption) (by rfl) ?y20 ?r20
  case y20 => (intro w hSw; clear hSw; go_simp; try with_reducible rfl)
  try simp only [Act.put, List.setIfInBounds_toArray, List.set_cons_zero, List.set_cons_succ]
  refine runH 21 (v := ?v21) rfl (by kernel_rfl) (fun _ _ _ h => h) (by assumption) (by rfl) ?y21 ?r21
  case y21 => (intro w hSw; clear hSw; go_simp; try with_reducible rfl)
  try simp only [Act.put, List.setIfInBounds_toArray, List.set_cons_zero, List.set_cons_succ]
  refine wpAnyH_ready (rs := [22]) (by kernel_rfl) (by simp) ?_
  refine AllReadyH.cons rfl (fun K hK => ?_) AllReadyH.nil
  go_simp
  go_at_call 19; refine (heads_any _).mono ?_; rintro e v22 ⟨rfl, hb22⟩; have hN22 := hHeld.below hb22
  go_wp2_with fail
  refine hK.out _ _ ?_ (fun hHeld2 => ?_)
  · exact hN22
  clear hK K hHeld
  rename _ => hHeld
  try simp only [Act.put, List.setIfInBounds_toArray, List.set_cons_zero, List.set_cons_succ]
  refine runH 23 (v := ?v23) rfl (by kernel_rfl) (fun _ _ _ h => h) (by assumption) (by rfl) ?y23 ?r23
  case y23 => (intro w hSw; clear hSw; go_simp; try with_reducible rfl)
  try simp only [Act.put, List.setIfInBounds_toArray, List.set_cons_zero, List.set_cons_succ]
  refine runH 24 (v := ?v24) rfl (by kernel_rfl) (fun _ _ _ h => h) (by assumption) (by rfl) ?y24 ?r24
  case y24 => (intro w hSw; clear hSw; go_simp; try with_reducible rfl)
  try simp only [Act.put, List.setIfInBounds_toArray, List.set_cons_zero, List.set_cons_succ]
  refine wpAnyH_done (by kernel_rfl) ?_ _
  have HS3 := Lib.hid hHeld
  clear HB1 HB2 HSD HS2 hHeld hbb
  have hxm : (X.length : Int) ≤ 9223372036854775807 := by have h := Kd.C_max HS3.out.ca; omega
  go_wp2
  go_loopw [13] (fun iv wr => ∃ i : Int, iv = .int .i64 i ∧ 0 ≤ i ∧ i ≤ (X.length : Int) ∧ Hid (TeS W P R A B X wr)) (fun iv _ => X.length - (intOf iv).toNat)
  case atStart => exact ⟨0, rfl, by omega, by omega, HS3.out⟩
  case round =>
    obtain ⟨i, rfl, hi0, hi1, HS⟩ := hrel
    by_cases hlt : i < (X.length : Int)
    · obtain ⟨ad, A1, c1, hA, x0, l1, g1⟩ := at_row HS.out.ca i hi0 hlt
      obtain ⟨bd, B1, d1, hB, y0, l2, g2⟩ := at_row HS.out.cb i hi0 hlt
      subst hA hB
      obtain ⟨xs, hxs⟩ : ∃ x, x = X.getD i.toNat [] := ⟨_, rfl⟩
      rw [← hxs] at x0 y0 l1 l2 g1 g2
      have HCW := Lib.hid (words_any xs xs A1 B1 c1 d1 wr.drew g1 g2)
      have hbq : (xs == xs) = true := beq_self_eq_true _
      rw [hbq] at HCW
      clear hxs l1 l2 g1 g2 hbq HO1 HO2 HW1 HW2 HS3
      go_wp2
      go_region_held3 (fun w => w.cell? (ad.add i.toNat) = some (.slice A1 xs.length c1) ∧ w.cell? (bd.add i.toNat) = some (.slice B1 xs.length d1) ∧ Below wr.heap.size wr w)
        (first | exact ⟨x0, y0, below_drew (Below.refl _ _)⟩ | exact ⟨pw_cell_below (below_drew (Below.refl _ _)) x0, pw_cell_below (below_drew (Below.refl _ _)) y0, below_drew (Below.refl _ _)⟩ | exact ⟨pw_cell_below ((below_drew (Below.refl _ _)).trans hb1) x0, pw_cell_below ((below_drew (Below.refl _ _)).trans hb1) y0, (below_drew (Below.refl _ _)).trans hb1⟩)
        ((go_at_call 33; refine HCW.out.mono ?_; rintro e w1 ⟨rfl, hb1⟩))
      have HS4 := Lib.hid (HS.out.below ((below_drew (Below.refl wr.heap.size wr)).trans hb1))
      clear hb1 x0 y0 HS HCW
      go_wp2
      go_roundw
      case rel => exact ⟨i + 1, rfl, by omega, by omega, HS4.out⟩
      case measure => simp [intOf]; omega
    · have hge : (X.length : Int) ≤ i := by omega
      obtain ⟨q0, q1, q2⟩ := HS.out.cells
      clear hlt
      go_wp2_with fail
      refine (HO1.out _ HS.out.bw).mono ?_
      rintro e w4 ⟨hw4, E, k, rfl, hC4⟩
      have HS4 := Lib.hid (HS.out.below hw4)
      have HC4 := Lib.hid hC4
      obtain ⟨q0, q1, q2⟩ := HS4.out.cells
      clear hw4 hC4 HS HO1
      go_wp2_with fail
      refine (HO2.out _ HS4.out.bw).mono ?_
      rintro e w5 ⟨hw5, F, l, rfl, hC5⟩
      have HS5 := Lib.hid (HS4.out.below hw5)
      have HC4' := Lib.hid (Kd.C_below HC4.out hw5)
      have HC5 := Lib.hid hC5
      obtain ⟨q0, q1, q2⟩ := HS5.out.cells
      clear hw5 hC5 HS4 HC4 HO2
      go_wp2_with fail
      refine (HW1.out _ HS5.out.bw).mono ?_
      rintro e w6 ⟨rfl, hw6⟩
      have HS6 := Lib.hid (HS5.out.below hw6)
      have HC46 := Lib.hid (Kd.C_below HC4'.out hw6)
      have HC56 := Lib.hid (Kd.C_below HC5.out hw6)
      obtain ⟨q0, q1, q2⟩ := HS6.out.cells
      clear hw6 HS5 HC4' HC5 HW1
      go_wp2_with fail
      refine (HW2.out _ HS6.out.bw).mono ?_
      rintro e w7 ⟨rfl, hw7⟩
      have HB7 := Lib.hid (HS6.out.bw.trans (hw7.mono HS6.out.bw.size))
      have HC4 := Lib.hid (Kd.C_below HC46.out hw7)
      have HC5 := Lib.hid (Kd.C_below HC56.out hw7)
      have hjm : (J.length : Int) ≤ 9223372036854775807 := by have h := Kd.C_max HC4.out; omega
      clear hw7 HS6 HC46 HC56 HW2 q0 q1 q2
      go_wp2
      go_loopw [22] (fun iv wr => ∃ i : Int, iv = .int .i64 i ∧ 0 ≤ i ∧ i ≤ (J.length : Int) ∧ Hid (Below w7.heap.size w7 wr)) (fun iv _ => J.length - (intOf iv).toNat)
      case atStart => exact ⟨0, rfl, by omega, by omega, Below.refl _ _⟩
      case round =>
        obtain ⟨j, rfl, hj0, hj1, HB⟩ := hrel
        by_cases hlj : j < (J.length : Int)
        · obtain ⟨ad, hA, x0⟩ := Kd.at_int (Kd.C_below HC4.out HB.out) j hj0 hlj
          obtain ⟨bd, hB, y0⟩ := Kd.at_int (Kd.C_below HC5.out HB.out) j hj0 hlj
          subst hA hB
          obtain ⟨x, hx⟩ : ∃ x, x = rd J j := ⟨_, rfl⟩
          rw [← hx] at x0 y0
          have hbq : (x != x) = false := by simp
          clear hx
          go_wp2
          go_quiet (fail)
          go_wp2
          go_roundw
          case rel => exact ⟨j + 1, rfl, by omega, by omega, by first | exact HB.out | exact below_drew HB.out | exact pw_below_drewN HB.out _⟩
          case measure => simp [intOf]; omega
        · have hge2 : (J.length : Int) ≤ j := by omega
          clear hlj
          go_wp2
          go_ret
          exact ⟨rfl, HB7.out.trans (HB.out.mono HB7.out.size)⟩
end Go.Proofs.Ytofinglgnkdflaa
