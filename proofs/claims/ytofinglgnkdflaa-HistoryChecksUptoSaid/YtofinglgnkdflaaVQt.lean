/- HistoryChecks: Check of the reference; the law (function 5). -/
import Derived.Test.YtofinglgnkdflaaVQs
import Derived.Test.YtofinglgnkdflaaVQn
import Derived.Test.YtofinglgnkdflaaVQl
import Derived.Test.YtofinglgnkdflaaVHd
namespace Go.Proofs.Ytofinglgnkdflaa
open Go.RowKit
open Go.Proofs.Ytofinglgnkdflaa.PHistoryChecks Go.Proofs.YtofinglgnkdflaaW.PrintWords Go.Proofs.YtofinglgnkdflaaW.PrintLast Go.Proofs.YtofinglgnkdflaaW.PrintMore
set_option linter.unusedVariables false
set_option linter.unusedSimpArgs false
def evL (P : PastL) : List S47 := (eventsF P).getD []
def evC (P : PastL) : Int := if (eventsF P).isSome then 0 else 2
def EvO (P : PastL) (W : World) (e : Ending) (w' : World) : Prop :=
  Below W.heap.size W w' ∧ ∃ A c, e = .returned (.tuple #[.slice A (evL P).length c, .int .i64 (evC P)]) ∧ Kd.C k47 w' A (evL P).length (evL P) ∧ (evL P).length ≤ c
theorem evsP_out {P : PastL} {W w : World} {e : Ending} (h : EvsP P W e w) : EvO P W e w := by
  unfold EvsP at h
  unfold EvO evL evC
  refine ⟨h.1, ?_⟩
  rcases hx : eventsF P with _ | xs
  · rw [hx] at h
    exact ⟨none, 0, h.2, Kd.C_nil _ _, Nat.le_refl _⟩
  · rw [hx] at h
    obtain ⟨g, _, he, hr⟩ := h.2
    exact ⟨some ⟨g, 0, none⟩, xs.length, he, (Kd.R_reads' hr).2.2, Nat.le_refl _⟩
theorem revsP_out {P : PastL} {W w : World} {e : Ending} (h : REvsP P W e w) : EvO P W e w := by
  unfold REvsP at h
  unfold EvO evL evC
  refine ⟨h.1, ?_⟩
  rcases hx : eventsF P with _ | xs
  · rw [hx] at h
    exact ⟨none, 0, h.2, Kd.C_nil _ _, Nat.le_refl _⟩
  · rw [hx] at h
    obtain ⟨A, c, he, hr, hl⟩ := h.2
    exact ⟨A, c, he, hr, hl⟩
mutual
theorem sameV_self : ∀ a : S43, sameV a a = true
  | ⟨k, i, m, t, l⟩ => by simp [sameV, sameL_self l]
theorem sameL_self : ∀ l : List S43, sameL l l = true
  | [] => rfl
  | x :: l => by simp [sameL, sameV_self x, sameL_self l]
end
theorem sameE_refl (x : S47) : sameE x x = true := by unfold sameE; simp [sameV_self]
theorem sameEL_refl : ∀ l : List S47, sameEL l l = true
  | [] => rfl
  | x :: l => by simp only [sameEL]; rw [sameE_refl, sameEL_refl l]; rfl
set_option maxHeartbeats 4000000 in
theorem rCheck_any (W : World) (P : PastL) (R : Rw3) (hR : RdP W P R) (hl : P.cl.length ≤ 250000) (hE : ∀ xs, eventsL P = some xs → ∀ e ∈ xs, okE2 e) :
    Calls Try.prog 24 #[.agg (cP P R)] W (fun e w' => e = .returned (.int .i64 (evC P)) ∧ Below W.heap.size W w') := by
  have HEV := Lib.hid (fun W1 (h : Below W.heap.size W W1) => (REvents_any W1 P R (hR.below h) hl hE).mono fun _ _ => revsP_out)
  have HB0 := Lib.hid (below_alloc (Below.refl W.heap.size W) (.cells (cP P R) 30))
  unfold EvO at HEV
  obtain ⟨r, hr⟩ : ∃ r : Int, r = evC P := ⟨_, rfl⟩
  obtain ⟨xs, hxs⟩ : ∃ r, r = evL P := ⟨_, rfl⟩
  rw [← hr, ← hxs] at HEV
  rw [← hr]
  unfold cP at HB0 HEV ⊢
  clear hR hE hr hxs
  go_enter Try.func24, Try.ntmps24
  go_wp2_with fail
  refine (HEV.out _ HB0.out).mono ?_
  rintro e w1 ⟨hw1, A, c, rfl, _, _⟩
  have HB1 := Lib.hid (HB0.out.trans (hw1.mono HB0.out.size))
  clear HEV hw1
  go_wp2
  go_ret
  exact ⟨rfl, HB1.out⟩
structure ChS (W : World) (P : PastL) (R : Rw3) (A B : Option Addr) (l : List S47) (w : World) : Prop where
  hb : w.heap[W.heap.size]? = some (.cells #[.slice R.a1 P.pr.length R.c1, .slice R.a2 P.ob.length R.c2, .slice R.a3 P.cl.length R.c3] 30 (0, 0))
  bw : Below W.heap.size W w
  ca : Kd.C k47 w A l.length l
  cb : Kd.C k47 w B l.length l
theorem ChS.below {W w w1 : World} {P : PastL} {R : Rw3} {A B : Option Addr} {l : List S47} (h : ChS W P R A B l w) (hb : Below w.heap.size w w1) : ChS W P R A B l w1 :=
  ⟨(hb.block _ (blk_lt h.hb)).trans h.hb, h.bw.trans (hb.mono h.bw.size), Kd.C_below h.ca hb, Kd.C_below h.cb hb⟩
theorem ChS.cells {W w : World} {P : PastL} {R : Rw3} {A B : Option Addr} {l : List S47} (h : ChS W P R A B l w) : w.cell? ⟨W.heap.size, 0, none⟩ = some (.slice R.a1 P.pr.length R.c1) ∧ w.cell? ⟨W.heap.size, 1, none⟩ = some (.slice R.a2 P.ob.length R.c2) ∧ w.cell? ⟨W.heap.size, 2, none⟩ = some (.slice R.a3 P.cl.length R.c3) :=
  ⟨(blk_cell h.hb 0).trans rfl, (blk_cell h.hb 1).trans rfl, (blk_cell h.hb 2).trans rfl⟩
set_option maxHeartbeats 16000000 in
set_option maxRecDepth 100000 in
theorem checks_law (W : World) (P : PastL) (R : Rw3) (s : ByteArray) (hR : RdP W P R) (hl : P.cl.length ≤ 250000) (hE : ∀ xs, eventsL P = some xs → ∀ e ∈ xs, okE e ∧ nd e.f4 ≤ 1000000) (hE2 : ∀ xs, eventsL P = some xs → ∀ e ∈ xs, okE2 e) :
    Calls Try.prog 5 #[.agg (cP P R), .string s] W (fun e w' => e = .returned (.bool true) ∧ Below W.heap.size W w') := by
  have HEV := Lib.hid (fun W1 (h : Below W.heap.size W W1) => (Events_any W1 P R (hR.below h) (by omega) hE).mono fun _ _ => evsP_out)
  have HRV := Lib.hid (fun W1 (h : Below W.heap.size W W1) => (REvents_any W1 P R (hR.below h) hl hE2).mono fun _ _ => revsP_out)
  have HC1 := Lib.hid (fun W1 (h : Below W.heap.size W W1) => Checkp_any W1 P R (hR.below h) (by omega) hE)
  have HC2 := Lib.hid (fun W1 (h : Below W.heap.size W W1) => rCheck_any W1 P R (hR.below h) hl hE2)
  have HP1 := Lib.hid (fun W1 (h : Below W.heap.size W W1) => Proc_any W1 P R s (hR.below h))
  have HP2 := Lib.hid (fun W1 (h : Below W.heap.size W W1) => rProc_any W1 P R s (hR.below h))
  have HO1 := Lib.hid (fun W1 (h : Below W.heap.size W W1) => Object_any W1 P R s (hR.below h))
  have HO2 := Lib.hid (fun W1 (h : Below W.heap.size W W1) => rObject_any W1 P R s (hR.below h))
  have HB0 := Lib.hid (below_alloc (Below.refl W.heap.size W) (.cells (cP P R) 30))
  have hbx := Lib.hid (heap_alloc_new W (.cells (cP P R) 30))
  unfold EvO at HEV HRV
  obtain ⟨r, hr⟩ : ∃ r : Int, r = evC P := ⟨_, rfl⟩
  obtain ⟨xs, hxs⟩ : ∃ r, r = evL P := ⟨_, rfl⟩
  have hr2 : r = if (eventsF P).isSome then 0 else 2 := hr
  rw [← hr, ← hxs] at HEV HRV
  rw [← hr] at HC2
  simp only [← hr2] at HC1
  obtain ⟨ip, hip⟩ : ∃ r, r = ixFrom s P.pr 0 := ⟨_, rfl⟩
  obtain ⟨io, hio⟩ : ∃ r, r = ixFrom s P.ob 0 := ⟨_, rfl⟩
  rw [← hip] at HP1 HP2
  rw [← hio] at HO1 HO2
  have HRF := Lib.hid (sameEL_refl xs)
  unfold cP at HB0 hbx HEV HRV HC1 HC2 HP1 HP2 HO1 HO2 ⊢
  clear hR hE hE2 hr hr2 hxs hip hio
  go_enter Try.func5, Try.ntmps5
  go_wp2_with fail
  refine (HEV.out _ HB0.out).mono ?_
  rintro e w1 ⟨hw1, A, c, rfl, hCA, hc⟩
  have HB1 := Lib.hid (HB0.out.trans (hw1.mono HB0.out.size))
  have HX1 := Lib.hid ((hw1.block _ (blk_lt hbx.out)).trans hbx.out)
  have HCA := Lib.hid hCA
  have q0 : w1.cell? ⟨W.heap.size, 0, none⟩ = some (.slice R.a1 P.pr.length R.c1) := (blk_cell HX1.out 0).trans rfl
  have q1 : w1.cell? ⟨W.heap.size, 1, none⟩ = some (.slice R.a2 P.ob.length R.c2) := (blk_cell HX1.out 1).trans rfl
  have q2 : w1.cell? ⟨W.heap.size, 2, none⟩ = some (.slice R.a3 P.cl.length R.c3) := (blk_cell HX1.out 2).trans rfl
  clear HEV hw1 hbx HB0 hCA
  go_wp2_with fail
  refine (HRV.out _ HB1.out).mono ?_
  rintro e w2 ⟨hw2, B, d, rfl, hCB, hd⟩
  have HS2 := Lib.hid (show ChS W P R A B xs w2 from ⟨(hw2.block _ (blk_lt HX1.out)).trans HX1.out, HB1.out.trans (hw2.mono HB1.out.size), Kd.C_below HCA.out hw2, hCB⟩)
  have HSD := Lib.hid (HS2.out.below (below_drew (Below.refl w2.heap.size w2)))
  clear HRV hw2 HX1 HB1 HCA hCB q0 q1 q2
  go_upto_region 3 with fail
  refine wp_region_held_drew (S := ChS W P R A B xs) (by kernel_rfl) ?_ (fun hHeld => ?_)
  · exact HSD.out
  refine runH 0 (v := ?v0) rfl (by kernel_rfl) (fun _ _ _ h => h) (by assumption) (by rfl) ?y0 ?r0
  case y0 => (intro w hSw; obtain ⟨q0, q1, q2⟩ := hSw.cells; clear hSw; go_simp; try with_reducible rfl)
  try simp only [Act.put, List.setIfInBounds_toArray, List.set_cons_zero, List.set_cons_succ]
  refine runH 2 (v := ?v2) rfl (by kernel_rfl) (fun _ _ _ h => h) (by assumption) (by rfl) ?y2 ?r2
  case y2 => (intro w hSw; obtain ⟨q0, q1, q2⟩ := hSw.cells; clear hSw; go_simp; try with_reducible rfl)
  try simp only [Act.put, List.setIfInBounds_toArray, List.set_cons_zero, List.set_cons_succ]
  refine wpAnyH_ready (rs := [1]) (by kernel_rfl) (by simp) ?_
  refine AllReadyH.cons rfl (fun K hK => ?_) AllReadyH.nil
  go_simp
  go_at_call 23; refine (HC1.out _ hHeld.bw).mono ?_; rintro e v1 ⟨rfl, hb1⟩; have hN1 := hHeld.below hb1
  go_wp2_with fail
  refine hK.out _ _ ?_ (fun hHeld2 => ?_)
  · exact hN1
  clear hK K hHeld
  rename _ => hHeld
  try simp only [Act.put, List.setIfInBounds_toArray, List.set_cons_zero, List.set_cons_succ]
  refine wpAnyH_ready (rs := [3]) (by kernel_rfl) (by simp) ?_
  refine AllReadyH.cons rfl (fun K hK => ?_) AllReadyH.nil
  go_simp
  go_at_call 24; refine (HC2.out _ hHeld.bw).mono ?_; rintro e v3 ⟨rfl, hb3⟩; have hN3 := hHeld.below hb3
  go_wp2_with fail
  refine hK.out _ _ ?_ (fun hHeld2 => ?_)
  · exact hN3
  clear hK K hHeld
  rename _ => hHeld
  try simp only [Act.put, List.setIfInBounds_toArray, List.set_cons_zero, List.set_cons_succ]
  refine runH 4 (v := ?v4) rfl (by kernel_rfl) (fun _ _ _ h => h) (by assumption) (by rfl) ?y4 ?r4
  case y4 => (intro w hSw; clear hSw; go_simp; try with_reducible rfl)
  try simp only [Act.put, List.setIfInBounds_toArray, List.set_cons_zero, List.set_cons_succ]
  refine runH 5 (v := ?v5) rfl (by kernel_rfl) (fun _ _ _ h => h) (by assumption) (by rfl) ?y5 ?r5
  case y5 => (intro w hSw; clear hSw; go_simp; try with_reducible rfl)
  try simp only [Act.put, List.setIfInBounds_toArray, List.set_cons_zero, List.set_cons_succ]
  refine runH 6 (v := ?v6) rfl (by kernel_rfl) (fun _ _ _ h => h) (by assumption) (by rfl) ?y6 ?r6
  case y6 => (intro w hSw; clear hSw; go_simp; try with_reducible rfl)
  try simp only [Act.put, List.setIfInBounds_toArray, List.set_cons_zero, List.set_cons_succ]
  refine runH 7 (v := ?v7) rfl (by kernel_rfl) (fun _ _ _ h => h) (by assumption) (by rfl) ?y7 ?r7
  case y7 => (intro w hSw; clear hSw; go_simp; try with_reducible rfl)
  try simp only [Act.put, List.setIfInBounds_toArray, List.set_cons_zero, List.set_cons_succ]
  refine runH 8 (v := ?v8) rfl (by kernel_rfl) (fun _ _ _ h => h) (by assumption) (by rfl) ?y8 ?r8
  case y8 => (intro w hSw; clear hSw; go_simp; try with_reducible rfl)
  try simp only [Act.put, List.setIfInBounds_toArray, List.set_cons_zero, List.set_cons_succ]
  refine runH 9 (v := ?v9) rfl (by kernel_rfl) (fun _ _ _ h => h) (by assumption) (by rfl) ?y9 ?r9
  case y9 => (intro w hSw; clear hSw; go_simp; try with_reducible rfl)
  try simp only [Act.put, List.setIfInBounds_toArray, List.set_cons_zero, List.set_cons_succ]
  refine runH 10 (v := ?v10) rfl (by kernel_rfl) (fun _ _ _ h => h) (by assumption) (by rfl) ?y10 ?r10
  case y10 => (intro w hSw; clear hSw; go_simp; try with_reducible rfl)
  try simp only [Act.put, List.setIfInBounds_toArray, List.set_cons_zero, List.set_cons_succ]
  refine runH 11 (v := ?v11) rfl (by kernel_rfl) (fun _ _ _ h => h) (by assumption) (by rfl) ?y11 ?r11
  case y11 => (intro w hSw; clear hSw; go_simp; try with_reducible rfl)
  try simp only [Act.put, List.setIfInBounds_toArray, List.set_cons_zero, List.set_cons_succ]
  refine runH 12 (v := ?v12) rfl (by kernel_rfl) (fun _ _ _ h => h) (by assumption) (by rfl) ?y12 ?r12
  case y12 => (intro w hSw; clear hSw; go_simp; try with_reducible rfl)
  try simp only [Act.put, List.setIfInBounds_toArray, List.set_cons_zero, List.set_cons_succ]
  refine wpAnyH_ready (rs := [13]) (by kernel_rfl) (by simp) ?_
  refine AllReadyH.cons rfl (fun K hK => ?_) AllReadyH.nil
  go_simp
  go_at_call 18; refine (sameEvents_any _ xs xs A B c d hHeld.ca hc hHeld.cb hd).mono ?_; rintro e v13 ⟨rfl, hb13⟩; rw [HRF.out]; have hN13 := hHeld.below hb13
  go_wp2_with fail
  refine hK.out _ _ ?_ (fun hHeld2 => ?_)
  · exact hN13
  clear hK K hHeld
  rename _ => hHeld
  try simp only [Act.put, List.setIfInBounds_toArray, List.set_cons_zero, List.set_cons_succ]
  refine runH 14 (v := ?v14) rfl (by kernel_rfl) (fun _ _ _ h => h) (by assumption) (by rfl) ?y14 ?r14
  case y14 => (intro w hSw; clear hSw; go_simp; try with_reducible rfl)
  try simp only [Act.put, List.setIfInBounds_toArray, List.set_cons_zero, List.set_cons_succ]
  refine runH 15 (v := ?v15) rfl (by kernel_rfl) (fun _ _ _ h => h) (by assumption) (by rfl) ?y15 ?r15
  case y15 => (intro w hSw; clear hSw; go_simp; try with_reducible rfl)
  try simp only [Act.put, List.setIfInBounds_toArray, List.set_cons_zero, List.set_cons_succ]
  refine runH 16 (v := ?v16) rfl (by kernel_rfl) (fun _ _ _ h => h) (by assumption) (by rfl) ?y16 ?r16
  case y16 => (intro w hSw; obtain ⟨q0, q1, q2⟩ := hSw.cells; clear hSw; go_simp; try with_reducible rfl)
  try simp only [Act.put, List.setIfInBounds_toArray, List.set_cons_zero, List.set_cons_succ]
  refine runH 17 (v := ?v17) rfl (by kernel_rfl) (fun _ _ _ h => h) (by assumption) (by rfl) ?y17 ?r17
  case y17 => (intro w hSw; clear hSw; go_simp; try with_reducible rfl)
  try simp only [Act.put, List.setIfInBounds_toArray, List.set_cons_zero, List.set_cons_succ]
  refine runH 19 (v := ?v19) rfl (by kernel_rfl) (fun _ _ _ h => h) (by assumption) (by rfl) ?y19 ?r19
  case y19 => (intro w hSw; obtain ⟨q0, q1, q2⟩ := hSw.cells; clear hSw; go_simp; try with_reducible rfl)
  try simp only [Act.put, List.setIfInBounds_toArray, List.set_cons_zero, List.set_cons_succ]
  refine runH 20 (v := ?v20) rfl (by kernel_rfl) (fun _ _ _ h => h) (by assumption) (by rfl) ?y20 ?r20
  case y20 => (intro w hSw; clear hSw; go_simp; try with_reducible rfl)
  try simp only [Act.put, List.setIfInBounds_toArray, List.set_cons_zero, List.set_cons_succ]
  refine wpAnyH_ready (rs := [18]) (by kernel_rfl) (by simp) ?_
  refine AllReadyH.cons rfl (fun K hK => ?_) AllReadyH.nil
  go_simp
  go_at_call 25; refine (HP1.out _ hHeld.bw).mono ?_; rintro e v18 ⟨rfl, hb18⟩; have hN18 := hHeld.below hb18
  go_wp2_with fail
  refine hK.out _ _ ?_ (fun hHeld2 => ?_)
  · exact hN18
  clear hK K hHeld
  rename _ => hHeld
  try simp only [Act.put, List.setIfInBounds_toArray, List.set_cons_zero, List.set_cons_succ]
  refine wpAnyH_ready (rs := [21]) (by kernel_rfl) (by simp) ?_
  refine AllReadyH.cons rfl (fun K hK => ?_) AllReadyH.nil
  go_simp
  go_at_call 26; refine (HP2.out _ hHeld.bw).mono ?_; rintro e v21 ⟨rfl, hb21⟩; have hN21 := hHeld.below hb21
  go_wp2_with fail
  refine hK.out _ _ ?_ (fun hHeld2 => ?_)
  · exact hN21
  clear hK K hHeld
  rename _ => hHeld
  try simp only [Act.put, List.setIfInBounds_toArray, List.set_cons_zero, List.set_cons_succ]
  refine runH 22 (v := ?v22) rfl (by kernel_rfl) (fun _ _ _ h => h) (by assumption) (by rfl) ?y22 ?r22
  case y22 => (intro w hSw; clear hSw; go_simp; try with_reducible rfl)
  try simp only [Act.put, List.setIfInBounds_toArray, List.set_cons_zero, List.set_cons_succ]
  refine runH 23 (v := ?v23) rfl (by kernel_rfl) (fun _ _ _ h => h) (by assumption) (by rfl) ?y23 ?r23
  case y23 => (intro w hSw; clear hSw; go_simp; try with_reducible rfl)
  try simp only [Act.put, List.setIfInBounds_toArray, List.set_cons_zero, List.set_cons_succ]
  refine runH 24 (v := ?v24) rfl (by kernel_rfl) (fun _ _ _ h => h) (by assumption) (by rfl) ?y24 ?r24
  case y24 => (intro w hSw; clear hSw; go_simp; try with_reducible rfl)
  try simp only [Act.put, List.setIfInBounds_toArray, List.set_cons_zero, List.set_cons_succ]
  refine runH 25 (v := ?v25) rfl (by kernel_rfl) (fun _ _ _ h => h) (by assumption) (by rfl) ?y25 ?r25
  case y25 => (intro w hSw; obtain ⟨q0, q1, q2⟩ := hSw.cells; clear hSw; go_simp; try with_reducible rfl)
  try simp only [Act.put, List.setIfInBounds_toArray, List.set_cons_zero, List.set_cons_succ]
  refine runH 26 (v := ?v26) rfl (by kernel_rfl) (fun _ _ _ h => h) (by assumption) (by rfl) ?y26 ?r26
  case y26 => (intro w hSw; clear hSw; go_simp; try with_reducible rfl)
  try simp only [Act.put, List.setIfInBounds_toArray, List.set_cons_zero, List.set_cons_succ]
  refine runH 28 (v := ?v28) rfl (by kernel_rfl) (fun _ _ _ h => h) (by assumption) (by rfl) ?y28 ?r28
  case y28 => (intro w hSw; obtain ⟨q0, q1, q2⟩ := hSw.cells; clear hSw; go_simp; try with_reducible rfl)
  try simp only [Act.put, List.setIfInBounds_toArray, List.set_cons_zero, List.set_cons_succ]
  refine runH 29 (v := ?v29) rfl (by kernel_rfl) (fun _ _ _ h => h) (by assumption) (by rfl) ?y29 ?r29
  case y29 => (intro w hSw; clear hSw; go_simp; try with_reducible rfl)
  try simp only [Act.put, List.setIfInBounds_toArray, List.set_cons_zero, List.set_cons_succ]
  refine wpAnyH_ready (rs := [27]) (by kernel_rfl) (by simp) ?_
  refine AllReadyH.cons rfl (fun K hK => ?_) AllReadyH.nil
  go_simp
  go_at_call 27; refine (HO1.out _ hHeld.bw).mono ?_; rintro e v27 ⟨rfl, hb27⟩; have hN27 := hHeld.below hb27
  go_wp2_with fail
  refine hK.out _ _ ?_ (fun hHeld2 => ?_)
  · exact hN27
  clear hK K hHeld
  rename _ => hHeld
  try simp only [Act.put, List.setIfInBounds_toArray, List.set_cons_zero, List.set_cons_succ]
  refine wpAnyH_ready (rs := [30]) (by kernel_rfl) (by simp) ?_
  refine AllReadyH.cons rfl (fun K hK => ?_) AllReadyH.nil
  go_simp
  go_at_call 28; refine (HO2.out _ hHeld.bw).mono ?_; rintro e v30 ⟨rfl, hb30⟩; have hN30 := hHeld.below hb30
  go_wp2_with fail
  refine hK.out _ _ ?_ (fun hHeld2 => ?_)
  · exact hN30
  clear hK K hHeld
  rename _ => hHeld
  try simp only [Act.put, List.setIfInBounds_toArray, List.set_cons_zero, List.set_cons_succ]
  refine runH 31 (v := ?v31) rfl (by kernel_rfl) (fun _ _ _ h => h) (by assumption) (by rfl) ?y31 ?r31
  case y31 => (intro w hSw; clear hSw; go_simp; try with_reducible rfl)
  try simp only [Act.put, List.setIfInBounds_toArray, List.set_cons_zero, List.set_cons_succ]
  refine runH 32 (v := ?v32) rfl (by kernel_rfl) (fun _ _ _ h => h) (by assumption) (by rfl) ?y32 ?r32
  case y32 => (intro w hSw; clear hSw; go_simp; try with_reducible rfl)
  try simp only [Act.put, List.setIfInBounds_toArray, List.set_cons_zero, List.set_cons_succ]
  refine runH 33 (v := ?v33) rfl (by kernel_rfl) (fun _ _ _ h => h) (by assumption) (by rfl) ?y33 ?r33
  case y33 => (intro w hSw; clear hSw; go_simp; try with_reducible rfl)
  try simp only [Act.put, List.setIfInBounds_toArray, List.set_cons_zero, List.set_cons_succ]
  refine wpAnyH_ready (rs := [34]) (by kernel_rfl) (by simp) ?_
  refine AllReadyH.cons rfl (fun K hK => ?_) AllReadyH.nil
  go_simp
  go_at_call 19; refine (heads_any _).mono ?_; rintro e v34 ⟨rfl, hb34⟩; have hN34 := hHeld.below hb34
  go_wp2_with fail
  refine hK.out _ _ ?_ (fun hHeld2 => ?_)
  · exact hN34
  clear hK K hHeld
  rename _ => hHeld
  try simp only [Act.put, List.setIfInBounds_toArray, List.set_cons_zero, List.set_cons_succ]
  refine runH 35 (v := ?v35) rfl (by kernel_rfl) (fun _ _ _ h => h) (by assumption) (by rfl) ?y35 ?r35
  case y35 => (intro w hSw; clear hSw; go_simp; try with_reducible rfl)
  try simp only [Act.put, List.setIfInBounds_toArray, List.set_cons_zero, List.set_cons_succ]
  refine runH 36 (v := ?v36) rfl (by kernel_rfl) (fun _ _ _ h => h) (by assumption) (by rfl) ?y36 ?r36
  case y36 => (intro w hSw; clear hSw; go_simp; try with_reducible rfl)
  try simp only [Act.put, List.setIfInBounds_toArray, List.set_cons_zero, List.set_cons_succ]
  refine wpAnyH_done (by kernel_rfl) ?_ _
  go_wp2
  go_ret
  exact ⟨rfl, hHeld.bw⟩
end Go.Proofs.Ytofinglgnkdflaa
