/- The references of layers 4 and 7: Right, right: the walks. -/
import Derived.Test.YtofinglgnkdflaaLQi
namespace Go.Proofs.Ytofinglgnkdflaa
open Go.RowKit
open Go.Proofs.Ytofinglgnkdflaa.PHistoryChecks Go.Proofs.YtofinglgnkdflaaW.PrintWords Go.Proofs.YtofinglgnkdflaaW.PrintLast Go.Proofs.YtofinglgnkdflaaW.PrintMore
set_option linter.unusedVariables false
set_option linter.unusedSimpArgs false
theorem ctd_small {v : S43} {r : Int} (h : CtdP v 1 0 r) : decide (r ≤ 4096) = smallB v := by
  obtain ⟨h1, h2, h3, h4⟩ := h
  unfold smallB
  rw [Bool.eq_iff_iff, Bool.and_eq_true, decide_eq_true_eq, decide_eq_true_eq, decide_eq_true_eq]
  rcases Decidable.em ((0 : Int) + nd v ≤ 4096 ∧ (1 : Int) + dp v ≤ 17) with h5 | h5
  · have := h3 h5; omega
  · have := h4 h5; omega
set_option maxHeartbeats 4000000 in
set_option maxRecDepth 100000 in
theorem rRight_any (W : World) (v : S43) (A : Option Addr) (c : Nat) (hT : okT2 v) (hC : Kd.C k43 W A v.f4.length v.f4) (hc : v.f4.length ≤ c) :
    Calls Try.prog 53 #[v43 v A c] W (fun e w' => e = .returned (.bool (rightV v)) ∧ Below W.heap.size W w') := by
  have H1 := Lib.hid (fun W1 (h : Below W.heap.size W W1) => rcounted_any (nd v) v A c 0 1 W1 (Nat.le_refl _) (by omega) (by omega) (by omega) (by omega) (Kd.C_below hC h))
  have H2 := Lib.hid (fun W1 (h : Below W.heap.size W W1) => rform_any (nd v) v A c W1 (Nat.le_refl _) hT (Kd.C_below hC h) hc)
  have HX := Lib.hid (heap_alloc_new W (.cells #[.int .i64 v.f0, .int .i64 v.f1, .int .i64 v.f2, .string v.f3, .slice A v.f4.length c] 43))
  have HB := Lib.hid (below_alloc (Below.refl W.heap.size W) (.cells #[.int .i64 v.f0, .int .i64 v.f1, .int .i64 v.f2, .string v.f3, .slice A v.f4.length c] 43))
  have HD := Lib.hid (show rightV v = (smallB v && formV v) from rfl)
  have HCT := Lib.hid (fun r (h : CtdP v 1 0 r) => ctd_small h)
  obtain ⟨q, hq⟩ : ∃ q, q = rightV v := ⟨_, rfl⟩
  obtain ⟨b1, hb1⟩ : ∃ b, smallB v = b := ⟨_, rfl⟩
  obtain ⟨b2, hb2⟩ : ∃ b, formV v = b := ⟨_, rfl⟩
  unfold RFormP at H2
  rw [hb1] at HD HCT
  rw [hb2] at H2 HD
  rw [← hq] at HD ⊢
  unfold v43 at H1 H2 ⊢
  clear hb1 hb2 hC hT hq
  go_enter Try.func53, Try.ntmps53
  go_wp2_with fail
  refine (H1.out _ HB.out).mono ?_
  rintro e w1 ⟨r, rfl, hP, hw1⟩
  have hr := HCT.out r hP
  have HB1 := Lib.hid (HB.out.trans (hw1.mono HB.out.size))
  obtain ⟨x0, x1, x2, x3, x4⟩ := box43 ((hw1.block _ (blk_lt HX.out)).trans HX.out)
  clear hw1 HX HB H1 hP
  cases b1
  · have HV := Lib.hid (show q = false from HD.out)
    clear HD
    go_wp2
    go_ret
    exact ⟨by rw [HV.out]; rfl, HB1.out⟩
  · have HV := Lib.hid (show q = b2 from HD.out)
    clear HD
    go_wp2_with fail
    refine (H2.out _ HB1.out).mono ?_
    rintro e w2 ⟨rfl, hw2⟩
    have HB2 := Lib.hid (HB1.out.trans (hw2.mono HB1.out.size))
    clear hw2
    go_wp2
    go_ret
    exact ⟨by rw [HV.out]; rfl, HB2.out⟩
theorem box47 {w : World} {g : Nat} {e : S47} {A : Option Addr} {c : Nat} (h : w.heap[g]? = some (.cells #[.int .i64 e.f0, .string e.f1, .string e.f2, .string e.f3, .int .i64 e.f4.f0, .int .i64 e.f4.f1, .int .i64 e.f4.f2, .string e.f4.f3, .slice A e.f4.f4.length c, .int .i64 e.f5.f0, .int .i64 e.f5.f1, .int .i64 e.f5.f2] 47 (0, 0))) :
    w.cell? ⟨g, 0, none⟩ = some (.int .i64 e.f0) ∧ w.cell? ⟨g, 1, none⟩ = some (.string e.f1) ∧ w.cell? ⟨g, 2, none⟩ = some (.string e.f2) ∧ w.cell? ⟨g, 3, none⟩ = some (.string e.f3) ∧ w.cell? ⟨g, 4, none⟩ = some (.int .i64 e.f4.f0) ∧ w.cell? ⟨g, 5, none⟩ = some (.int .i64 e.f4.f1) ∧ w.cell? ⟨g, 6, none⟩ = some (.int .i64 e.f4.f2) ∧ w.cell? ⟨g, 7, none⟩ = some (.string e.f4.f3) ∧ w.cell? ⟨g, 8, none⟩ = some (.slice A e.f4.f4.length c) :=
  ⟨(blk_cell h 0).trans rfl, (blk_cell h 1).trans rfl, (blk_cell h 2).trans rfl, (blk_cell h 3).trans rfl, (blk_cell h 4).trans rfl, (blk_cell h 5).trans rfl, (blk_cell h 6).trans rfl, (blk_cell h 7).trans rfl, (blk_cell h 8).trans rfl⟩
def okE2 (e : S47) : Prop := e.f1.size ≤ 1000000000 ∧ e.f2.size ≤ 1000000000 ∧ e.f3.size ≤ 1000000000 ∧ okT2 e.f4
set_option maxHeartbeats 4000000 in
set_option maxRecDepth 100000 in
theorem rright_any (W : World) (e : S47) (A : Option Addr) (c : Nat) (hE : okE2 e) (hC : Kd.C k43 W A e.f4.f4.length e.f4.f4) (hc : e.f4.f4.length ≤ c) :
    Calls Try.prog 58 #[.agg (c47 e A c)] W (fun r w' => r = .returned (.bool (rightE e)) ∧ Below W.heap.size W w') := by
  have H1 := Lib.hid (fun W1 => rname_any W1 e.f1 hE.1)
  have H2 := Lib.hid (fun W1 => rname_any W1 e.f2 hE.2.1)
  have H3 := Lib.hid (fun W1 => rname_any W1 e.f3 hE.2.2.1)
  have H4 := Lib.hid (fun W1 (h : Below W.heap.size W W1) => rRight_any W1 e.f4 A c hE.2.2.2 (Kd.C_below hC h) hc)
  have HX := Lib.hid (heap_alloc_new W (.cells (c47 e A c) 47))
  have HB := Lib.hid (below_alloc (Below.refl W.heap.size W) (.cells (c47 e A c) 47))
  have HD := Lib.hid (show rightE e = ((nameB e.f1 && (!(e.f1.toList == [116, 114, 117, 101]) && !(e.f1.toList == [102, 97, 108, 115, 101]))) && (rightV e.f4 && (if e.f0 = 1 then nameB e.f2 && (nameB e.f3 && (!(e.f3.toList == [116, 114, 117, 101]) && !(e.f3.toList == [102, 97, 108, 115, 101]))) else if e.f0 = 2 then emB e.f2 && emB e.f3 else false))) from rfl)
  obtain ⟨r, hr⟩ : ∃ r, r = rightE e := ⟨_, rfl⟩
  obtain ⟨n1, hn1⟩ : ∃ b, nameB e.f1 = b := ⟨_, rfl⟩
  obtain ⟨n2, hn2⟩ : ∃ b, nameB e.f2 = b := ⟨_, rfl⟩
  obtain ⟨n3, hn3⟩ : ∃ b, nameB e.f3 = b := ⟨_, rfl⟩
  obtain ⟨rv, hrv⟩ : ∃ b, rightV e.f4 = b := ⟨_, rfl⟩
  obtain ⟨t1, ht1⟩ : ∃ b, (e.f1.toList == [116, 114, 117, 101]) = b := ⟨_, rfl⟩
  obtain ⟨t2, ht2⟩ : ∃ b, (e.f1.toList == [102, 97, 108, 115, 101]) = b := ⟨_, rfl⟩
  obtain ⟨t3, ht3⟩ : ∃ b, (e.f3.toList == [116, 114, 117, 101]) = b := ⟨_, rfl⟩
  obtain ⟨t4, ht4⟩ : ∃ b, (e.f3.toList == [102, 97, 108, 115, 101]) = b := ⟨_, rfl⟩
  obtain ⟨m2, hm2⟩ : ∃ b, (e.f2.toList == []) = b := ⟨_, rfl⟩
  obtain ⟨m3, hm3⟩ : ∃ b, (e.f3.toList == []) = b := ⟨_, rfl⟩
  have hm2' : e.f2.toList.isEmpty = m2 := by rw [← hm2]; cases e.f2.toList <;> rfl
  have hm3' : e.f3.toList.isEmpty = m3 := by rw [← hm3]; cases e.f3.toList <;> rfl
  have e2 : emB e.f2 = m2 := hm2'
  have e3 : emB e.f3 = m3 := hm3'
  rw [hn1] at H1 HD
  rw [hn2] at H2 HD
  rw [hn3] at H3 HD
  rw [hrv] at H4 HD
  rw [ht1, ht2, ht3, ht4, e2, e3, ← hr] at HD
  rw [← hr]
  unfold v43 at H4
  unfold c47 at HX HB ⊢
  clear hr hn1 hn2 hn3 hrv hE hC e2 e3
  go_enter Try.func58, Try.ntmps58
  go_wp2_with fail
  refine (H1.out _).mono ?_
  rintro q w1 ⟨rfl, hw1⟩
  have HB1 := Lib.hid (HB.out.trans (hw1.mono HB.out.size))
  have HX1 := Lib.hid ((hw1.block _ (blk_lt HX.out)).trans HX.out)
  obtain ⟨x0, x1, x2, x3, x4, x5, x6, x7, x8⟩ := box47 HX1.out
  clear hw1 HX HB H1
  cases n1
  · have HV := Lib.hid (show r = false from HD.out)
    clear HD
    go_wp2
    go_ret
    exact ⟨by rw [HV.out]; rfl, HB1.out⟩
  · cases t1
    · cases t2
      · go_wp2_with fail
        refine (H4.out _ HB1.out).mono ?_
        rintro q w2 ⟨rfl, hw2⟩
        have HB2 := Lib.hid (HB1.out.trans (hw2.mono HB1.out.size))
        have HX2 := Lib.hid ((hw2.block _ (blk_lt HX1.out)).trans HX1.out)
        clear x0 x1 x2 x3 x4 x5 x6 x7 x8
        obtain ⟨x0, x1, x2, x3, x4, x5, x6, x7, x8⟩ := box47 HX2.out
        clear hw2 HX1 HB1 H4
        cases rv
        · have HV := Lib.hid (show r = false from HD.out)
          clear HD
          go_wp2
          go_ret
          exact ⟨by rw [HV.out]; rfl, HB2.out⟩
        · by_cases k2 : e.f0 = 2
          · have q2 : (e.f0 == 2) = true := by rw [beq_iff_eq]; exact k2
            have HV := Lib.hid (show r = (m2 && m3) from by rw [HD.out, if_neg (by omega), if_pos k2]; rfl)
            clear HD k2
            cases m2
            · have HV2 := Lib.hid (show r = false from HV.out)
              clear HV
              go_wp2
              go_ret
              exact ⟨by rw [HV2.out]; rfl, HB2.out⟩
            · cases m3
              · have HV2 := Lib.hid (show r = false from HV.out)
                clear HV
                go_wp2
                go_ret
                exact ⟨by rw [HV2.out]; rfl, HB2.out⟩
              · have HV2 := Lib.hid (show r = true from HV.out)
                clear HV
                go_wp2
                go_ret
                exact ⟨by rw [HV2.out]; rfl, HB2.out⟩
          · have q2 : (e.f0 == 2) = false := by rw [beq_eq_false_iff_ne]; exact k2
            by_cases k1 : e.f0 = 1
            · have q1 : (e.f0 == 1) = true := by rw [beq_iff_eq]; exact k1
              have HV := Lib.hid (show r = (n2 && (n3 && (!t3 && !t4))) from by rw [HD.out, if_pos k1]; rfl)
              clear HD k1 k2
              go_wp2_with fail
              refine (H2.out _).mono ?_
              rintro q w3 ⟨rfl, hw3⟩
              have HB3 := Lib.hid (HB2.out.trans (hw3.mono HB2.out.size))
              have HX3 := Lib.hid ((hw3.block _ (blk_lt HX2.out)).trans HX2.out)
              clear x0 x1 x2 x3 x4 x5 x6 x7 x8
              obtain ⟨x0, x1, x2, x3, x4, x5, x6, x7, x8⟩ := box47 HX3.out
              clear hw3 HX2 HB2 H2
              cases n2
              · have HV2 := Lib.hid (show r = false from HV.out)
                clear HV
                go_wp2
                go_ret
                exact ⟨by rw [HV2.out]; rfl, HB3.out⟩
              · go_wp2_with fail
                refine (H3.out _).mono ?_
                rintro q w4 ⟨rfl, hw4⟩
                have HB4 := Lib.hid (HB3.out.trans (hw4.mono HB3.out.size))
                have HX4 := Lib.hid ((hw4.block _ (blk_lt HX3.out)).trans HX3.out)
                clear x0 x1 x2 x3 x4 x5 x6 x7 x8
                obtain ⟨x0, x1, x2, x3, x4, x5, x6, x7, x8⟩ := box47 HX4.out
                clear hw4 HX3 HB3 H3
                cases n3 <;> cases t3 <;> cases t4
                all_goals
                  have HV2 := Lib.hid HV.out
                  simp only [Bool.not_true, Bool.not_false, Bool.and_true, Bool.and_false, Bool.true_and, Bool.false_and] at HV2
                  clear HV
                  go_wp2
                  go_ret
                  exact ⟨by rw [HV2.out]; rfl, HB4.out⟩
            · have q1 : (e.f0 == 1) = false := by rw [beq_eq_false_iff_ne]; exact k1
              have HV := Lib.hid (show r = false from by rw [HD.out, if_neg k1, if_neg k2]; rfl)
              clear HD k1 k2
              go_wp2
              go_ret
              exact ⟨by rw [HV.out]; rfl, HB2.out⟩
      · have HV := Lib.hid (show r = false from by rw [HD.out]; rfl)
        clear HD
        go_wp2
        go_ret
        exact ⟨by rw [HV.out]; rfl, HB1.out⟩
    · have HV := Lib.hid (show r = false from by rw [HD.out]; rfl)
      clear HD
      go_wp2
      go_ret
      exact ⟨by rw [HV.out]; rfl, HB1.out⟩
end Go.Proofs.Ytofinglgnkdflaa
