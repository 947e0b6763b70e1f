/- The reference of layer 4: form, Right: the walks. -/
import Derived.Test.YtofinglgnkdflaaLQg
import Derived.Deep.DeepCutAuto
namespace Go.Proofs.Ytofinglgnkdflaa
open Go.RowKit
open Go.Proofs.Ytofinglgnkdflaa.PHistoryChecks Go.Proofs.YtofinglgnkdflaaW.PrintWords Go.Proofs.YtofinglgnkdflaaW.PrintLast Go.Proofs.YtofinglgnkdflaaW.PrintMore
set_option linter.unusedVariables false
set_option linter.unusedSimpArgs false
theorem box43 {w : World} {g : Nat} {v : S43} {A : Option Addr} {c : Nat} (h : w.heap[g]? = some (.cells #[.int .i64 v.f0, .int .i64 v.f1, .int .i64 v.f2, .string v.f3, .slice A v.f4.length c] 43 (0, 0))) :
    w.cell? ⟨g, 0, none⟩ = some (.int .i64 v.f0) ∧ w.cell? ⟨g, 1, none⟩ = some (.int .i64 v.f1) ∧ w.cell? ⟨g, 2, none⟩ = some (.int .i64 v.f2) ∧ w.cell? ⟨g, 3, none⟩ = some (.string v.f3) ∧ w.cell? ⟨g, 4, none⟩ = some (.slice A v.f4.length c) :=
  ⟨(blk_cell h 0).trans rfl, (blk_cell h 1).trans rfl, (blk_cell h 2).trans rfl, (blk_cell h 3).trans rfl, (blk_cell h 4).trans rfl⟩
def RFormP (v : S43) (W : World) (e : Ending) (w' : World) : Prop := e = .returned (.bool (formV v)) ∧ Below W.heap.size W w'
set_option maxHeartbeats 8000000 in
set_option maxRecDepth 100000 in
theorem rform_flat (v : S43) (A : Option Addr) (c : Nat) (W : World) (hT : v.f3.size ≤ 1000000000) (hk5 : ¬ (v.f0 = 5 ∨ v.f0 = 6 ∨ v.f0 = 7)) :
    Calls Try.prog 82 #[v43 v A c] W (RFormP v W) := by
  have HE := Lib.hid (formV_eq v)
  have HZ1 := Lib.hid (fun W1 => zero_any W1 v A c true false false false (.inl rfl))
  have HZ2 := Lib.hid (fun W1 => zero_any W1 v A c true true false false (.inr (.inl rfl)))
  have HZ3 := Lib.hid (fun W1 => zero_any W1 v A c false false true false (.inr (.inr (.inl rfl))))
  have HX := Lib.hid (heap_alloc_new W (.cells #[.int .i64 v.f0, .int .i64 v.f1, .int .i64 v.f2, .string v.f3, .slice A v.f4.length c] 43))
  have HB := Lib.hid (below_alloc (Below.refl W.heap.size W) (.cells #[.int .i64 v.f0, .int .i64 v.f1, .int .i64 v.f2, .string v.f3, .slice A v.f4.length c] 43))
  obtain ⟨r, hr⟩ : ∃ r, r = formV v := ⟨_, rfl⟩
  have e1' : zB v true false false false = (decide (v.f2 = 0) && plainB v) := by unfold zB plainB; simp
  have e2' : zB v true true false false = plainB v := by unfold zB plainB; simp
  have e3' : zB v false false true false = (decide (v.f1 = 0) && (decide (v.f2 = 0) && v.f4.isEmpty)) := by unfold zB; simp
  rw [e1'] at HZ1
  rw [e2'] at HZ2
  rw [e3'] at HZ3
  unfold RFormP
  rw [← hr] at HE ⊢
  unfold v43 at HZ1 HZ2 HZ3 ⊢
  clear hr e1' e2' e3'
  by_cases k1 : v.f0 = 1
  · obtain ⟨p, hp⟩ : ∃ p, p = (decide (v.f2 = 0) && plainB v) := ⟨_, rfl⟩
    have HR := Lib.hid (show r = (p && (decide (v.f1 = 0) || decide (v.f1 = 1))) from by rw [HE.out, if_pos k1, hp]; cases plainB v <;> cases decide (v.f2 = 0) <;> simp)
    rw [← hp] at HZ1
    have q1 : (v.f0 == 1) = true := by rw [beq_iff_eq]; exact k1
    clear HE HZ2 HZ3 hp k1 hk5
    go_enter Try.func82, Try.ntmps82
    go_wp2_with fail
    refine (HZ1.out _).mono ?_
    rintro e w1 ⟨rfl, hw1⟩
    have HB1 := Lib.hid (HB.out.trans (hw1.mono HB.out.size))
    obtain ⟨x0, x1, x2, x3, x4⟩ := box43 ((hw1.block _ (blk_lt HX.out)).trans HX.out)
    clear hw1 HZ1 HX HB
    cases p
    · have HV := Lib.hid (show r = false from HR.out)
      clear HR
      go_wp2
      go_ret
      exact ⟨by rw [HV.out]; rfl, HB1.out⟩
    · by_cases i0 : v.f1 = 0
      · have g0 : (v.f1 == 0) = true := by rw [beq_iff_eq]; exact i0
        have HV := Lib.hid (show r = true from by rw [HR.out, decide_eq_true i0]; rfl)
        clear HR i0
        go_wp2
        go_ret
        exact ⟨by rw [HV.out]; rfl, HB1.out⟩
      · have g0 : (v.f1 == 0) = false := by rw [beq_eq_false_iff_ne]; exact i0
        have HV := Lib.hid (show r = (v.f1 == 1) from by rw [HR.out, decide_eq_false i0]; rfl)
        obtain ⟨g1, hg1⟩ : ∃ g, (v.f1 == 1) = g := ⟨_, rfl⟩
        rw [hg1] at HV
        clear HR i0
        go_wp2
        go_ret
        exact ⟨by rw [HV.out]; rfl, HB1.out⟩
  · have q1 : (v.f0 == 1) = false := by rw [beq_eq_false_iff_ne]; exact k1
    by_cases k2 : v.f0 = 2
    · obtain ⟨p, hp⟩ : ∃ p, p = (decide (v.f2 = 0) && plainB v) := ⟨_, rfl⟩
      have HR := Lib.hid (show r = p from by rw [HE.out, if_neg k1, if_pos k2, hp]; cases plainB v <;> cases decide (v.f2 = 0) <;> rfl)
      rw [← hp] at HZ1
      have q2 : (v.f0 == 2) = true := by rw [beq_iff_eq]; exact k2
      clear HE HZ2 HZ3 hp k1 k2 hk5
      go_enter Try.func82, Try.ntmps82
      go_wp2_with fail
      refine (HZ1.out _).mono ?_
      rintro e w1 ⟨rfl, hw1⟩
      have HB1 := Lib.hid (HB.out.trans (hw1.mono HB.out.size))
      clear hw1 HZ1 HX HB
      go_wp2
      go_ret
      exact ⟨by rw [HR.out]; rfl, HB1.out⟩
    · have q2 : (v.f0 == 2) = false := by rw [beq_eq_false_iff_ne]; exact k2
      by_cases k3 : v.f0 = 3
      · obtain ⟨p, hp⟩ : ∃ p, p = plainB v := ⟨_, rfl⟩
        have HR := Lib.hid (show r = (p && partB v.f1 && partB v.f2) from by rw [HE.out, if_neg k1, if_neg k2, if_pos k3, hp])
        rw [← hp] at HZ2
        have q3 : (v.f0 == 3) = true := by rw [beq_iff_eq]; exact k3
        have HP1 := Lib.hid (fun W1 => rpart_any v.f1 W1)
        have HP2 := Lib.hid (fun W1 => rpart_any v.f2 W1)
        obtain ⟨p1, hp1⟩ : ∃ p, p = partB v.f1 := ⟨_, rfl⟩
        obtain ⟨p2, hp2⟩ : ∃ p, p = partB v.f2 := ⟨_, rfl⟩
        rw [← hp1] at HP1 HR
        rw [← hp2] at HP2 HR
        clear HE HZ1 HZ3 hp k1 k2 k3 hk5 hp1 hp2
        go_enter Try.func82, Try.ntmps82
        go_wp2_with fail
        refine (HZ2.out _).mono ?_
        rintro e w1 ⟨rfl, hw1⟩
        have HB1 := Lib.hid (HB.out.trans (hw1.mono HB.out.size))
        have HX1 := Lib.hid ((hw1.block _ (blk_lt HX.out)).trans HX.out)
        obtain ⟨x0, x1, x2, x3, x4⟩ := box43 HX1.out
        clear hw1 HZ2 HX HB
        cases p
        · have HV := Lib.hid (show r = false from HR.out)
          clear HR
          go_wp2
          go_ret
          exact ⟨by rw [HV.out]; rfl, HB1.out⟩
        · go_wp2_with fail
          refine (HP1.out _).mono ?_
          rintro e w2 ⟨rfl, hw2⟩
          have HB2 := Lib.hid (HB1.out.trans (hw2.mono HB1.out.size))
          clear x0 x1 x2 x3 x4
          obtain ⟨x0, x1, x2, x3, x4⟩ := box43 ((hw2.block _ (blk_lt HX1.out)).trans HX1.out)
          clear hw2 HP1 HX1 HB1
          cases p1
          · have HV := Lib.hid (show r = false from HR.out)
            clear HR
            go_wp2
            go_ret
            exact ⟨by rw [HV.out]; rfl, HB2.out⟩
          · have HV := Lib.hid (show r = p2 from by rw [HR.out]; rfl)
            clear HR
            go_wp2_with fail
            refine (HP2.out _).mono ?_
            rintro e w3 ⟨rfl, hw3⟩
            have HB3 := Lib.hid (HB2.out.trans (hw3.mono HB2.out.size))
            clear hw3
            go_wp2
            go_ret
            exact ⟨by rw [HV.out]; rfl, HB3.out⟩
      · have q3 : (v.f0 == 3) = false := by rw [beq_eq_false_iff_ne]; exact k3
        by_cases k4 : v.f0 = 4
        · obtain ⟨p, hp⟩ : ∃ p, p = (decide (v.f1 = 0) && (decide (v.f2 = 0) && v.f4.isEmpty)) := ⟨_, rfl⟩
          have HR := Lib.hid (show r = (p && symB v.f3) from by rw [HE.out, if_neg k1, if_neg k2, if_neg k3, if_pos k4, hp, Bool.and_assoc, Bool.and_assoc, Bool.and_assoc, Bool.and_assoc])
          rw [← hp] at HZ3
          have q4 : (v.f0 == 4) = true := by rw [beq_iff_eq]; exact k4
          have HS := Lib.hid (fun W1 => rsymbol_any W1 v.f3 hT)
          obtain ⟨p1, hp1⟩ : ∃ p, p = symB v.f3 := ⟨_, rfl⟩
          rw [← hp1] at HS HR
          clear HE HZ1 HZ2 hp k1 k2 k3 k4 hk5 hp1
          go_enter Try.func82, Try.ntmps82
          go_wp2_with fail
          refine (HZ3.out _).mono ?_
          rintro e w1 ⟨rfl, hw1⟩
          have HB1 := Lib.hid (HB.out.trans (hw1.mono HB.out.size))
          have HX1 := Lib.hid ((hw1.block _ (blk_lt HX.out)).trans HX.out)
          obtain ⟨x0, x1, x2, x3, x4⟩ := box43 HX1.out
          clear hw1 HZ3 HX HB
          cases p
          · have HV := Lib.hid (show r = false from HR.out)
            clear HR
            go_wp2
            go_ret
            exact ⟨by rw [HV.out]; rfl, HB1.out⟩
          · have HV := Lib.hid (show r = p1 from by rw [HR.out]; rfl)
            clear HR
            go_wp2_with fail
            refine (HS.out _).mono ?_
            rintro e w2 ⟨rfl, hw2⟩
            have HB2 := Lib.hid (HB1.out.trans (hw2.mono HB1.out.size))
            clear hw2
            go_wp2
            go_ret
            exact ⟨by rw [HV.out]; rfl, HB2.out⟩
        · have q4 : (v.f0 == 4) = false := by rw [beq_eq_false_iff_ne]; exact k4
          have q5 : (v.f0 == 5) = false := by rw [beq_eq_false_iff_ne]; omega
          have q6 : (v.f0 == 6) = false := by rw [beq_eq_false_iff_ne]; omega
          have q7 : (v.f0 == 7) = false := by rw [beq_eq_false_iff_ne]; omega
          have HV := Lib.hid (show r = false from by rw [HE.out, if_neg k1, if_neg k2, if_neg k3, if_neg k4, if_neg hk5])
          clear HE HZ1 HZ2 HZ3 k1 k2 k3 k4 hk5
          go_enter Try.func82, Try.ntmps82
          go_wp2
          go_ret
          exact ⟨by rw [HV.out]; rfl, HB.out⟩
end Go.Proofs.Ytofinglgnkdflaa
