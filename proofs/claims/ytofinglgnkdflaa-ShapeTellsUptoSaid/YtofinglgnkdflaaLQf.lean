/- The reference of layer 4: zero, part, counted, Same: the walks. -/
import Derived.Test.YtofinglgnkdflaaLQe
namespace Go.Proofs.Ytofinglgnkdflaa
open Go.RowKit
open Go.Proofs.Ytofinglgnkdflaa.PHistoryChecks Go.Proofs.YtofinglgnkdflaaW.PrintWords Go.Proofs.YtofinglgnkdflaaW.PrintLast Go.Proofs.YtofinglgnkdflaaW.PrintMore
set_option linter.unusedVariables false
set_option linter.unusedSimpArgs false
theorem rpart_any (n : Int) (W : World) : Calls Try.prog 104 #[.int .i64 n] W fun e w' => e = .returned (.bool (partB n)) ∧ Below W.heap.size W w' := by
  have HB := Lib.hid (Below.refl W.heap.size W)
  by_cases h1 : n ≥ -1048576
  · have g1 : decide (n ≥ -1048576) = true := decide_eq_true h1
    by_cases h2 : n ≤ 1048576
    · have g2 : decide (n ≤ 1048576) = true := decide_eq_true h2
      have HV := Lib.hid (show partB n = true from by unfold partB; rw [decide_eq_true h1, decide_eq_true h2]; rfl)
      rw [HV.out]
      clear h1 h2
      go_enter Try.func104, Try.ntmps104
      go_wp2
      go_ret
      exact ⟨rfl, HB.out⟩
    · have g2 : decide (n ≤ 1048576) = false := decide_eq_false h2
      have HV := Lib.hid (show partB n = false from by unfold partB; rw [decide_eq_true h1, decide_eq_false h2]; rfl)
      rw [HV.out]
      clear h1 h2
      go_enter Try.func104, Try.ntmps104
      go_wp2
      go_ret
      exact ⟨rfl, HB.out⟩
  · have g1 : decide (n ≥ -1048576) = false := decide_eq_false h1
    have HV := Lib.hid (show partB n = false from by unfold partB; rw [decide_eq_false h1]; rfl)
    rw [HV.out]
    clear h1
    go_enter Try.func104, Try.ntmps104
    go_wp2
    go_ret
    exact ⟨rfl, HB.out⟩
def zB (v : S43) (b1 b2 b3 b4 : Bool) : Bool := (b1 || decide (v.f1 = 0)) && ((b2 || decide (v.f2 = 0)) && ((b3 || emB v.f3) && (b4 || v.f4.isEmpty)))
set_option maxHeartbeats 16000000 in
set_option maxRecDepth 100000 in
theorem zero_any (W : World) (v : S43) (A : Option Addr) (c : Nat) (b1 b2 b3 b4 : Bool) (hb : (b1, b2, b3, b4) = (true, false, false, false) ∨ (b1, b2, b3, b4) = (true, true, false, false) ∨ (b1, b2, b3, b4) = (false, false, true, false) ∨ (b1, b2, b3, b4) = (false, false, false, true)) :
    Calls Try.prog 103 #[v43 v A c, .bool b1, .bool b2, .bool b3, .bool b4] W (fun e w' => e = .returned (.bool (zB v b1 b2 b3 b4)) ∧ Below W.heap.size W w') := by
  have HB := Lib.hid (below_alloc (Below.refl W.heap.size W) (.cells #[.int .i64 v.f0, .int .i64 v.f1, .int .i64 v.f2, .string v.f3, .slice A v.f4.length c] 43))
  have HZ := Lib.hid (show zB v b1 b2 b3 b4 = ((b1 || decide (v.f1 = 0)) && ((b2 || decide (v.f2 = 0)) && ((b3 || emB v.f3) && (b4 || v.f4.isEmpty)))) from rfl)
  obtain ⟨r, hr⟩ : ∃ r, r = zB v b1 b2 b3 b4 := ⟨_, rfl⟩
  obtain ⟨e1, g1⟩ : ∃ e, (v.f1 == 0) = e := ⟨_, rfl⟩
  obtain ⟨e2, g2⟩ : ∃ e, (v.f2 == 0) = e := ⟨_, rfl⟩
  obtain ⟨e3, g3⟩ : ∃ e, (v.f3.toList == []) = e := ⟨_, rfl⟩
  obtain ⟨e4, g4⟩ : ∃ e, ((v.f4.length : Int) == 0) = e := ⟨_, rfl⟩
  have k1 : decide (v.f1 = 0) = e1 := by rw [← g1]; rfl
  have k2 : decide (v.f2 = 0) = e2 := by rw [← g2]; rfl
  have k3 : emB v.f3 = e3 := by rw [← g3]; unfold emB; cases v.f3.toList <;> rfl
  have g3' : v.f3.toList.isEmpty = e3 := by rw [← k3]; rfl
  have k4 : v.f4.isEmpty = e4 := by rw [← g4]; cases v.f4 <;> simp <;> omega
  have g4' : decide (v.f4 = []) = e4 := by rw [← k4]; cases v.f4 <;> simp
  rw [← hr] at HZ ⊢
  rw [k1, k2, k3, k4] at HZ
  unfold v43
  clear hr k1 k2 k3 k4
  rcases hb with h | h | h | h
  all_goals
    obtain ⟨rfl, rfl, rfl, rfl⟩ := (by simpa using h : b1 = _ ∧ b2 = _ ∧ b3 = _ ∧ b4 = _)
    clear h
    cases e1 <;> cases e2 <;> cases e3 <;> cases e4
    all_goals
      have HV := Lib.hid HZ.out
      simp only [Bool.or_false, Bool.or_true, Bool.and_true, Bool.and_false, Bool.true_or, Bool.false_or, Bool.true_and, Bool.false_and] at HV
      clear HZ
      go_enter Try.func103, Try.ntmps103
      go_wp2
      go_ret
      exact ⟨by rw [HV.out]; rfl, HB.out⟩
def CtdP (v : S43) (d n r : Int) : Prop := n < r ∧ r ≤ 4097 ∧ ((n + nd v ≤ 4096 ∧ d + dp v ≤ 17) → r = n + nd v) ∧ (¬ (n + nd v ≤ 4096 ∧ d + dp v ≤ 17) → 4096 < r)
theorem ctd_over (v : S43) (d n : Int) (h1 : n ≤ 4096) (hd : d ≤ 17) (h : 4096 < n + 1 ∨ 16 < d) : CtdP v d n 4097 := by
  have h2 := nd_pos v; have h3 := dp_pos v
  exact ⟨by omega, by omega, fun h4 => by omega, fun _ => by omega⟩
def CtdI (v : S43) (d n : Int) (i : Nat) (r : Int) : Prop := r = n + 1 + ndL (v.f4.take i) ∧ r ≤ 4096 ∧ d + dpL (v.f4.take i) ≤ 16
theorem ctd_step (v : S43) (d n r r1 : Int) (i : Nat) (hi : i < v.f4.length) (h : CtdI v d n i r) (hc : CtdP (rd_T43 v.f4 (i : Int)) (d + 1) r r1) : (r1 ≤ 4096 → CtdI v d n (i + 1) r1) ∧ (4096 < r1 → CtdP v d n r1) := by
  obtain ⟨e1, h3, h4⟩ := h
  obtain ⟨c1, c2, c5, c6⟩ := hc
  have t1 := take_rd v.f4 (i : Int) (by omega) (by omega)
  rw [show ((i : Int) + 1).toNat = i + 1 by omega, Int.toNat_natCast] at t1
  have t2 : ndL (v.f4.take (i + 1)) = ndL (v.f4.take i) + nd (rd_T43 v.f4 (i : Int)) := by rw [t1, ndL_app]; simp [ndL]
  have t3 : dpL (v.f4.take (i + 1)) = max (dpL (v.f4.take i)) (dp (rd_T43 v.f4 (i : Int))) := by rw [t1, dpL_app]; simp [dpL]
  have t4 := ndL_le v.f4 (i + 1)
  have t5 := dpL_le v.f4 (i + 1)
  have n0 := nd_eq v; have d0 := dp_eq v
  have p1 := dp_pos (rd_T43 v.f4 (i : Int))
  have hx : (r + nd (rd_T43 v.f4 (i : Int)) ≤ 4096 ∧ d + 1 + dp (rd_T43 v.f4 (i : Int)) ≤ 17) ∨ ¬ (r + nd (rd_T43 v.f4 (i : Int)) ≤ 4096 ∧ d + 1 + dp (rd_T43 v.f4 (i : Int)) ≤ 17) := Decidable.em _
  rcases hx with hx | hx
  · have := c5 hx
    exact ⟨fun _ => ⟨by omega, by omega, by omega⟩, fun _ => by omega⟩
  · have := c6 hx
    exact ⟨fun _ => by omega, fun _ => ⟨by omega, by omega, fun h5 => by omega, fun _ => by omega⟩⟩
theorem ctd_end (v : S43) (d n r : Int) (h : CtdI v d n v.f4.length r) : CtdP v d n r := by
  obtain ⟨e1, h3, h4⟩ := h
  rw [List.take_length] at e1 h4
  have n0 := nd_eq v; have d0 := dp_eq v
  exact ⟨by omega, by omega, fun _ => by omega, fun h5 => by omega⟩
set_option maxHeartbeats 8000000 in
set_option maxRecDepth 100000 in
theorem rcounted_any (k : Nat) : ∀ (v : S43) (A : Option Addr) (c : Nat) (n d : Int) (W : World), nd v ≤ k → 0 ≤ n → n ≤ 4096 → 1 ≤ d → d ≤ 17 → Kd.C k43 W A v.f4.length v.f4 →
    Calls Try.prog 81 #[v43 v A c, .int .i64 n, .int .i64 d] W (fun e w' => ∃ r, e = .returned (.int .i64 r) ∧ CtdP v d n r ∧ Below W.heap.size W w') := by
  induction k with
  | zero => intro v; intros; have := nd_pos v; omega
  | succ k ih =>
    intro v A c n d W hk hn0 hn hd1 hd hC
    have HIH := Lib.hid ih
    have HC := Lib.hid hC
    have HX := Lib.hid (heap_alloc_new W (.cells #[.int .i64 v.f0, .int .i64 v.f1, .int .i64 v.f2, .string v.f3, .slice A v.f4.length c] 43))
    have HB := Lib.hid (below_alloc (Below.refl W.heap.size W) (.cells #[.int .i64 v.f0, .int .i64 v.f1, .int .i64 v.f2, .string v.f3, .slice A v.f4.length c] 43))
    have hla := Kd.C_max hC
    unfold v43
    clear ih hC
    by_cases h1 : n + 1 > 4096
    · have HO := Lib.hid (ctd_over v d n hn hd (by omega))
      have g1 : decide (n + 1 > 4096) = true := decide_eq_true h1
      go_enter Try.func81, Try.ntmps81
      go_wp2
      go_ret
      exact ⟨_, rfl, HO.out, HB.out⟩
    · have g1 : decide (n + 1 > 4096) = false := decide_eq_false h1
      by_cases h2 : d > 16
      · have HO := Lib.hid (ctd_over v d n hn hd (by omega))
        have g2 : decide (d > 16) = true := decide_eq_true h2
        go_enter Try.func81, Try.ntmps81
        go_wp2
        go_ret
        exact ⟨_, rfl, HO.out, HB.out⟩
      · have g2 : decide (d > 16) = false := decide_eq_false h2
        have HST := Lib.hid (show CtdI v d n 0 (n + 1) from ⟨by simp [ndL], by omega, by simp [dpL]; omega⟩)
        have HBX := HB.out
        go_enter Try.func81, Try.ntmps81
        go_wp2
        obtain ⟨W2, hW2⟩ : ∃ W2, W2 = W.alloc (.cells #[.int .i64 v.f0, .int .i64 v.f1, .int .i64 v.f2, .string v.f3, .slice A v.f4.length c] 43) := ⟨_, rfl⟩
        rw [← hW2] at HX HB ⊢
        clear hW2 HBX
        go_loopw [7, 1] (fun iv nv wr => ∃ (i : Nat) (r : Int), iv = .int .i64 i ∧ nv = .int .i64 r ∧ i ≤ v.f4.length ∧ n < r ∧ r ≤ 4096 ∧ Hid (CtdI v d n i r) ∧ Hid (Below W2.heap.size W2 wr)) (fun i _ _ => v.f4.length - (intOf i).toNat)
        case atStart => exact ⟨0, n + 1, rfl, rfl, by omega, by omega, by omega, HST.out, Below.refl _ _⟩
        case round =>
          obtain ⟨i, r, rfl, rfl, hi, hr0, hr1, HI, HW⟩ := hrel
          have HWW := Lib.hid (HB.out.trans (HW.out.mono HB.out.size))
          have ca4 : wr.cell? ⟨W.heap.size, 4, none⟩ = some (.slice A v.f4.length c) := pw_cell_below HW.out ((blk_cell HX.out 4).trans rfl)
          by_cases hlt : i < v.f4.length
          · obtain ⟨ad, A4, c4, rfl, x0, x1, x2, x3, x4, hl4, hF4⟩ := at_T43 (Kd.C_below HC.out HWW.out) (i : Int) (by omega) (by omega)
            have hnd : nd (rd_T43 v.f4 (i : Int)) ≤ k := by have := ndL_mem _ _ (rd_mem v.f4 (i : Int) (by omega) (by omega)); have := nd_eq v; omega
            have hcall := Lib.hid (HIH.out (rd_T43 v.f4 (i : Int)) A4 c4 r (d + 1) wr hnd (by omega) hr1 (by omega) (by omega) hF4)
            have hstep := Lib.hid (fun r1 h => ctd_step v d n r r1 i hlt HI.out h)
            simp only [Int.toNat_natCast] at x0 x1 x2 x3 x4
            obtain ⟨x, hx⟩ : ∃ x, x = rd_T43 v.f4 (i : Int) := ⟨_, rfl⟩
            rw [← hx] at hcall hstep x0 x1 x2 x3 x4
            unfold v43 at hcall
            clear hx hF4 hl4 hnd
            go_wp2_with fail
            refine hcall.out.mono ?_
            rintro e w1 ⟨r1, rfl, hP, hw1⟩
            have HW1 := Lib.hid (HW.out.trans (hw1.mono HW.out.size))
            obtain ⟨q1, q2⟩ := hstep.out r1 hP
            have hp1 := hP.1
            have hp2 := hP.2.1
            clear hw1 hcall hstep hP ca4 x0 x1 x2 x3 x4
            by_cases h3 : r1 > 4096
            · have g3 : decide (r1 > 4096) = true := decide_eq_true h3
              have HR := Lib.hid (q2 h3)
              clear q1 q2
              go_wp2
              go_ret
              exact ⟨_, rfl, HR.out, HB.out.trans (HW1.out.mono HB.out.size)⟩
            · have g3 : decide (r1 > 4096) = false := decide_eq_false h3
              have HR := Lib.hid (q1 (by omega))
              clear q1 q2
              go_wp2
              go_roundw
              case rel => exact ⟨i + 1, r1, by simp, rfl, by omega, by omega, by omega, HR.out, HW1.out⟩
              case measure => simp [intOf]; omega
          · have hin : i = v.f4.length := by omega
            have HR := Lib.hid (ctd_end v d n r (by rw [← hin]; exact HI.out))
            clear hin
            go_wp2
            go_ret
            exact ⟨_, rfl, HR.out, HWW.out⟩
theorem rsame_any (W : World) (a b : S43) (A B : Option Addr) (c d : Nat) (hCa : Kd.C k43 W A a.f4.length a.f4) (hc : a.f4.length ≤ c) (hCb : Kd.C k43 W B b.f4.length b.f4) (hd : b.f4.length ≤ d) :
    Calls Try.prog 50 #[v43 a A c, v43 b B d] W (fun e w' => e = .returned (.bool (rordV a b == 0)) ∧ Below W.heap.size W w') := by
  have HO := Lib.hid (fun W1 (h : Below W.heap.size W W1) => rorder_any (nd a) a b A B c d W1 (Nat.le_refl _) (Kd.C_below hCa h) hc (Kd.C_below hCb h) hd)
  have HB := Lib.hid (below_alloc (below_alloc (Below.refl W.heap.size W) (.cells #[.int .i64 a.f0, .int .i64 a.f1, .int .i64 a.f2, .string a.f3, .slice A a.f4.length c] 43)) (.cells #[.int .i64 b.f0, .int .i64 b.f1, .int .i64 b.f2, .string b.f3, .slice B b.f4.length d] 43))
  unfold v43 at HO ⊢
  clear hCa hCb
  go_enter Try.func50, Try.ntmps50
  go_wp2_with fail
  refine (HO.out _ HB.out).mono ?_
  rintro e w1 ⟨rfl, hw1⟩
  have HB1 := Lib.hid (HB.out.trans (hw1.mono HB.out.size))
  clear hw1 HO
  go_wp2
  go_ret
  exact ⟨rfl, HB1.out⟩
end Go.Proofs.Ytofinglgnkdflaa
