/- The reference of layer 4: the order of two values: the walk. -/
import Derived.Test.YtofinglgnkdflaaLQd
import Derived.Test.YtofinglgnkdflaaLXK
namespace Go.Proofs.Ytofinglgnkdflaa
open Go.RowKit
open Go.Proofs.Ytofinglgnkdflaa.PHistoryChecks Go.Proofs.YtofinglgnkdflaaW.PrintWords Go.Proofs.YtofinglgnkdflaaW.PrintLast Go.Proofs.YtofinglgnkdflaaW.PrintMore
set_option linter.unusedVariables false
set_option linter.unusedSimpArgs false
theorem rsign_any (x y : Bool) (W : World) : Calls Try.prog 99 #[.bool x, .bool y] W fun e w' => e = .returned (.int .i64 (sg x y)) ∧ W = w' := by
  go_enter Try.func99, Try.ntmps99
  cases x
  · cases y
    · go_wp2
      go_ret
      exact ⟨rfl, rfl⟩
    · go_wp2
      go_ret
      exact ⟨rfl, rfl⟩
  · go_wp2
    go_ret
    exact ⟨rfl, rfl⟩
def ltS (a b : ByteArray) : Bool := Op.bytesLess a.toList b.toList
def rHead (a b : S43) : Option Int :=
  if a.f0 ≠ b.f0 then some (sg (decide (a.f0 < b.f0)) (decide (a.f0 > b.f0)))
  else if a.f1 ≠ b.f1 then some (sg (decide (a.f1 < b.f1)) (decide (a.f1 > b.f1)))
  else if a.f2 ≠ b.f2 then some (sg (decide (a.f2 < b.f2)) (decide (a.f2 > b.f2)))
  else if a.f3 ≠ b.f3 then some (sg (ltS a.f3 b.f3) (!ltS a.f3 b.f3))
  else if a.f4.length ≠ b.f4.length then some (sg (decide (a.f4.length < b.f4.length)) (decide (a.f4.length > b.f4.length))) else none
mutual
def rordV : S43 → S43 → Int
  | ⟨k, i, m, t, l⟩, b => (rHead ⟨k, i, m, t, l⟩ b).getD (rordL l b.f4)
def rordL : List S43 → List S43 → Int
  | [], _ => 0
  | _ :: _, [] => 0
  | x :: l, y :: m => if rordV x y ≠ 0 then rordV x y else rordL l m
end
theorem rordV_eq (a b : S43) : rordV a b = (rHead a b).getD (rordL a.f4 b.f4) := by cases a; rfl
theorem rordL_from (l m : List S43) (h : l.length = m.length) (i : Nat) (h1 : i < l.length) :
    rordL (l.drop i) (m.drop i) = if rordV (rd_T43 l i) (rd_T43 m i) ≠ 0 then rordV (rd_T43 l i) (rd_T43 m i) else rordL (l.drop (i + 1)) (m.drop (i + 1)) := by
  have hm : i < m.length := by omega
  rw [List.drop_eq_getElem_cons h1, List.drop_eq_getElem_cons hm]
  simp only [rordL]
  unfold rd_T43
  rw [Int.toNat_natCast, List.getD_eq_getElem?_getD, List.getElem?_eq_getElem h1, List.getD_eq_getElem?_getD, List.getElem?_eq_getElem hm]; rfl
theorem dec_cast (x y : Nat) : decide (x < y) = decide ((x : Int) < (y : Int)) := by rw [Bool.eq_iff_iff, decide_eq_true_eq, decide_eq_true_eq]; omega
theorem dec_cast' (x y : Nat) : decide (x > y) = decide ((x : Int) > (y : Int)) := by rw [Bool.eq_iff_iff, decide_eq_true_eq, decide_eq_true_eq]; omega
set_option maxHeartbeats 8000000 in
set_option maxRecDepth 100000 in
theorem rorder_any (k : Nat) : ∀ (a b : S43) (A B : Option Addr) (c d : Nat) (W : World), nd a ≤ k → Kd.C k43 W A a.f4.length a.f4 → a.f4.length ≤ c → Kd.C k43 W B b.f4.length b.f4 → b.f4.length ≤ d →
    Calls Try.prog 78 #[v43 a A c, v43 b B d] W (fun e w' => e = .returned (.int .i64 (rordV a b)) ∧ Below W.heap.size W w') := by
  induction k with
  | zero => intro a; intros; have := nd_pos a; omega
  | succ k ih =>
    intro a b A B c d W hk hCa hc hCb hd
    have HE := Lib.hid (rordV_eq a b)
    have hla := Kd.C_max hCa
    have hlb := Kd.C_max hCb
    have HCA := Lib.hid hCa
    have HCB := Lib.hid hCb
    have HIH := Lib.hid ih
    obtain ⟨r, hr⟩ : ∃ r, r = rordV a b := ⟨_, rfl⟩
    rw [← hr] at HE ⊢
    have HBX := Lib.hid (below_alloc (below_alloc (Below.refl W.heap.size W) (.cells #[.int .i64 a.f0, .int .i64 a.f1, .int .i64 a.f2, .string a.f3, .slice A a.f4.length c] 43)) (.cells #[.int .i64 b.f0, .int .i64 b.f1, .int .i64 b.f2, .string b.f3, .slice B b.f4.length d] 43))
    unfold v43
    clear hr hCa hCb ih
    by_cases h0 : a.f0 = b.f0
    · have g0 : (a.f0 != b.f0) = false := by rw [bne_eq_false_iff_eq]; exact h0
      by_cases h1 : a.f1 = b.f1
      · have g1 : (a.f1 != b.f1) = false := by rw [bne_eq_false_iff_eq]; exact h1
        by_cases h2 : a.f2 = b.f2
        · have g2 : (a.f2 != b.f2) = false := by rw [bne_eq_false_iff_eq]; exact h2
          by_cases h3 : a.f3 = b.f3
          · have g3 : (a.f3.toList == b.f3.toList) = true := by rw [beq_iff_eq, h3]
            by_cases h4 : a.f4.length = b.f4.length
            · have g4 : ((a.f4.length : Int) != (b.f4.length : Int)) = false := by rw [bne_eq_false_iff_eq]; omega
              have H4 := Lib.hid h4
              have HST := Lib.hid (show r = rordL (a.f4.drop 0) (b.f4.drop 0) from by
                rw [HE.out]; unfold rHead
                rw [if_neg (by simpa using h0), if_neg (by simpa using h1), if_neg (by simpa using h2), if_neg (by simpa using h3), if_neg (by simpa using h4)]; rfl)
              have HA2 := Lib.hid (blk_alloc (heap_alloc_new W (.cells #[.int .i64 a.f0, .int .i64 a.f1, .int .i64 a.f2, .string a.f3, .slice A a.f4.length c] 43)) (.cells #[.int .i64 b.f0, .int .i64 b.f1, .int .i64 b.f2, .string b.f3, .slice B b.f4.length d] 43))
              have hB2 := heap_alloc_new (W.alloc (.cells #[.int .i64 a.f0, .int .i64 a.f1, .int .i64 a.f2, .string a.f3, .slice A a.f4.length c] 43)) (.cells #[.int .i64 b.f0, .int .i64 b.f1, .int .i64 b.f2, .string b.f3, .slice B b.f4.length d] 43)
              rw [alloc_size] at hB2
              have HB2 := Lib.hid hB2
              clear h0 h1 h2 h3 h4 HE hB2
              go_enter Try.func78, Try.ntmps78
              go_wp2
              obtain ⟨W2, hW2⟩ : ∃ W2, W2 = (W.alloc (.cells #[.int .i64 a.f0, .int .i64 a.f1, .int .i64 a.f2, .string a.f3, .slice A a.f4.length c] 43)).alloc (.cells #[.int .i64 b.f0, .int .i64 b.f1, .int .i64 b.f2, .string b.f3, .slice B b.f4.length d] 43) := ⟨_, rfl⟩
              rw [← hW2] at HA2 HB2 HBX ⊢
              clear hW2 g0 g1 g2 g3 g4
              go_loopw [5, 6] (fun iv nv wr => ∃ i : Nat, iv = .int .i64 i ∧ i ≤ a.f4.length ∧ Hid (r = rordL (a.f4.drop i) (b.f4.drop i)) ∧ Hid (Below W2.heap.size W2 wr)) (fun i _ _ => a.f4.length - (intOf i).toNat)
              case atStart => exact ⟨0, rfl, by omega, HST.out, Below.refl _ _⟩
              case round =>
                obtain ⟨i, rfl, hi, HI, HW⟩ := hrel
                have HWW := Lib.hid (HBX.out.trans (HW.out.mono HBX.out.size))
                have ca4 : wr.cell? ⟨W.heap.size, 4, none⟩ = some (.slice A a.f4.length c) := pw_cell_below HW.out ((blk_cell HA2.out 4).trans rfl)
                have cb4 : wr.cell? ⟨W.heap.size + 1, 4, none⟩ = some (.slice B b.f4.length d) := pw_cell_below HW.out ((blk_cell HB2.out 4).trans rfl)
                by_cases hlt : i < a.f4.length
                · have hltb : i < b.f4.length := by have := H4.out; omega
                  obtain ⟨ad, A4, c4, rfl, x0, x1, x2, x3, x4, hl4, hF4⟩ := at_T43 (Kd.C_below HCA.out HWW.out) (i : Int) (by omega) (by omega)
                  obtain ⟨bd, B4, d4, rfl, y0, y1, y2, y3, y4, ml4, mF4⟩ := at_T43 (Kd.C_below HCB.out HWW.out) (i : Int) (by omega) (by omega)
                  have hnd : nd (rd_T43 a.f4 (i : Int)) ≤ k := by have := ndL_mem _ _ (rd_mem a.f4 (i : Int) (by omega) (by omega)); have := nd_eq a; omega
                  have hcall := Lib.hid (fun W4 (h : Below wr.heap.size wr W4) => HIH.out (rd_T43 a.f4 (i : Int)) (rd_T43 b.f4 (i : Int)) A4 B4 c4 d4 W4 hnd (Kd.C_below hF4 h) hl4 (Kd.C_below mF4 h) ml4)
                  have hstep := Lib.hid (rordL_from a.f4 b.f4 H4.out i hlt)
                  simp only [Int.toNat_natCast] at x0 x1 x2 x3 x4 y0 y1 y2 y3 y4
                  obtain ⟨x, hx⟩ : ∃ x, x = rd_T43 a.f4 (i : Int) := ⟨_, rfl⟩
                  obtain ⟨y, hy⟩ : ∃ y, y = rd_T43 b.f4 (i : Int) := ⟨_, rfl⟩
                  rw [← hx, ← hy] at hcall hstep
                  rw [← hx] at x0 x1 x2 x3 x4
                  rw [← hy] at y0 y1 y2 y3 y4
                  unfold v43 at hcall
                  clear hx hy hF4 mF4 hl4 ml4 hnd
                  go_wp2
                  go_region_held3 (fun w => w.cell? ⟨W.heap.size, 4, none⟩ = some (.slice (some ad) a.f4.length c) ∧ w.cell? ⟨W.heap.size + 1, 4, none⟩ = some (.slice (some bd) b.f4.length d) ∧ w.cell? (ad.add (i * 5)) = some (.int .i64 x.f0) ∧ w.cell? ⟨(ad.add (i * 5)).block, (ad.add (i * 5)).off + 1, none⟩ = some (.int .i64 x.f1) ∧ w.cell? ⟨(ad.add (i * 5)).block, (ad.add (i * 5)).off + 2, none⟩ = some (.int .i64 x.f2) ∧ w.cell? ⟨(ad.add (i * 5)).block, (ad.add (i * 5)).off + 3, none⟩ = some (.string x.f3) ∧ w.cell? ⟨(ad.add (i * 5)).block, (ad.add (i * 5)).off + 4, none⟩ = some (.slice A4 x.f4.length c4) ∧ w.cell? (bd.add (i * 5)) = some (.int .i64 y.f0) ∧ w.cell? ⟨(bd.add (i * 5)).block, (bd.add (i * 5)).off + 1, none⟩ = some (.int .i64 y.f1) ∧ w.cell? ⟨(bd.add (i * 5)).block, (bd.add (i * 5)).off + 2, none⟩ = some (.int .i64 y.f2) ∧ w.cell? ⟨(bd.add (i * 5)).block, (bd.add (i * 5)).off + 3, none⟩ = some (.string y.f3) ∧ w.cell? ⟨(bd.add (i * 5)).block, (bd.add (i * 5)).off + 4, none⟩ = some (.slice B4 y.f4.length d4))
                    (first | exact ⟨ca4, cb4, x0, x1, x2, x3, x4, y0, y1, y2, y3, y4⟩ | exact ⟨pw_cell_below hb1 ca4, pw_cell_below hb1 cb4, pw_cell_below hb1 x0, pw_cell_below hb1 x1, pw_cell_below hb1 x2, pw_cell_below hb1 x3, pw_cell_below hb1 x4, pw_cell_below hb1 y0, pw_cell_below hb1 y1, pw_cell_below hb1 y2, pw_cell_below hb1 y3, pw_cell_below hb1 y4⟩)
                    ((go_at_call 78; refine (hcall.out wr.drew (below_drew (Below.refl _ _))).mono ?_; rintro e w1 ⟨rfl, hb1⟩))
                  have HW6 := Lib.hid (show Below W2.heap.size W2 w1 from HW.out.trans (((below_drew (Below.refl _ _)).trans hb1).mono HW.out.size))
                  obtain ⟨q, hq⟩ : ∃ q, q = rordV x y := ⟨_, rfl⟩
                  rw [← hq] at hstep ⊢
                  clear hq hb1 x0 x1 x2 x3 x4 y0 y1 y2 y3 y4 ca4 cb4 hcall
                  by_cases e1 : q = 0
                  · have e1' : (q != 0) = false := by rw [bne_eq_false_iff_eq]; exact e1
                    have HN := Lib.hid (show r = rordL (a.f4.drop (i + 1)) (b.f4.drop (i + 1)) from by rw [HI.out, hstep.out, if_neg (by simpa using e1)])
                    clear e1
                    go_wp2
                    go_roundw
                    case rel => exact ⟨i + 1, by simp, by omega, HN.out, HW6.out⟩
                    case measure => simp [intOf]; omega
                  · have e1' : (q != 0) = true := by rw [bne_iff_ne]; exact e1
                    have HR2 := Lib.hid (show r = q from by rw [HI.out, hstep.out, if_pos e1])
                    clear e1
                    go_wp2
                    go_ret
                    exact ⟨by rw [HR2.out]; rfl, HBX.out.trans (HW6.out.mono HBX.out.size)⟩
                · have HR2 := Lib.hid (show r = 0 from by rw [HI.out, List.drop_eq_nil_of_le (by omega)]; rfl)
                  go_wp2
                  go_ret
                  exact ⟨by rw [HR2.out]; rfl, HWW.out⟩
            · have g4 : ((a.f4.length : Int) != (b.f4.length : Int)) = true := by rw [bne_iff_ne]; omega
              have HH := Lib.hid (show r = sg (decide ((a.f4.length : Int) < (b.f4.length : Int))) (decide ((a.f4.length : Int) > (b.f4.length : Int))) from by
                rw [HE.out]; unfold rHead
                rw [if_neg (by simpa using h0), if_neg (by simpa using h1), if_neg (by simpa using h2), if_neg (by simpa using h3), if_pos h4, dec_cast, dec_cast']; rfl)
              clear h0 h1 h2 h3 h4 HE
              go_enter Try.func78, Try.ntmps78
              go_wp2_with (first | (go_at_call 99; refine (rsign_any _ _ _).mono ?_; rintro e w' ⟨rfl, rfl⟩))
              go_ret
              exact ⟨by rw [HH.out]; first | rfl | simp, HBX.out⟩
          · have g3 : (a.f3.toList == b.f3.toList) = false := by
              rw [beq_eq_false_iff_ne]; intro h; apply h3
              rw [ByteArray.toList_eq, ByteArray.toList_eq] at h
              have : a.f3.data = b.f3.data := by
                have := congrArg List.toArray h
                simpa using this
              cases hx : a.f3; cases hy : b.f3; rw [hx, hy] at this; cases this; rfl
            have HH := Lib.hid (show r = sg (ltS a.f3 b.f3) (!ltS a.f3 b.f3) from by
              rw [HE.out]; unfold rHead
              rw [if_neg (by simpa using h0), if_neg (by simpa using h1), if_neg (by simpa using h2), if_pos h3]; rfl)
            unfold ltS at HH
            clear h0 h1 h2 h3 HE
            go_enter Try.func78, Try.ntmps78
            go_wp2_with (first | (go_at_call 99; refine (rsign_any _ _ _).mono ?_; rintro e w' ⟨rfl, rfl⟩))
            go_ret
            exact ⟨by rw [HH.out]; rfl, HBX.out⟩
        · have g2 : (a.f2 != b.f2) = true := by rw [bne_iff_ne]; exact h2
          have HH := Lib.hid (show r = sg (decide (a.f2 < b.f2)) (decide (a.f2 > b.f2)) from by
            rw [HE.out]; unfold rHead
            rw [if_neg (by simpa using h0), if_neg (by simpa using h1), if_pos h2]; rfl)
          clear h0 h1 h2 HE
          go_enter Try.func78, Try.ntmps78
          go_wp2_with (first | (go_at_call 99; refine (rsign_any _ _ _).mono ?_; rintro e w' ⟨rfl, rfl⟩))
          go_ret
          exact ⟨by rw [HH.out]; rfl, HBX.out⟩
      · have g1 : (a.f1 != b.f1) = true := by rw [bne_iff_ne]; exact h1
        have HH := Lib.hid (show r = sg (decide (a.f1 < b.f1)) (decide (a.f1 > b.f1)) from by
          rw [HE.out]; unfold rHead
          rw [if_neg (by simpa using h0), if_pos h1]; rfl)
        clear h0 h1 HE
        go_enter Try.func78, Try.ntmps78
        go_wp2_with (first | (go_at_call 99; refine (rsign_any _ _ _).mono ?_; rintro e w' ⟨rfl, rfl⟩))
        go_ret
        exact ⟨by rw [HH.out]; rfl, HBX.out⟩
    · have g0 : (a.f0 != b.f0) = true := by rw [bne_iff_ne]; exact h0
      have HH := Lib.hid (show r = sg (decide (a.f0 < b.f0)) (decide (a.f0 > b.f0)) from by rw [HE.out]; unfold rHead; rw [if_pos h0]; rfl)
      clear h0 HE
      go_enter Try.func78, Try.ntmps78
      go_wp2_with (first | (go_at_call 99; refine (rsign_any _ _ _).mono ?_; rintro e w' ⟨rfl, rfl⟩))
      go_ret
      exact ⟨by rw [HH.out]; rfl, HBX.out⟩
end Go.Proofs.Ytofinglgnkdflaa
