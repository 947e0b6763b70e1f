/- The law's own: SameEvents: the walk. -/
import Derived.Test.YtofinglgnkdflaaKQm
import Derived.Deep.RegionHeld3
namespace Go.Proofs.Ytofinglgnkdflaa
open Go.RowKit
open Go.Proofs.Ytofinglgnkdflaa.PHistoryChecks Go.Proofs.YtofinglgnkdflaaW.PrintWords Go.Proofs.YtofinglgnkdflaaW.PrintLast Go.Proofs.YtofinglgnkdflaaW.PrintMore
set_option linter.unusedVariables false
set_option linter.unusedSimpArgs false
def sameE (a b : S47) : Bool := decide (a.f0 = b.f0) && ((a.f1.toList == b.f1.toList) && ((a.f2.toList == b.f2.toList) && ((a.f3.toList == b.f3.toList) && sameV a.f4 b.f4)))
def sameEL : List S47 → List S47 → Bool
  | [], [] => true
  | x :: l, y :: m => sameE x y && sameEL l m
  | [], _ :: _ => false
  | _ :: _, [] => false
theorem sameEL_len (l m : List S47) (h : l.length ≠ m.length) : sameEL l m = false := by
  induction l generalizing m with
  | nil => cases m with
    | nil => simp at h
    | cons y m => rfl
  | cons x l ih => cases m with
    | nil => rfl
    | cons y m => simp only [sameEL]; rw [ih m (by simpa using h), Bool.and_false]
theorem sameEL_from (l m : List S47) (h : l.length = m.length) (i : Int) (h0 : 0 ≤ i) (h1 : i < (l.length : Int)) :
    sameEL (l.drop i.toNat) (m.drop i.toNat) = (sameE (rd_T47 l i) (rd_T47 m i) && sameEL (l.drop (i + 1).toNat) (m.drop (i + 1).toNat)) := by
  have hn : i.toNat < l.length := by omega
  have hm : i.toNat < m.length := by omega
  have e : (i + 1).toNat = i.toNat + 1 := by omega
  rw [e, List.drop_eq_getElem_cons hn, List.drop_eq_getElem_cons hm]
  simp only [sameEL]
  unfold rd_T47
  rw [List.getD_eq_getElem?_getD, List.getElem?_eq_getElem hn, List.getD_eq_getElem?_getD, List.getElem?_eq_getElem hm]; rfl
theorem sameEL_end (l m : List S47) (h : l.length = m.length) (i : Int) (h1 : ¬ i < (l.length : Int)) : sameEL (l.drop i.toNat) (m.drop i.toNat) = true := by
  rw [List.drop_eq_nil_of_le (by omega), List.drop_eq_nil_of_le (by omega)]; rfl
set_option maxHeartbeats 16000000 in
set_option maxRecDepth 100000 in
theorem sameEvents_any (W : World) (l m : List S47) (A B : Option Addr) (c d : Nat) (hCa : Kd.C k47 W A l.length l) (hc : l.length ≤ c) (hCb : Kd.C k47 W B m.length m) (hd : m.length ≤ d) :
    Calls Try.prog 18 #[.slice A l.length c, .slice B m.length d] W (fun e w' => e = .returned (.bool (sameEL l m)) ∧ Below W.heap.size W w') := by
  have hla := Kd.C_max hCa
  have hlb := Kd.C_max hCb
  have HCA := Lib.hid hCa
  have HCB := Lib.hid hCb
  have HB := Lib.hid (Below.refl W.heap.size W)
  obtain ⟨q, hq⟩ : ∃ q, q = sameEL l m := ⟨_, rfl⟩
  have HD := Lib.hid hq
  rw [← hq]
  clear hCa hCb hq
  go_enter Try.func18, Try.ntmps18
  by_cases hl : l.length = m.length
  · have g4 : ((l.length : Int) != (m.length : Int)) = false := by rw [bne_eq_false_iff_eq]; omega
    have HLM := Lib.hid hl
    have HST := Lib.hid (show q = sameEL (l.drop (0 : Int).toNat) (m.drop (0 : Int).toNat) from HD.out)
    clear HD hl
    go_wp2
    clear g4
    go_loopw [5] (fun iv wr => ∃ i : Int, iv = .int .i64 i ∧ 0 ≤ i ∧ i ≤ (l.length : Int) ∧ Hid (q = sameEL (l.drop i.toNat) (m.drop i.toNat)) ∧ Hid (Below W.heap.size W wr)) (fun i _ => l.length - (intOf i).toNat)
    case atStart => exact ⟨0, rfl, by omega, by omega, HST.out, HB.out⟩
    case round =>
      obtain ⟨i, rfl, hi0, hi1, HI, HW⟩ := hrel
      by_cases hlt : i < (l.length : Int)
      · have hltm : i < (m.length : Int) := by have := HLM.out; omega
        obtain ⟨ad, A8, c8, hAd, x0, x1, x2, x3, x4, x5, x6, x7, x8, x9, x10, x11, hxl, hxC⟩ := at_T47 (Kd.C_below HCA.out HW.out) i hi0 hlt
        obtain ⟨bd, B8, d8, hBd, y0, y1, y2, y3, y4, y5, y6, y7, y8, y9, y10, y11, hyl, hyC⟩ := at_T47 (Kd.C_below HCB.out HW.out) i hi0 hltm
        have hstep := sameEL_from l m HLM.out i hi0 hlt
        obtain ⟨x, hx⟩ : ∃ x, x = rd_T47 l i := ⟨_, rfl⟩
        obtain ⟨y, hy⟩ : ∃ x, x = rd_T47 m i := ⟨_, rfl⟩
        rw [← hx] at x0 x1 x2 x3 x4 x5 x6 x7 x8 x9 x10 x11 hxl hxC
        rw [← hy] at y0 y1 y2 y3 y4 y5 y6 y7 y8 y9 y10 y11 hyl hyC
        rw [← hx, ← hy] at hstep
        subst hAd
        subst hBd
        obtain ⟨s4, hs4⟩ : ∃ r, r = sameV x.f4 y.f4 := ⟨_, rfl⟩
        have HS4 := Lib.hid (show Calls Try.prog 50 #[v43 x.f4 A8 c8, v43 y.f4 B8 d8] wr.drew (fun e w' => e = .returned (.bool s4) ∧ Below wr.drew.heap.size wr.drew w') from by rw [hs4]; exact rsame_V wr.drew x.f4 y.f4 A8 B8 c8 d8 (Kd.C_below hxC (below_drew (Below.refl _ _))) hxl (Kd.C_below hyC (below_drew (Below.refl _ _))) hyl)
        unfold v43 at HS4
        obtain ⟨k0, hk0⟩ : ∃ r, decide (x.f0 = y.f0) = r := ⟨_, rfl⟩
        obtain ⟨k1, hk1⟩ : ∃ r, (x.f1.toList == y.f1.toList) = r := ⟨_, rfl⟩
        obtain ⟨k2, hk2⟩ : ∃ r, (x.f2.toList == y.f2.toList) = r := ⟨_, rfl⟩
        obtain ⟨k3, hk3⟩ : ∃ r, (x.f3.toList == y.f3.toList) = r := ⟨_, rfl⟩
        have HS := Lib.hid (show q = ((k0 && (k1 && (k2 && (k3 && s4)))) && sameEL (l.drop (i + 1).toNat) (m.drop (i + 1).toNat)) from by rw [HI.out, hstep, hs4, ← hk0, ← hk1, ← hk2, ← hk3]; rfl)
        have n0 : (x.f0 != y.f0) = !k0 := by rw [← hk0]; rfl
        have n1 : (x.f1.toList != y.f1.toList) = !k1 := by rw [← hk1]; rfl
        have n2 : (x.f2.toList != y.f2.toList) = !k2 := by rw [← hk2]; rfl
        have n3 : (x.f3.toList != y.f3.toList) = !k3 := by rw [← hk3]; rfl
        clear hstep hs4 hk0 hx hy hxl hxC hyl hyC HI x9 x10 x11 y9 y10 y11
        go_wp2
        cases k0 <;> cases k1 <;> cases k2 <;> cases k3
        rotate_right
        · simp only [Bool.not_true] at n0 n1 n2 n3
          go_region_held3 (fun w => w.cell? (ad.add (i.toNat * 12)) = some (.int .i64 x.f0) ∧ w.cell? ⟨(ad.add (i.toNat * 12)).block, (ad.add (i.toNat * 12)).off + 1, none⟩ = some (.string x.f1) ∧ w.cell? ⟨(ad.add (i.toNat * 12)).block, (ad.add (i.toNat * 12)).off + 2, none⟩ = some (.string x.f2) ∧ w.cell? ⟨(ad.add (i.toNat * 12)).block, (ad.add (i.toNat * 12)).off + 3, none⟩ = some (.string x.f3) ∧ w.cell? ⟨(ad.add (i.toNat * 12)).block, (ad.add (i.toNat * 12)).off + 4, none⟩ = some (.int .i64 x.f4.f0) ∧ w.cell? ⟨(ad.add (i.toNat * 12)).block, (ad.add (i.toNat * 12)).off + 5, none⟩ = some (.int .i64 x.f4.f1) ∧ w.cell? ⟨(ad.add (i.toNat * 12)).block, (ad.add (i.toNat * 12)).off + 6, none⟩ = some (.int .i64 x.f4.f2) ∧ w.cell? ⟨(ad.add (i.toNat * 12)).block, (ad.add (i.toNat * 12)).off + 7, none⟩ = some (.string x.f4.f3) ∧ w.cell? ⟨(ad.add (i.toNat * 12)).block, (ad.add (i.toNat * 12)).off + 8, none⟩ = some (.slice A8 x.f4.f4.length c8) ∧ w.cell? (bd.add (i.toNat * 12)) = some (.int .i64 y.f0) ∧ w.cell? ⟨(bd.add (i.toNat * 12)).block, (bd.add (i.toNat * 12)).off + 1, none⟩ = some (.string y.f1) ∧ w.cell? ⟨(bd.add (i.toNat * 12)).block, (bd.add (i.toNat * 12)).off + 2, none⟩ = some (.string y.f2) ∧ w.cell? ⟨(bd.add (i.toNat * 12)).block, (bd.add (i.toNat * 12)).off + 3, none⟩ = some (.string y.f3) ∧ w.cell? ⟨(bd.add (i.toNat * 12)).block, (bd.add (i.toNat * 12)).off + 4, none⟩ = some (.int .i64 y.f4.f0) ∧ w.cell? ⟨(bd.add (i.toNat * 12)).block, (bd.add (i.toNat * 12)).off + 5, none⟩ = some (.int .i64 y.f4.f1) ∧ w.cell? ⟨(bd.add (i.toNat * 12)).block, (bd.add (i.toNat * 12)).off + 6, none⟩ = some (.int .i64 y.f4.f2) ∧ w.cell? ⟨(bd.add (i.toNat * 12)).block, (bd.add (i.toNat * 12)).off + 7, none⟩ = some (.string y.f4.f3) ∧ w.cell? ⟨(bd.add (i.toNat * 12)).block, (bd.add (i.toNat * 12)).off + 8, none⟩ = some (.slice B8 y.f4.f4.length d8))
            (first | exact ⟨x0, x1, x2, x3, x4, x5, x6, x7, x8, y0, y1, y2, y3, y4, y5, y6, y7, y8⟩ | exact ⟨pw_cell_below hb1 x0, pw_cell_below hb1 x1, pw_cell_below hb1 x2, pw_cell_below hb1 x3, pw_cell_below hb1 x4, pw_cell_below hb1 x5, pw_cell_below hb1 x6, pw_cell_below hb1 x7, pw_cell_below hb1 x8, pw_cell_below hb1 y0, pw_cell_below hb1 y1, pw_cell_below hb1 y2, pw_cell_below hb1 y3, pw_cell_below hb1 y4, pw_cell_below hb1 y5, pw_cell_below hb1 y6, pw_cell_below hb1 y7, pw_cell_below hb1 y8⟩)
            ((go_at_call 50; refine HS4.out.mono ?_; rintro e w1 ⟨rfl, hb1⟩))
          have HB6 := Lib.hid (show Below W.heap.size W w1 from HW.out.trans (((below_drew (Below.refl _ _)).trans hb1).mono HW.out.size))
          clear hb1 x0 x1 x2 x3 x4 x5 x6 x7 x8 y0 y1 y2 y3 y4 y5 y6 y7 y8 HS4 n0 n1 n2 n3 hk1 hk2 hk3
          cases s4
          · have HV := Lib.hid (show q = false from HS.out)
            clear HS
            go_wp2
            go_ret
            exact ⟨by rw [HV.out]; rfl, HB6.out⟩
          · have HV := Lib.hid (show q = sameEL (l.drop (i + 1).toNat) (m.drop (i + 1).toNat) from HS.out)
            clear HS
            go_wp2
            go_roundw
            case rel => exact ⟨i + 1, rfl, by omega, by omega, HV.out, HB6.out⟩
            case measure => simp [intOf]; omega
        all_goals
          have HV := Lib.hid (show q = false from by rw [HS.out]; rfl)
          simp only [Bool.not_true, Bool.not_false] at n0 n1 n2 n3
          clear HS HS4
          go_quiet (fail)
          go_wp2
          go_ret
          exact ⟨by rw [HV.out]; rfl, pw_below_drewN HW.out _⟩
      · have HV := Lib.hid (show q = true from by rw [HI.out]; exact sameEL_end _ _ HLM.out _ hlt)
        have hge : (l.length : Int) ≤ i := by omega
        clear hlt
        go_wp2
        go_ret
        exact ⟨by rw [HV.out]; rfl, HW.out⟩
  · have g4 : ((l.length : Int) != (m.length : Int)) = true := by rw [bne_iff_ne]; omega
    have HV := Lib.hid (show q = false from by rw [HD.out]; exact sameEL_len l m hl)
    clear HD hl
    go_wp2
    go_ret
    exact ⟨by rw [HV.out]; rfl, HB.out⟩
end Go.Proofs.Ytofinglgnkdflaa
