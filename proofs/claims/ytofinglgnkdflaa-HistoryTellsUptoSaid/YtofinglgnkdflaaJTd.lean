/- Layer 7: Preds of the reference. -/
import Derived.Test.YtofinglgnkdflaaJTc
import Derived.Test.YtofinglgnkdflaaJQt
namespace Go.Proofs.Ytofinglgnkdflaa
open Go.RowKit
open Go.Proofs.Ytofinglgnkdflaa.PHistoryChecks Go.Proofs.YtofinglgnkdflaaW.PrintWords Go.Proofs.YtofinglgnkdflaaW.PrintLast Go.Proofs.YtofinglgnkdflaaW.PrintMore
set_option linter.unusedVariables false
set_option linter.unusedSimpArgs false
def WordR (w : World) (g : Nat) (ws : List Nat) : Prop := w.heap[g]? = some (.cells (Bt.u64s ws).toArray 58 (0, 0))
section
variable {w w1 : World} {g base : Nat} {ws : List Nat}
theorem WordR.cell (h : WordR w g ws) (j : Nat) (hj : j < ws.length) : w.cell? ⟨g, j, none⟩ = some (.int .u64 (Bt.wd ws j)) := by
  refine (blk_cell h j).trans ?_
  unfold Bt.u64s Bt.wd
  rw [List.getElem?_toArray, List.getElem?_map, List.getElem?_eq_getElem hj, List.getD_eq_getElem?_getD, List.getElem?_eq_getElem hj]; rfl
theorem WordR.set (h : WordR w g ws) (j x : Nat) : WordR (w.setCell ⟨g, j, none⟩ (.int .u64 x)) g (ws.set j x) := by
  have := blk_set h j (.int .u64 x)
  unfold WordR Bt.u64s at *
  rw [this, List.map_set]
  simp
theorem WordR.below (h : WordR w g ws) (hb : Below w.heap.size w w1) : WordR w1 g ws := (hb.block g (blk_lt h)).trans h
theorem WordR.own (h : WordR w g ws) (hb : base ≤ g) (hm : ws.length ≤ maxLen) : w.ownsRow base 58 1 (.slice (some ⟨g, 0, none⟩) ws.length ws.length) ws.length (Bt.u64s ws) :=
  ⟨by simp [Bt.u64s], .inr ⟨g, ws.length, _, rfl, hb, h, Nat.le_refl _, hm, by simp [Bt.u64s], (by simp only [Nat.mul_one]; exact List.take_of_length_le (by simp [Bt.u64s]))⟩⟩
theorem WordR.made (w : World) (n : Nat) : WordR (w.alloc (.cells (Bt.u64s (List.replicate n 0)).toArray 58)) w.heap.size (List.replicate n 0) := heap_alloc_new w _
end
def rpredsF (P : PastL) : Option (List (List Int)) := if (eventsF P).isSome then some (predQ P.cl P.cl.length) else none
theorem rpredsP_bad {P : PastL} {W w' : World} (h : (eventsF P).isSome = false) (hb : Below W.heap.size W w') : PredsP (rpredsF P) W (.returned (.tuple #[.slice none 0 0, .int .i64 2])) w' := ⟨hb, by unfold rpredsF; rw [h]; rfl⟩
theorem rpredsP_good {P : PastL} {W w' : World} {v : Value} {ok : Nat → Prop} (h : (eventsF P).isSome = true) (hb : Below W.heap.size W w') (hR : rowK.R 67 w' W.heap.size ok v (predQ P.cl P.cl.length)) : PredsP (rpredsF P) W (.returned (.tuple #[v, .int .i64 0])) w' :=
  ⟨hb, by unfold rpredsF; rw [h]; exact ⟨v, rfl, Kd.R_mono hR (fun _ _ => trivial)⟩⟩
set_option maxHeartbeats 8000000 in
set_option maxRecDepth 100000 in
theorem RPreds_any (W : World) (P : PastL) (R : Rw3) (hR : RdP W P R) (hl : P.cl.length ≤ 250000) (hE : ∀ xs, eventsL P = some xs → ∀ e ∈ xs, okE2 e) :
    Calls Try.prog 31 #[.agg (cP P R)] W (PredsP (rpredsF P) W) := by
  have HCK := Lib.hid (fun W1 (h : Below W.heap.size W W1) => rCheck_any W1 P R (hR.below h) hl hE)
  have HBF := Lib.hid (fun W1 (h : Below W.heap.size W W1) a b => RBefore_any W1 P R a b (hR.below h))
  obtain ⟨i0, hi, hz0, hz1, hz2⟩ := info_parts Bt.info58
  obtain ⟨m, hm⟩ : ∃ m, m = (P.cl.length + 63) / 64 := ⟨_, rfl⟩
  have HM := Lib.hid hm
  have HMK := Lib.hid (fun w => run_make (P := Try.prog) w 67 58 i0 (.int .u64 0) Try.underlying67 hi hz0 .i64 .i64 (((P.cl.length : Int) + 63) / 64) (((P.cl.length : Int) + 63) / 64) (by omega) (by omega) (by rw [hz2]; omega) (by omega))
  have h3 := Lib.hid hR.cl
  obtain ⟨ok, hok⟩ : ∃ b, b = (eventsF P).isSome := ⟨_, rfl⟩
  have HOK := Lib.hid hok
  unfold evC at HCK
  rw [← hok] at HCK
  obtain ⟨a1, c1, a2, c2, a3, c3⟩ := R
  have HB0 := Lib.hid (below_alloc (Below.refl W.heap.size W) (.cells (cP P ⟨a1, c1, a2, c2, a3, c3⟩) 30))
  have hbx := Lib.hid (heap_alloc_new W (.cells (cP P ⟨a1, c1, a2, c2, a3, c3⟩) 30))
  unfold cP at HB0 HCK HBF hbx ⊢
  simp only [hz1, show (((P.cl.length : Int) + 63) / 64).toNat = m from by omega, Bt.made_words] at HMK
  have hmi : ((P.cl.length : Int) + 63) / 64 = (m : Int) := by omega
  have HMI := Lib.hid hmi
  rw [hmi] at HMK
  clear hR hE hok hm hz0 hz1 hz2 hi hmi
  go_enter Try.func31, Try.ntmps31
  go_wp2_with fail
  refine (HCK.out _ HB0.out).mono ?_
  rintro e w1 ⟨rfl, hw1⟩
  have HB1 := Lib.hid (HB0.out.trans (hw1.mono HB0.out.size))
  have HX1 := Lib.hid ((hw1.block _ (blk_lt hbx.out)).trans hbx.out)
  obtain ⟨q0, q1, q2⟩ := box_cells HX1.out
  clear hw1 HCK hbx HB0
  cases ok
  · have HNO := Lib.hid HOK.out.symm
    go_wp2
    go_ret2
    exact rpredsP_bad HNO.out HB1.out
  · have HYE := Lib.hid HOK.out.symm
    have hwb : W.heap.size < w1.heap.size := blk_lt HX1.out
    clear HOK
    go_wp2
    go_loopw [6, 5, 7, 8] (fun kv ov wv av wr => ∃ (i : Int) (A : Option Addr) (c : Nat), kv = .int .i64 i ∧ ov = .slice A (predQ P.cl i.toNat).length c ∧ 0 ≤ i ∧ i ≤ (P.cl.length : Int) ∧ Hid (rowK.R 67 wr w1.heap.size (fun k => w1.heap.size ≤ k) (.slice A (predQ P.cl i.toNat).length c) (predQ P.cl i.toNat)) ∧ Hid (Below w1.heap.size w1 wr)) (fun k _ _ _ _ => P.cl.length - (intOf k).toNat)
    case atStart => exact ⟨0, none, 0, rfl, rfl, by omega, by omega, Kd.R_nil _ _ _ _ _, Below.refl _ _⟩
    case round =>
      obtain ⟨i, A, c, rfl, rfl, hi0, hi1, HR, HB⟩ := hrel
      obtain ⟨wo, rfl⟩ : ∃ wo : World, wo = wr := ⟨_, rfl⟩
      have HX := Lib.hid ((HB.out.block _ hwb).trans HX1.out)
      have HBW := Lib.hid (HB1.out.trans (HB.out.mono HB1.out.size))
      have hwo : W.heap.size < wo.heap.size := blk_lt HX.out
      by_cases hlt : i < (P.cl.length : Int)
      · have hmk := HMK.out wo
        have HSN := Lib.hid (predQ_snoc P.cl i hi0)
        rw [← HM.out] at HSN
        have HLT := Lib.hid (fun k (hk : (Value.slice A (predQ P.cl i.toNat).length c).ownBlock = some k) => Kd.R_lt HR.out k hk)
        have hpl : (predQ P.cl i.toNat).length = i.toNat := predQ_length _ _
        have HPL := Lib.hid hpl
        have hmi := HMI.out
        have HS0 := Lib.hid (show WordR (wo.alloc (.cells (Bt.u64s (List.replicate m 0)).toArray 58)) wo.heap.size (rowN P.cl i m (0 : Int).toNat) from WordR.made wo m)
        have HB2 := Lib.hid (below_alloc (Below.refl wo.heap.size wo) (.cells (Bt.u64s (List.replicate m 0)).toArray 58))
        have hml : m ≤ 4000 := by omega
        clear hpl
        go_wp2
        obtain ⟨g, hg⟩ : ∃ g, g = wo.heap.size := ⟨_, rfl⟩
        rw [← hg] at HS0 ⊢
        have HG := Lib.hid hg
        clear hg hmk hmi
        go_loopw [8] (fun jv wr => ∃ a : Int, jv = .int .i64 a ∧ 0 ≤ a ∧ a ≤ (P.cl.length : Int) ∧ Hid (WordR wr g (rowN P.cl i m a.toNat)) ∧ Hid (Below wo.heap.size wo wr)) (fun jv _ => P.cl.length - (intOf jv).toNat)
        case atStart => exact ⟨0, rfl, by omega, by omega, HS0.out, HB2.out⟩
        case round =>
          obtain ⟨a, rfl, ha0, ha1, HS, HBI⟩ := hrel
          have HXI := Lib.hid ((HBI.out.block _ hwo).trans HX.out)
          have HBJ := Lib.hid (HBW.out.trans (HBI.out.mono HBW.out.size))
          obtain ⟨q0, q1, q2⟩ := box_cells HXI.out
          by_cases hla : a < (P.cl.length : Int)
          · have hst := rowN_step P.cl i m a ha0
            obtain ⟨r, hr⟩ : ∃ r, r = befB P.cl a i := ⟨_, rfl⟩
            have HBA := Lib.hid (HBF.out wr HBJ.out a i)
            rw [← hr] at hst HBA
            have HST := Lib.hid hst
            clear hst hr
            go_wp2_with fail
            refine HBA.out.mono ?_
            rintro e w3 ⟨rfl, hw3⟩
            have HS3 := Lib.hid (HS.out.below hw3)
            have HB3 := Lib.hid (HBI.out.trans (hw3.mono HBI.out.size))
            clear hw3 q0 q1 q2 HBA
            cases r
            · go_wp2
              go_roundw
              case rel => exact ⟨a + 1, rfl, by omega, by omega, by rw [HST.out]; exact HS3.out, HB3.out⟩
              case measure => simp [intOf]; omega
            · obtain ⟨a, rfl⟩ := Int.eq_ofNat_of_zero_le ha0
              rw [Int.toNat_natCast] at HS3 HST
              have hlen := rowN_length P.cl i m a
              have hj : a / 64 < (rowN P.cl i m a).length := by have := HM.out; omega
              have hlt' := wd_lt (rowN_lt P.cl i m a) (a / 64)
              have hc := HS3.out.cell (a / 64) hj
              have hf := blk_frozen HS3.out (a / 64)
              have HS4 := Lib.hid (HS3.out.set (a / 64) (Bt.wd (rowN P.cl i m a) (a / 64) ||| Bt.bitOf a))
              have hb := Lib.hid (u64_or_nat (Bt.wd (rowN P.cl i m a) (a / 64)) (Bt.bitOf a) hlt' (Bt.bitOf_lt a))
              have hjm : a / 64 < m := by omega
              clear hlen hj hlt'
              go_wp2
              go_roundw
              case rel =>
                have hgo := HG.out
                have hos := HB3.out.size
                rw [Bt.wrap_bit, hb.out]
                exact ⟨a + 1, rfl, by omega, by omega, by rw [HST.out]; exact HS4.out, HB3.out.setCell (p := ⟨g, a / 64, none⟩) (by show wo.heap.size ≤ g; omega) _⟩
              case measure => simp [intOf]; omega
          · obtain rfl : a = (P.cl.length : Int) := by omega
            have HRL := Lib.hid (rowN_length P.cl i m P.cl.length)
            have hrl := HRL.out
            have HOW := HS.out
            rw [Int.toNat_natCast] at HOW
            have HRW := Lib.hid (row_of_own (ok := fun b => wo.heap.size ≤ b) (HOW.own (base := w1.heap.size) (by have := HG.out; have := HB.out.size; omega) (by rw [hrl]; simp [maxLen]; omega)) (by rw [HG.out]; exact Nat.le_refl _))
            have HB5 := Lib.hid (HB.out.trans (HBI.out.mono HB.out.size))
            have HR5 := Lib.hid (Kd.R_below HR.out HBI.out)
            have hl1 : (intsOf (rowN P.cl i m P.cl.length)).length = m := by simp [intsOf, hrl]
            rw [hl1] at HRW
            rw [hrl] at HRW
            clear hl1 hrl HOW hla
            go_wp2_with (at_builtin; (refine Kd.R_append (w0 := w1) rowK w1.heap.size rfl _ _ 61 67 _ 24 rfl under61 info67 rfl (by decide) (by decide) (.slice A (predQ P.cl i.toNat).length c) (predQ P.cl i.toNat) (intsOf (rowN P.cl i m P.cl.length)) [.slice (some ⟨g, 0, none⟩) m m] (fun b => w1.heap.size ≤ b) (fun b => wo.heap.size ≤ b) rfl rfl (Kd.M_row HRW.out) (fun b hb => ⟨Nat.le_trans HB.out.size hb, fun he => by have h1 := HLT.out b he.symm; omega⟩) (fun b hb => Nat.le_trans HB5.out.size hb) HR5.out HB5.out HB5.out.size (by have := HPL.out; omega) ?_; intro v1 w6 hR6 hb6 hg6 hat6; obtain ⟨A1, k1, rfl⟩ := Kd.R_slice hR6; have HR6 := Lib.hid hR6; have HB7 := Lib.hid hb6; clear hR6 hb6 hg6 hat6))
            go_roundw
            case rel => exact ⟨i + 1, A1, k1, rfl, by rw [HSN.out]; simp, by omega, by omega, by rw [HSN.out]; exact HR6.out, HB7.out⟩
            case measure => simp [intOf]; omega
      · have hie : i = (P.cl.length : Int) := by omega
        subst hie
        obtain ⟨q0, q1, q2⟩ := box_cells HX.out
        clear hlt
        go_wp2
        go_ret2
        have hR := Kd.R_lower HR.out HB1.out.size
        exact rpredsP_good HYE.out HBW.out hR
end Go.Proofs.Ytofinglgnkdflaa
