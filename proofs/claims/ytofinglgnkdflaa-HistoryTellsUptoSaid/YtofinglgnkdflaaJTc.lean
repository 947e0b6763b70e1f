/- Layer 7: history.Preds. -/
import Derived.Test.YtofinglgnkdflaaJTb
import Derived.Test.YtofinglgnkdflaaJXG
namespace Go.Proofs.Ytofinglgnkdflaa
open Go.RowKit
open Go.Proofs.Ytofinglgnkdflaa.PHistoryChecks Go.Proofs.YtofinglgnkdflaaW.PrintWords Go.Proofs.YtofinglgnkdflaaW.PrintLast Go.Proofs.YtofinglgnkdflaaW.PrintMore
set_option linter.unusedVariables false
set_option linter.unusedSimpArgs false
theorem info67 : (Try.prog.info? 67).map (fun i => (i.zero, i.size, i.bytes)) = some (some (.slice none 0 0), 1, 24) := by kernel_rfl
theorem under61 : Try.prog.underlying 61 = some (.slice 67) := by kernel_rfl
def predsF (P : PastL) : Option (List (List Int)) := if (eventsF P).isSome then some (predR P.cl P.cl.length) else none
def PredsP (o : Option (List (List Int))) (W : World) (e : Ending) (w' : World) : Prop :=
  Below W.heap.size W w' ∧ match o with
    | none => e = .returned (.tuple #[.slice none 0 0, .int .i64 2])
    | some xs => ∃ v, e = .returned (.tuple #[v, .int .i64 0]) ∧ rowK.R 67 w' W.heap.size (fun _ => True) v xs
theorem row_of_own {w : World} {base h cap : Nat} {ws : List Nat} {ok : Nat → Prop} (ho : w.ownsRow base 58 1 (.slice (some ⟨h, 0, none⟩) ws.length cap) ws.length (Bt.u64s ws)) (hok : ok h) :
    (Kd.int .u64).R 58 w base ok (.slice (some ⟨h, 0, none⟩) (intsOf ws).length cap) (intsOf ws) := by
  have hl : (intsOf ws).length = ws.length := by simp [intsOf]
  refine ⟨fun k hk => ?_, Bt.u64s ws, ?_, ?_, ?_⟩
  · have : h = k := by simpa [Value.ownBlock] using hk
    exact this ▸ hok
  · rw [hl]; exact ho
  · rw [hl]; show _ = _ * 1; simp [Bt.u64s]
  · intro j p hp
    simp only [intsOf, List.getElem?_map, Option.map_eq_some_iff] at hp
    obtain ⟨x, hx, rfl⟩ := hp
    have hj := (List.getElem?_eq_some_iff.1 hx).1
    show _ = [Value.int .u64 (x : Int)]
    show ((Bt.u64s ws).drop (j * 1)).take 1 = _
    rw [Nat.mul_one, List.drop_eq_getElem_cons (by simp [Bt.u64s]; exact hj)]
    simp [Bt.u64s, (List.getElem?_eq_some_iff.1 hx).2]
theorem predsP_bad {P : PastL} {W w' : World} (h : (eventsF P).isSome = false) (hb : Below W.heap.size W w') : PredsP (predsF P) W (.returned (.tuple #[.slice none 0 0, .int .i64 2])) w' := ⟨hb, by unfold predsF; rw [h]; rfl⟩
theorem predsP_good {P : PastL} {W w' : World} {v : Value} {ok : Nat → Prop} (h : (eventsF P).isSome = true) (hb : Below W.heap.size W w') (hR : rowK.R 67 w' W.heap.size ok v (predR P.cl P.cl.length)) : PredsP (predsF P) W (.returned (.tuple #[v, .int .i64 0])) w' :=
  ⟨hb, by unfold predsF; rw [h]; exact ⟨v, rfl, Kd.R_mono hR (fun _ _ => trivial)⟩⟩
theorem box_cells {w : World} {b : Nat} {P : PastL} {a1 : Option Addr} {c1 : Nat} {a2 : Option Addr} {c2 : Nat} {a3 : Option Addr} {c3 : Nat} (h : w.heap[b]? = some (.cells #[.slice a1 P.pr.length c1, .slice a2 P.ob.length c2, .slice a3 P.cl.length c3] 30 (0, 0))) :
    w.cell? ⟨b, 0, none⟩ = some (.slice a1 P.pr.length c1) ∧ w.cell? ⟨b, 1, none⟩ = some (.slice a2 P.ob.length c2) ∧ w.cell? ⟨b, 2, none⟩ = some (.slice a3 P.cl.length c3) :=
  ⟨(blk_cell h 0).trans rfl, (blk_cell h 1).trans rfl, (blk_cell h 2).trans rfl⟩
set_option maxHeartbeats 8000000 in
set_option maxRecDepth 100000 in
theorem Preds_any (W : World) (P : PastL) (R : Rw3) (hR : RdP W P R) (hl : P.cl.length ≤ 500000) (hE : ∀ xs, eventsL P = some xs → ∀ e ∈ xs, okE e ∧ nd e.f4 ≤ 1000000) (hc : (eventsF P).isSome = true → P.cl.length ≤ 4096) :
    Calls Try.prog 30 #[.agg (cP P R)] W (PredsP (predsF P) W) := by
  have HCK := Lib.hid (fun W1 (h : Below W.heap.size W W1) => Checkp_any W1 P R (hR.below h) hl hE)
  have HBF := Lib.hid (fun W1 (h : Below W.heap.size W W1) a b => Before_any W1 P R a b (hR.below h))
  have h3 := Lib.hid hR.cl
  obtain ⟨ok, hok⟩ : ∃ b, b = (eventsF P).isSome := ⟨_, rfl⟩
  have HOK := Lib.hid hok
  rw [← hok] at HCK
  obtain ⟨a1, c1, a2, c2, a3, c3⟩ := R
  have HB0 := Lib.hid (below_alloc (Below.refl W.heap.size W) (.cells (cP P ⟨a1, c1, a2, c2, a3, c3⟩) 30))
  have hbx := Lib.hid (heap_alloc_new W (.cells (cP P ⟨a1, c1, a2, c2, a3, c3⟩) 30))
  unfold cP at HB0 HCK HBF hbx ⊢
  have HC := Lib.hid hc
  clear hR hE hok hc
  go_enter Try.func30, Try.ntmps30
  go_wp2_with fail
  refine (HCK.out _ HB0.out).mono ?_
  rintro e w1 ⟨rfl, hw1⟩
  have HB1 := Lib.hid (HB0.out.trans (hw1.mono HB0.out.size))
  have HX1 := Lib.hid ((hw1.block _ (blk_lt hbx.out)).trans hbx.out)
  obtain ⟨q0, q1, q2⟩ := box_cells HX1.out
  clear hw1 HCK hbx HB0
  cases ok
  · have HNO := Lib.hid HOK.out.symm
    go_wp2
    go_ret2
    exact predsP_bad HNO.out HB1.out
  · have HYE := Lib.hid HOK.out.symm
    have hn := HC.out HYE.out
    have hwb : W.heap.size < w1.heap.size := blk_lt HX1.out
    clear HOK HC
    go_wp2
    go_loopw [15, 4, 5, 6, 7, 8, 26] (fun kv ov bv sv ev av jv wr => ∃ (i : Int) (A : Option Addr) (c : Nat), kv = .int .i64 i ∧ ov = .slice A (predR P.cl i.toNat).length c ∧ 0 ≤ i ∧ i ≤ (P.cl.length : Int) ∧ Hid (rowK.R 67 wr w1.heap.size (fun k => w1.heap.size ≤ k) (.slice A (predR P.cl i.toNat).length c) (predR P.cl i.toNat)) ∧ Hid (Below w1.heap.size w1 wr)) (fun k _ _ _ _ _ _ _ => P.cl.length - (intOf k).toNat)
    case atStart => exact ⟨0, none, 0, rfl, rfl, by omega, by omega, Kd.R_nil _ _ _ _ _, Below.refl _ _⟩
    case round =>
      obtain ⟨i, A, c, rfl, rfl, hi0, hi1, HR, HB⟩ := hrel
      obtain ⟨wo, rfl⟩ : ∃ wo : World, wo = wr := ⟨_, rfl⟩
      have HX := Lib.hid ((HB.out.block _ hwb).trans HX1.out)
      have HBW := Lib.hid (HB1.out.trans (HB.out.mono HB1.out.size))
      obtain ⟨q0, q1, q2⟩ := box_cells HX.out
      have hwo : W.heap.size < wo.heap.size := blk_lt HX.out
      by_cases hlt : i < (P.cl.length : Int)
      · have HNEW := Lib.hid (Bt.New_ok wo P.cl.length hn)
        obtain ⟨m, hm⟩ : ∃ m, m = (P.cl.length + 63) / 64 := ⟨_, rfl⟩
        have HM := Lib.hid hm
        rw [← hm] at HNEW
        have HSN := Lib.hid (predR_snoc P.cl i hi0)
        rw [← hm] at HSN
        have HLT := Lib.hid (fun k (hk : (Value.slice A (predR P.cl i.toNat).length c).ownBlock = some k) => Kd.R_lt HR.out k hk)
        have hpl : (predR P.cl i.toNat).length = i.toNat := predR_length _ _
        have HPL := Lib.hid hpl
        clear hm hpl
        go_wp2_with fail
        refine HNEW.out.mono ?_
        rintro e w2 ⟨g, h, rfl, hs, hg, hh, hb2⟩
        have HS0 := Lib.hid (show Bt.IsSet w2 g h P.cl.length (rowN P.cl i m (0 : Int).toNat) from hs)
        have HB2 := Lib.hid hb2
        clear hs hb2 HNEW q0 q1 q2
        go_wp2
        go_loopw [26, 8] (fun jv av wr => ∃ a : Int, jv = .int .i64 a ∧ 0 ≤ a ∧ a ≤ i ∧ Hid (Bt.IsSet wr g h P.cl.length (rowN P.cl i m a.toNat)) ∧ Hid (Below wo.heap.size wo wr)) (fun jv _ _ => i.toNat - (intOf jv).toNat)
        case atStart => exact ⟨0, rfl, by omega, by omega, HS0.out, HB2.out⟩
        case round =>
          obtain ⟨a, rfl, ha0, ha1, HS, HBI⟩ := hrel
          have HXI := Lib.hid ((HBI.out.block _ hwo).trans HX.out)
          have HBJ := Lib.hid (HBW.out.trans (HBI.out.mono HBW.out.size))
          obtain ⟨q0, q1, q2⟩ := box_cells HXI.out
          by_cases hla : a < i
          · have hst := rowN_step P.cl i m a ha0
            obtain ⟨r, hr⟩ : ∃ r, r = befB P.cl a i := ⟨_, rfl⟩
            have HBA := Lib.hid (HBF.out wr HBJ.out a i)
            rw [← hr] at hst HBA
            have HST := Lib.hid hst
            clear hst hr
            go_wp2_with fail
            refine HBA.out.mono ?_
            rintro e w3 ⟨rfl, hw3⟩
            have HS3 := Lib.hid (HS.out.below hw3 HS.out.lt.1 HS.out.lt.2.1)
            have HB3 := Lib.hid (HBI.out.trans (hw3.mono HBI.out.size))
            clear hw3 q0 q1 q2 HBA
            cases r
            · go_wp2
              go_roundw
              case rel => exact ⟨a + 1, rfl, by omega, by omega, by rw [HST.out]; exact HS3.out, HB3.out⟩
              case measure => simp [intOf]; omega
            · have HPUT := Lib.hid (Bt.Put_set HS3.out a ha0 (by omega))
              go_wp2_with fail
              refine HPUT.out.mono ?_
              rintro e w4 ⟨rfl, hs4, hg4⟩
              have HS4 := Lib.hid hs4
              have HB4 := Lib.hid (HB3.out.grown hg4 HB3.out.size (fun k hk => by cases hk; exact hh))
              clear hs4 hg4 HPUT
              go_wp2
              go_roundw
              case rel => exact ⟨a + 1, rfl, by omega, by omega, by rw [HST.out]; exact HS4.out, HB4.out⟩
              case measure => simp [intOf]; omega
          · obtain rfl : a = i := by omega
            have HWD := Lib.hid (Bt.Words_set HS.out)
            have HRL := Lib.hid (rowN_length P.cl a m a.toNat)
            clear hla q0 q1 q2
            go_wp2_with fail
            refine HWD.out.mono ?_
            rintro e w5 ⟨k, cap, rfl, ho, hb5⟩
            have HRW := Lib.hid (row_of_own (ok := fun b => wr.heap.size ≤ b) ho (own_base ho k rfl))
            have HB5 := Lib.hid (HBI.out.trans (hb5.mono HBI.out.size))
            have HB6 := Lib.hid (HB.out.trans (HB5.out.mono HB.out.size))
            have HBK := Lib.hid (HB.out.trans (HBI.out.mono HB.out.size))
            have HR5 := Lib.hid (Kd.R_below HR.out HB5.out)
            have hl1 : (intsOf (rowN P.cl a m a.toNat)).length = (rowN P.cl a m a.toNat).length := by simp [intsOf]
            rw [hl1] at HRW
            have HRM := Lib.hid (Kd.R_lower HRW.out HBK.out.size)
            clear ho hb5 HWD hl1
            go_wp2_with (at_builtin; (refine Kd.R_append (w0 := w1) rowK w1.heap.size rfl _ _ 61 67 _ 24 rfl under61 info67 rfl (by decide) (by decide) (.slice A (predR P.cl a.toNat).length c) (predR P.cl a.toNat) (intsOf (rowN P.cl a m a.toNat)) [.slice (some ⟨k, 0, none⟩) (rowN P.cl a m a.toNat).length cap] (fun b => w1.heap.size ≤ b) (fun b => wr.heap.size ≤ b) rfl rfl (Kd.M_row HRM.out) (fun b hb => ⟨Nat.le_trans HBK.out.size hb, fun he => by have h1 := HLT.out b he.symm; have h2 := HBI.out.size; omega⟩) (fun b hb => Nat.le_trans HB6.out.size hb) HR5.out HB6.out HB6.out.size (by have := HPL.out; omega) ?_; intro v1 w6 hR6 hb6 hg6 hat6; obtain ⟨A1, k1, rfl⟩ := Kd.R_slice hR6; have HR6 := Lib.hid hR6; have HB7 := Lib.hid hb6; clear hR6 hb6 hg6 hat6))
            go_roundw
            case rel => exact ⟨a + 1, A1, k1, rfl, by rw [HSN.out]; simp, by omega, by omega, by rw [HSN.out]; exact HR6.out, HB7.out⟩
            case measure => simp [intOf]; omega
      · have hie : i = (P.cl.length : Int) := by omega
        subst hie
        clear hlt
        go_wp2
        go_ret2
        have hR := Kd.R_lower HR.out HB1.out.size
        exact predsP_good HYE.out HBW.out hR
end Go.Proofs.Ytofinglgnkdflaa
