/- Layer 7: the law of what Make makes. -/
import Derived.Test.YtofinglgnkdflaaKUa
import Derived.Test.YtofinglgnkdflaaKUb
import Derived.Test.YtofinglgnkdflaaKUc
import Derived.Test.YtofinglgnkdflaaKQp
import Derived.Test.YtofinglgnkdflaaKQq
import Derived.Test.YtofinglgnkdflaaKQn
import Derived.Test.YtofinglgnkdflaaKHd
import Derived.Test.YtofinglgnkdflaaKTc
namespace Go.Proofs.Ytofinglgnkdflaa
open Go.RowKit
open Go.Proofs.Ytofinglgnkdflaa.PHistoryChecks Go.Proofs.YtofinglgnkdflaaW.PrintWords Go.Proofs.YtofinglgnkdflaaW.PrintLast Go.Proofs.YtofinglgnkdflaaW.PrintMore
set_option linter.unusedVariables false
set_option linter.unusedSimpArgs false
theorem clean_okE {e : S47} (h : okE e ∧ nd e.f4 ≤ 1000000) : okE (clean e) ∧ nd (clean e).f4 ≤ 1000000 := by
  unfold clean
  split
  · exact ⟨⟨h.1.1, h.1.2.1, h.1.2.2.1, h.1.2.2.2⟩, h.2⟩
  · exact ⟨⟨h.1.1, by show (0 : Nat) ≤ _; omega, by show (0 : Nat) ≤ _; omega, h.1.2.2.2⟩, h.2⟩
theorem clean_at (e : S47) : (clean e).f5 = z45 := by unfold clean; split <;> rfl
theorem back_at {w wT : World} {base g n : Nat} {E : List S47} (h : Blk 12 47 w g n n (fun j c => ∃ x, (E.map clean)[j]? = some x ∧ ∃ v8, c = [.int .i64 x.f0, .string x.f1, .string x.f2, .string x.f3, .int .i64 x.f4.f0, .int .i64 x.f4.f1, .int .i64 x.f4.f2, .string x.f4.f3, v8, .int .i64 x.f5.f0, .int .i64 x.f5.f1, .int .i64 x.f5.f2] ∧ ∃ m, TreeT wT base wT.heap.size m v8)) (j : Nat) (hj : j < n) :
    ∃ (a b i : Int) (s : ByteArray) (v : Value) (m : Nat), TreeT wT base wT.heap.size m v ∧ w.cell? ⟨g, j * 12 + 4, none⟩ = some (.int .i64 a) ∧ w.cell? ⟨g, j * 12 + 5, none⟩ = some (.int .i64 b) ∧ w.cell? ⟨g, j * 12 + 6, none⟩ = some (.int .i64 i) ∧ w.cell? ⟨g, j * 12 + 7, none⟩ = some (.string s) ∧ w.cell? ⟨g, j * 12 + 8, none⟩ = some v ∧
      w.cell? ⟨g, j * 12 + 9, none⟩ = some (.int .i64 0) ∧ w.cell? ⟨g, j * 12 + 10, none⟩ = some (.int .i64 0) ∧ w.cell? ⟨g, j * 12 + 11, none⟩ = some (.int .i64 0) := by
  obtain ⟨c, _, hc, x, hx, v8, rfl, m, hT⟩ := h.at j hj
  rw [List.getElem?_map, Option.map_eq_some_iff] at hx
  obtain ⟨e, _, rfl⟩ := hx
  have h5 := clean_at e
  have c9 := hc 9 _ rfl
  have c10 := hc 10 _ rfl
  have c11 := hc 11 _ rfl
  rw [h5] at c9 c10 c11
  exact ⟨_, _, _, _, v8, m, hT, hc 4 _ rfl, hc 5 _ rfl, hc 6 _ rfl, hc 7 _ rfl, hc 8 _ rfl, c9, c10, c11⟩
theorem back_blk {w : World} {base g n : Nat} {ok : Nat → Prop} {xs : List S47} (h : k47.R 47 w base ok (.slice (some ⟨g, 0, none⟩) n n) xs) :
    Blk 12 47 w g n n (fun j c => ∃ x, xs[j]? = some x ∧ ∃ v8, c = [.int .i64 x.f0, .string x.f1, .string x.f2, .string x.f3, .int .i64 x.f4.f0, .int .i64 x.f4.f1, .int .i64 x.f4.f2, .string x.f4.f3, v8, .int .i64 x.f5.f0, .int .i64 x.f5.f1, .int .i64 x.f5.f2] ∧ ∃ m, TreeT w base w.heap.size m v8) := by
  obtain ⟨_, _, _, hB⟩ := blk_of_R h
  refine Blk.imp hB fun j c hj ⟨x, hx, hM⟩ => ?_
  obtain ⟨v8, rfl, hR⟩ := k47_openM hM
  exact ⟨x, hx, v8, rfl, tree_own hR⟩
def CallC (w : World) (base : Nat) (c : List Value) : Prop :=
  ∃ (f0 f1 f4 f5 a b i a2 b2 i2 : Int) (f2 s s2 : ByteArray) (v v2 : Value) (m m2 : Nat), TreeT w base w.heap.size m v ∧ TreeT w base w.heap.size m2 v2 ∧ c = [.int .i64 f0, .int .i64 f1, .string f2, .int .i64 a, .int .i64 b, .int .i64 i, .string s, v, .int .i64 f4, .int .i64 f5, .int .i64 a2, .int .i64 b2, .int .i64 i2, .string s2, v2]
theorem calls_blk {w : World} {base g n c : Nat} {ok : Nat → Prop} {xs : List S50} (h : k50.R 50 w base ok (.slice (some ⟨g, 0, none⟩) n c) xs) : base ≤ g ∧ Blk 15 50 w g n c (fun j c => CallC w base c) := by
  obtain ⟨_, hb, _, hB⟩ := blk_of_R h
  refine ⟨hb, Blk.imp hB fun j c hj ⟨x, hx, hM⟩ => ?_⟩
  obtain ⟨v7, v14, rfl, hR, hR2⟩ := k50_openM hM
  obtain ⟨m, hT⟩ := tree_own hR
  obtain ⟨m2, hT2⟩ := tree_own hR2
  exact ⟨_, _, _, _, _, _, _, _, _, _, _, _, _, v7, v14, m, m2, hT, hT2, rfl⟩
theorem own_some {α : Type} {d : Kd α} {e base n c : Nat} {ok : Nat → Prop} {w : World} {A : Option Addr} {xs : List α} (h : d.R e w base ok (.slice A n c) xs) (hl : 0 < n) : ∃ g, A = some ⟨g, 0, none⟩ := by
  obtain ⟨_, inner, ho, _⟩ := h
  rcases ho.2 with ⟨h1, _⟩ | ⟨g, cap, cur, h1, _⟩
  · injection h1 with _ h2; omega
  · injection h1 with h1; exact ⟨g, h1⟩
set_option maxHeartbeats 16000000 in
set_option maxRecDepth 100000 in
theorem makes_law (W : World) (E : List S47) (A : Option Addr) (c : Nat) (hC : Kd.C k47 W A E.length E) (hc : E.length ≤ c) (hl : E.length ≤ 500000) (hE : ∀ e ∈ E, okE e ∧ nd e.f4 ≤ 1000000) (hE2 : ∀ e ∈ E, okE2 e) :
    Calls Try.prog 4 #[.slice A E.length c] W (fun e w' => e = .returned (.bool true) ∧ Below W.heap.size W w') := by
  have HCE := Lib.hid (CopyEvents_any W E A c hC hc (by omega))
  have HMK := Lib.hid (fun W1 A1 c1 (h : Kd.C k47 W1 A1 E.length E) (hc1 : E.length ≤ c1) => Make_any W1 E A1 c1 h hc1 (fun e he => (hE e he).1) (by omega))
  have HRM := Lib.hid (fun W1 A1 c1 (h : Kd.C k47 W1 A1 E.length E) (hc1 : E.length ≤ c1) => RMake_any W1 E A1 c1 h hc1 hl hE2)
  simp only [rmake_eq] at HRM
  have HCA := Lib.hid hC
  have HSE := Lib.hid (fun W1 A1 c1 (h : Kd.C k47 W1 A1 E.length E) (hc1 : E.length ≤ c1) (h2 : Below W.heap.size W W1) => sameEvents_any W1 E E A1 A c1 c h hc1 (Kd.C_below hC h2) hc)
  simp only [sameEL_refl] at HSE
  have HTB := Lib.hid (there_back E)
  have HRT := Lib.hid (make_right E)
  have HPL := Lib.hid (make_len E)
  obtain ⟨P, hP⟩ : ∃ P, P = (makeF E).1 := ⟨_, rfl⟩
  obtain ⟨at_, hat⟩ : ∃ x, x = (makeF E).2.1 := ⟨_, rfl⟩
  obtain ⟨code, hcode⟩ : ∃ x, x = (makeF E).2.2 := ⟨_, rfl⟩
  unfold MakeP at HMK HRM
  rw [← hP, ← hat, ← hcode] at HMK HRM
  rw [← hP, ← hcode] at HTB
  rw [← hcode] at HRT
  rw [← hP] at HPL
  have HSP := Lib.hid (sameP_refl P)
  have HEO := Lib.hid hE
  have HLN := Lib.hid hl
  clear hC hE hE2 hP hat hcode hl
  go_enter Try.func4, Try.ntmps4
  go_wp2_with fail
  refine HCE.out.mono ?_
  rintro e w1 ⟨hw1, B, d, rfl, hcd, hCB⟩
  have HB1 := Lib.hid hw1
  have HCB := Lib.hid hCB
  have HM1 := Lib.hid (HMK.out w1 B d hCB hcd)
  clear hw1 hCB HCE HMK
  go_wp2_with fail
  refine HM1.out.mono ?_
  rintro e w2 ⟨s1, s2, cv, rfl, r1, r2, r3, hw2⟩
  obtain ⟨A1, c1, rfl, l1, rr1⟩ := Kd.R_reads r1
  obtain ⟨A2, c2, rfl, l2, rr2⟩ := Kd.R_reads r2
  obtain ⟨A3, c3, rfl, l3, rr3⟩ := Kd.R_reads r3
  have HRP := Lib.hid (show RdP w2 P ⟨A1, c1, A2, c2, A3, c3⟩ from ⟨rr1, l1, rr2, l2, rr3, l3⟩)
  have HR3 := Lib.hid r3
  have HB2 := Lib.hid hw2
  have HXP := Lib.hid (heap_alloc_new w2 (.cells #[.slice A1 P.pr.length c1, .slice A2 P.ob.length c2, .slice A3 P.cl.length c3] 30))
  have HBP := Lib.hid (below_alloc (Below.refl w2.heap.size w2) (.cells #[.slice A1 P.pr.length c1, .slice A2 P.ob.length c2, .slice A3 P.cl.length c3] 30))
  have HBW := Lib.hid (HB1.out.trans ((HB2.out.trans (HBP.out.mono HB2.out.size)).mono HB1.out.size))
  have HM2 := Lib.hid (HRM.out (w2.alloc (.cells #[.slice A1 P.pr.length c1, .slice A2 P.ob.length c2, .slice A3 P.cl.length c3] 30)) A c (Kd.C_below HCA.out HBW.out) hc)
  clear r1 r2 r3 rr1 rr2 rr3 hw2 HM1 HRM
  go_wp2_with fail
  refine HM2.out.mono ?_
  rintro e w3 ⟨s1, s2, cv, rfl, r1, r2, r3, hw3⟩
  obtain ⟨B1, d1, rfl, m1, rr1⟩ := Kd.R_reads r1
  obtain ⟨B2, d2, rfl, m2, rr2⟩ := Kd.R_reads r2
  obtain ⟨B3, d3, rfl, m3, rr3⟩ := Kd.R_reads r3
  have HXQ := Lib.hid (heap_alloc_new w3 (.cells #[.slice B1 P.pr.length d1, .slice B2 P.ob.length d2, .slice B3 P.cl.length d3] 30))
  have HBQ := Lib.hid (below_alloc (Below.refl w3.heap.size w3) (.cells #[.slice B1 P.pr.length d1, .slice B2 P.ob.length d2, .slice B3 P.cl.length d3] 30))
  have HRQ := Lib.hid (show RdP w3 P ⟨B1, d1, B2, d2, B3, d3⟩ from ⟨rr1, m1, rr2, m2, rr3, m3⟩)
  have HB3 := Lib.hid hw3
  clear r1 r2 r3 rr1 rr2 rr3 m1 m2 m3 hw3 HM2
  go_upto_region 4 with fail
  obtain ⟨w4, hw4⟩ : ∃ w, w = w3.alloc (.cells #[.slice B1 P.pr.length d1, .slice B2 P.ob.length d2, .slice B3 P.cl.length d3] 30) := ⟨_, rfl⟩
  rw [← hw4] at HXQ HBQ ⊢
  clear hw4
  have HB23 := Lib.hid (show Below w2.heap.size w2 w4 from HBP.out.trans ((HB3.out.trans (HBQ.out.mono HB3.out.size)).mono (by rw [alloc_size]; omega)))
  have HXP4 := Lib.hid (show w4.heap[w2.heap.size]? = _ from ((HB3.out.trans (HBQ.out.mono HB3.out.size)).block _ (blk_lt HXP.out)).trans HXP.out)
  have HRP4 := Lib.hid (HRP.out.below HB23.out)
  have HRQ4 := Lib.hid (HRQ.out.below HBQ.out)
  have HB14 := Lib.hid (HB2.out.trans (HB23.out.mono HB2.out.size))
  have HBW4 := Lib.hid (HB1.out.trans (HB14.out.mono HB1.out.size))
  have HCB4 := Lib.hid (Kd.C_below HCB.out HB14.out)
  have hlp := blk_lt HXP4.out
  have hlq := blk_lt HXQ.out
  have HSM := Lib.hid (fun W1 (h : Below w4.heap.size w4 W1) => rSame_any W1 P P ⟨A1, c1, A2, c2, A3, c3⟩ ⟨B1, d1, B2, d2, B3, d3⟩ (HRP4.out.below h) (HRQ4.out.below h))
  unfold cP at HSM
  rw [HSP.out] at HSM
  have HSE4 := Lib.hid (fun W1 (h : Below w4.heap.size w4 W1) => HSE.out W1 B d (Kd.C_below HCB4.out h) hcd (HBW4.out.trans (h.mono HBW4.out.size)))
  have HCB1 := Lib.hid HCB.out
  have HSE0 := Lib.hid HSE.out
  clear HBP HXP HBQ HB3 HRQ HRP4 HRQ4 HCB HSE HSP HCB4 HBW
  obtain ⟨p0, p1, p2⟩ := box_cells HXP4.out
  obtain ⟨q0, q1, q2⟩ := box_cells HXQ.out
  go_wp2_with fail
  refine (HSM.out w4 (Below.refl _ _)).mono ?_
  rintro e w5 ⟨rfl, hw5⟩
  clear p0 p1 p2 q0 q1 q2
  have HB5 := Lib.hid hw5
  clear hw5
  go_wp2_with fail
  refine (HSE4.out w5 HB5.out).mono ?_
  rintro e w6 ⟨rfl, hw6⟩
  have HB6 := Lib.hid (HB5.out.trans (hw6.mono HB5.out.size))
  clear hw6 HB5
  go_wp2_with fail
  refine (heads_any w6).mono ?_
  rintro e w7 ⟨rfl, hw7⟩
  have HB7 := Lib.hid (HB6.out.trans (hw7.mono HB6.out.size))
  clear hw7 HB6
  by_cases h0 : code = 0
  · subst h0
    have HTK := Lib.hid (HTB.out rfl)
    have HRK := Lib.hid (HRT.out rfl)
    clear HTB HRT
    have HRP7 := Lib.hid (HRP.out.below (HB23.out.trans (HB7.out.mono HB23.out.size)))
    have HEV := Lib.hid (Events_any w7 P _ HRP7.out (by have := HPL.out; omega) (fun xs hxs e he => by
      have h1 := eventsF_L HTK.out
      rw [hxs] at h1
      cases h1
      obtain ⟨e0, he0, rfl⟩ := List.mem_map.1 he
      exact clean_okE (HEO.out e0 he0)))
    unfold EvsP cP at HEV
    rw [HTK.out] at HEV
    have HXP7 := Lib.hid ((HB7.out.block _ hlp).trans HXP4.out)
    have HXQ7 := Lib.hid ((HB7.out.block _ hlq).trans HXQ.out)
    obtain ⟨p0, p1, p2⟩ := box_cells HXP7.out
    go_wp2_with fail
    refine HEV.out.mono ?_
    rintro e w8 ⟨hw8, g, hg, rfl, hR8⟩
    have hml : (E.map clean).length = E.length := by simp
    rw [hml] at hR8 ⊢
    have HR8 := Lib.hid hR8
    have HB8 := Lib.hid hw8
    have HB48 := Lib.hid (HB7.out.trans (hw8.mono HB7.out.size))
    have HS8 := Lib.hid (HSE4.out w8 HB48.out)
    have hsb := sameEvents_any w8 (E.map clean) E (some ⟨g, 0, none⟩) A (E.map clean).length c (Kd.R_reads' (show k47.R 47 w8 _ _ (.slice (some ⟨g, 0, none⟩) (E.map clean).length (E.map clean).length) _ from by rw [hml]; exact hR8)).2.2 (Nat.le_refl _) (Kd.C_below HCA.out (HBW4.out.trans (HB48.out.mono HBW4.out.size))) hc
    rw [hml, clean_sameL HRK.out] at hsb
    have HSB := Lib.hid hsb
    have HBK := Lib.hid (back_blk hR8)
    have hle : (E.length : Int) ≤ 500000 := by have := HLN.out; omega
    clear hsb hR8 hml HR8 hw8 HS8 p0 p1 p2
    go_wp2_with fail
    refine HSB.out.mono ?_
    rintro e w9 ⟨rfl, hw9⟩
    have HB9 := Lib.hid (HB8.out.trans (hw9.mono HB8.out.size))
    have HB89 := Lib.hid hw9
    have hgl : g < w8.heap.size := Blk.lt HBK.out
    clear hw9 HSB
    go_wp2
    go_loopw [12] (fun iv wr => ∃ i : Int, iv = .int .i64 i ∧ 0 ≤ i ∧ i ≤ (E.length : Int) ∧ Hid (SmP w7.heap.size w8.heap.size w9 wr)) (fun iv _ => E.length - (intOf iv).toNat)
    case atStart => exact ⟨0, rfl, by omega, by omega, SmP.refl _ _ _⟩
    case round =>
      obtain ⟨i, rfl, hi0, hi1, HP⟩ := hrel
      by_cases hlt : i < (E.length : Int)
      · have hg9 : w9.heap[g]? = w8.heap[g]? := HB89.out.block g hgl
        have hgr : wr.heap[g]? = w8.heap[g]? := by
          have hk := HBK.out
          obtain ⟨cur, h1, _⟩ := hk
          exact (HP.out.block g (Nat.lt_of_lt_of_le hgl HB89.out.size) (.inr ⟨cur, 47, hg9.trans h1, by decide⟩)).trans hg9
        obtain ⟨v0, v1, v2, vs, v, m, hT, x4, x5, x6, x7, x8, x9, x10, x11⟩ := back_at (HBK.out.move hgr) i.toNat (by omega)
        have hT' : TreeT wr w7.heap.size w8.heap.size m v := HP.out.tree _ _ (TreeT.move (fun k _ h2 => HB89.out.block k h2) _ _ hT)
        have y1 : wr.cell? ⟨g, i.toNat * 12 + 9 + 1, none⟩ = some (.int .i64 0) := x10
        have y2 : wr.cell? ⟨g, i.toNat * 12 + 9 + 2, none⟩ = some (.int .i64 0) := x11
        have z1 : wr.cell? ⟨g, i.toNat * 12 + 4 + 1, none⟩ = some (.int .i64 v1) := x5
        have z2 : wr.cell? ⟨g, i.toNat * 12 + 4 + 2, none⟩ = some (.int .i64 v2) := x6
        have z3 : wr.cell? ⟨g, i.toNat * 12 + 4 + 3, none⟩ = some (.string vs) := x7
        have z4 : wr.cell? ⟨g, i.toNat * 12 + 4 + 4, none⟩ = some v := x8
        have HCL := Lib.hid (smear_any w7.heap.size w8.heap.size HB8.out.size m wr v0 v1 v2 vs v (Nat.le_trans HB89.out.size HP.out.below.size) hT')
        clear hT hT' hg9 hgr
        go_wp2_with fail
        refine HCL.out.mono ?_
        rintro e w10 ⟨rfl, hs⟩
        have HS := Lib.hid (HP.out.trans hs)
        clear x4 x5 x6 x7 x8 x9 x10 x11 y1 y2 z1 z2 z3 z4 hs HCL
        go_wp2
        go_roundw
        case rel => exact ⟨i + 1, rfl, by omega, by omega, HS.out⟩
        case measure => simp [intOf]; omega
      · have hge : (E.length : Int) ≤ i := by omega
        have HB10 := Lib.hid (HB9.out.trans HP.out.below)
        have HB410 := Lib.hid (HB7.out.trans (HB10.out.mono HB7.out.size))
        obtain ⟨p0, p1, p2⟩ := box_cells ((HB410.out.block _ hlp).trans HXP4.out)
        obtain ⟨q0, q1, q2⟩ := box_cells ((HB410.out.block _ hlq).trans HXQ.out)
        clear hlt
        go_wp2_with fail
        refine (HSM.out wr HB410.out).mono ?_
        rintro e w11 ⟨rfl, hw11⟩
        have HB11 := Lib.hid (HB410.out.trans (hw11.mono HB410.out.size))
        have HB211 := Lib.hid (HB23.out.trans (HB11.out.mono HB23.out.size))
        have hpm : (P.cl.length : Int) ≤ 4096 := by have := HPL.out; omega
        clear p0 p1 p2 q0 q1 q2 hw11 HB10 HB410 HP
        go_wp2
        go_loopw [13] (fun iv wr => ∃ i : Int, iv = .int .i64 i ∧ 0 ≤ i ∧ i ≤ (P.cl.length : Int) ∧ Hid (SmP w1.heap.size w2.heap.size w11 wr)) (fun iv _ => P.cl.length - (intOf iv).toNat)
        case atStart => exact ⟨0, rfl, by omega, by omega, SmP.refl _ _ _⟩
        case round =>
          obtain ⟨k, rfl, hk0, hk1, HP⟩ := hrel
          have h211 := HB211.out.size
          have hXr := (HP.out.block w2.heap.size (Nat.lt_of_lt_of_le hlp HB11.out.size) (.inl (Nat.le_refl _))).trans ((HB11.out.block _ hlp).trans HXP4.out)
          obtain ⟨p0, p1, p2⟩ := box_cells hXr
          by_cases hlk : k < (P.cl.length : Int)
          · obtain ⟨g3, rfl⟩ := own_some HR3.out (by omega)
            obtain ⟨hg3, hBk⟩ := calls_blk HR3.out
            have hg3l : g3 < w2.heap.size := Blk.lt hBk
            have HBKC := Lib.hid hBk
            have hrow : ∀ w', SmP w1.heap.size w2.heap.size w11 w' → w'.heap[g3]? = w2.heap[g3]? := by
              intro w' h
              have hbk := hBk
              obtain ⟨cur, h1, _⟩ := hbk
              have h2 := HB211.out.block g3 hg3l
              exact (h.block g3 (Nat.lt_of_lt_of_le hg3l h211) (.inr ⟨cur, 50, h2.trans h1, by decide⟩)).trans h2
            have HRW := Lib.hid hrow
            obtain ⟨cc, hcl, hcc, f0, f1, f4, f5, a, b, i', a2, b2, i2, f2, s, s2, v, v2, m, m2, hT, hT2, rfl⟩ := (hBk.move (hrow wr HP.out)).at k.toNat (by omega)
            have x0 : wr.cell? ⟨g3, k.toNat * 15 + 3, none⟩ = some (.int .i64 a) := hcc 3 _ rfl
            have x1 : wr.cell? ⟨g3, k.toNat * 15 + 3 + 1, none⟩ = some (.int .i64 b) := hcc 4 _ rfl
            have x2 : wr.cell? ⟨g3, k.toNat * 15 + 3 + 2, none⟩ = some (.int .i64 i') := hcc 5 _ rfl
            have x3 : wr.cell? ⟨g3, k.toNat * 15 + 3 + 3, none⟩ = some (.string s) := hcc 6 _ rfl
            have x4 : wr.cell? ⟨g3, k.toNat * 15 + 3 + 4, none⟩ = some v := hcc 7 _ rfl
            have hTr : ∀ m v, TreeT w2 w1.heap.size w2.heap.size m v → TreeT w11 w1.heap.size w2.heap.size m v := TreeT.move (fun k _ h2 => HB211.out.block k h2)
            have hwr : w2.heap.size ≤ wr.heap.size := Nat.le_trans h211 HP.out.below.size
            have HCL := Lib.hid (smear_any w1.heap.size w2.heap.size HB2.out.size m wr a b i' s v hwr (HP.out.tree _ _ (hTr _ _ hT)))
            have HT2 := Lib.hid (hTr _ _ hT2)
            clear hcl hcc hT hT2 hTr hBk hrow hXr
            go_wp2_with fail
            refine HCL.out.mono ?_
            rintro e w12 ⟨rfl, hs⟩
            have HS := Lib.hid (HP.out.trans hs)
            have hXr := (HS.out.block w2.heap.size (Nat.lt_of_lt_of_le hlp HB11.out.size) (.inl (Nat.le_refl _))).trans ((HB11.out.block _ hlp).trans HXP4.out)
            clear p0 p1 p2 x0 x1 x2 x3 x4 hs HCL
            obtain ⟨p0, p1, p2⟩ := box_cells hXr
            obtain ⟨cc, hcl, hcc, g0, g1, g4, g5, c0, c1', c2', a3, b3, i3, g2, t, s3, u, v3, n, n2, hT, hT3, rfl⟩ := (HBKC.out.move (HRW.out w12 HS.out)).at k.toNat (by omega)
            have x0 : w12.cell? ⟨g3, k.toNat * 15 + 10, none⟩ = some (.int .i64 a3) := hcc 10 _ rfl
            have x1 : w12.cell? ⟨g3, k.toNat * 15 + 10 + 1, none⟩ = some (.int .i64 b3) := hcc 11 _ rfl
            have x2 : w12.cell? ⟨g3, k.toNat * 15 + 10 + 2, none⟩ = some (.int .i64 i3) := hcc 12 _ rfl
            have x3 : w12.cell? ⟨g3, k.toNat * 15 + 10 + 3, none⟩ = some (.string s3) := hcc 13 _ rfl
            have x4 : w12.cell? ⟨g3, k.toNat * 15 + 10 + 4, none⟩ = some v3 := hcc 14 _ rfl
            have hwr2 : w2.heap.size ≤ w12.heap.size := Nat.le_trans h211 HS.out.below.size
            have HCL := Lib.hid (smear_any w1.heap.size w2.heap.size HB2.out.size n2 w12 a3 b3 i3 s3 v3 hwr2 (HS.out.tree _ _ (TreeT.move (fun k _ h2 => HB211.out.block k h2) _ _ hT3)))
            clear hcl hcc hT hT3 hXr HT2
            go_wp2_with fail
            refine HCL.out.mono ?_
            rintro e w13 ⟨rfl, hs⟩
            have HS2 := Lib.hid (HS.out.trans hs)
            clear p0 p1 p2 x0 x1 x2 x3 x4 hs HCL HS
            go_wp2
            go_roundw
            case rel => exact ⟨k + 1, rfl, by omega, by omega, HS2.out⟩
            case measure => simp [intOf]; omega
          · have hge2 : (P.cl.length : Int) ≤ k := by omega
            have HB1r := Lib.hid (HB14.out.trans ((HB11.out.mono HB14.out.size).trans HP.out.below))
            have HBWr := Lib.hid (HB1.out.trans (HB1r.out.mono HB1.out.size))
            have HFIN := Lib.hid (Kd.C_below HCB1.out HB1r.out)
            have HLAST := Lib.hid (HSE0.out wr B d HFIN.out hcd HBWr.out)
            clear hlk hXr
            go_wp2_with fail
            refine HLAST.out.mono ?_
            rintro e w14 ⟨rfl, hw14⟩
            have HB14r := Lib.hid (HBWr.out.trans (hw14.mono HBWr.out.size))
            clear hw14 p0 p1 p2
            go_wp2
            go_ret
            exact ⟨rfl, HB14r.out⟩
  · have h0' : (code != 0) = true := by rw [bne_iff_ne]; exact h0
    clear h0
    go_wp2
    go_ret
    exact ⟨rfl, HBW4.out.trans (HB7.out.mono HBW4.out.size)⟩
end Go.Proofs.Ytofinglgnkdflaa
