/- Layer 8: heads: the law's own example. -/
import Derived.Test.YtofinglgnkdflaaKXH
namespace Go.Proofs.Ytofinglgnkdflaa
open Go.RowKit
open Go.Proofs.Ytofinglgnkdflaa.PHistoryChecks Go.Proofs.YtofinglgnkdflaaW.PrintWords Go.Proofs.YtofinglgnkdflaaW.PrintLast Go.Proofs.YtofinglgnkdflaaW.PrintMore
set_option linter.unusedVariables false
set_option linter.unusedSimpArgs false
theorem small_ok : ∀ e ∈ smallL, okE e ∧ nd e.f4 ≤ 1000000 := by
  intro e he
  simp only [smallL, List.mem_cons, List.not_mem_nil, or_false] at he
  rcases he with rfl | rfl | rfl | rfl <;> exact ⟨⟨by decide, by decide, by decide, ⟨by decide, trivial⟩⟩, by decide⟩
theorem small_pre : ∀ xs, eventsL smallP = some xs → ∀ e ∈ xs, okE e ∧ nd e.f4 ≤ 1000000 := by
  intro xs h
  rw [small_eventsL] at h
  cases h
  exact small_ok
set_option maxHeartbeats 8000000 in
set_option maxRecDepth 100000 in
theorem heads_any (W : World) : Calls Try.prog 19 #[] W (fun e w' => e = .returned (.bool true) ∧ Below W.heap.size W w') := by
  go_enter Try.func19, Try.ntmps19
  go_wp2_with fail
  refine (small_row _).mono ?_
  rintro e w1 ⟨g, cs, rfl, hg, hcs, hw1⟩
  have hmk := Make_any w1 smallL (some ⟨g, 0, none⟩) 4 (small_C hg hcs) (by decide) (fun e he => (small_ok e he).1) (by decide)
  unfold MakeP at hmk
  rw [small_code, show (makeF smallL).1 = smallP from rfl] at hmk
  have HMK := Lib.hid hmk
  have HB1 := Lib.hid hw1
  clear hmk hg hcs hw1
  go_wp2_with fail
  refine HMK.out.mono ?_
  rintro e w2 ⟨s1, s2, cv, rfl, r1, r2, r3, hw2⟩
  obtain ⟨B1, d1, rfl, l1, rr1⟩ := Kd.R_reads r1
  obtain ⟨B2, d2, rfl, l2, rr2⟩ := Kd.R_reads r2
  obtain ⟨B3, d3, rfl, l3, rr3⟩ := Kd.R_reads r3
  have HRD := Lib.hid (show RdP w2 smallP ⟨B1, d1, B2, d2, B3, d3⟩ from ⟨rr1, l1, rr2, l2, rr3, l3⟩)
  have HB2 := Lib.hid (HB1.out.trans (hw2.mono HB1.out.size))
  have hlc : smallP.cl.length ≤ 500000 := by rw [small_calls]; decide
  have HWD := Lib.hid (fun W1 (h : Below w2.heap.size w2 W1) => Widest_any W1 smallP _ (HRD.out.below h) hlc small_pre)
  have HOP := Lib.hid (fun W1 (h : Below w2.heap.size w2 W1) => Open_any W1 smallP _ 3 (HRD.out.below h) hlc small_pre)
  have HCH := Lib.hid (fun W1 (h : Below w2.heap.size w2 W1) => Checkp_any W1 smallP _ (HRD.out.below h) hlc small_pre)
  have HPR := Lib.hid (fun W1 (h : Below w2.heap.size w2 W1) => Proc_any W1 smallP _ ⟨#[114]⟩ (HRD.out.below h))
  unfold OpenP at HOP
  simp only [small_wide, small_open, small_proc, small_events, cP, Option.isSome_some, if_pos] at HWD HOP HCH HPR
  have HA := Lib.hid (below_alloc (Below.refl w2.heap.size w2) (.cells #[.slice B1 smallP.pr.length d1, .slice B2 smallP.ob.length d2, .slice B3 smallP.cl.length d3] 30))
  have hbx := Lib.hid (heap_alloc_new w2 (.cells #[.slice B1 smallP.pr.length d1, .slice B2 smallP.ob.length d2, .slice B3 smallP.cl.length d3] 30))
  clear r1 r2 r3 rr1 rr2 rr3 l1 l2 l3 HMK HB1 hw2 hlc
  go_wp2_with fail
  refine (HWD.out _ HA.out).mono ?_
  rintro e w3 ⟨rfl, hw3⟩
  have HA3 := Lib.hid (HA.out.trans (hw3.mono HA.out.size))
  have hb3 := Lib.hid ((hw3.block _ (blk_lt hbx.out)).trans hbx.out)
  have q0 : w3.cell? ⟨w2.heap.size, 0, none⟩ = some (.slice B1 smallP.pr.length d1) := (blk_cell hb3.out 0).trans rfl
  have q1 : w3.cell? ⟨w2.heap.size, 1, none⟩ = some (.slice B2 smallP.ob.length d2) := (blk_cell hb3.out 1).trans rfl
  have q2 : w3.cell? ⟨w2.heap.size, 2, none⟩ = some (.slice B3 smallP.cl.length d3) := (blk_cell hb3.out 2).trans rfl
  clear hw3 HWD hbx HA
  go_wp2_with fail
  refine (HOP.out _ HA3.out).mono ?_
  rintro e w4 ⟨hw4, v, rfl, hv⟩
  obtain ⟨A6, k6, rfl, l6, hC6⟩ := Kd.R_reads hv
  have HA4 := Lib.hid (HA3.out.trans (hw4.mono HA3.out.size))
  have hb4 := Lib.hid ((hw4.block _ (blk_lt hb3.out)).trans hb3.out)
  obtain ⟨ad6, rfl, z6⟩ := Kd.at_int hC6 0 (by decide) (by decide)
  have z6' : w4.cell? (ad6.add 0) = some (.int .i64 1) := z6
  have hlen6 : ([1] : List Int).length = 1 := rfl
  clear hw4 HOP hb3 HA3 q0 q1 q2 hv hC6 z6
  go_wp2_with fail
  refine (small_row _).mono ?_
  rintro e w5 ⟨g5, cs5, rfl, hg5, hcs5, hw5⟩
  have hC5 := Kd.C_drop (m := 2) (c := 4) (small_C hg5 hcs5) (by decide) (by decide)
  have hC5' : Kd.C k47 w5 (some ⟨g5, 24, none⟩) (smallL.drop 2).length (smallL.drop 2) := hC5
  have hmk := Make_any w5 (smallL.drop 2) (some ⟨g5, 24, none⟩) 2 hC5' (by decide) (fun e he => (small_ok e (List.mem_of_mem_drop he)).1) (by decide)
  unfold MakeP at hmk
  rw [tail_code] at hmk
  have HMK := Lib.hid hmk
  have HA5 := Lib.hid (HA4.out.trans (hw5.mono HA4.out.size))
  have hb5 := Lib.hid ((hw5.block _ (blk_lt hb4.out)).trans hb4.out)
  have z7 := pw_cell_below hw5 z6'
  clear hmk hC5 hC5' hg5 hcs5 hw5 hb4 HA4 z6'
  go_wp2_with fail
  refine HMK.out.mono ?_
  rintro e w6 ⟨s1, s2, cv, rfl, r1, r2, r3, hw6⟩
  obtain ⟨E1, f1, rfl, m1, _⟩ := Kd.R_reads r1
  obtain ⟨E2, f2, rfl, m2, _⟩ := Kd.R_reads r2
  obtain ⟨E3, f3, rfl, m3, _⟩ := Kd.R_reads r3
  have HA6 := Lib.hid (HA5.out.trans (hw6.mono HA5.out.size))
  have hb6 := Lib.hid ((hw6.block _ (blk_lt hb5.out)).trans hb5.out)
  have z8 := pw_cell_below hw6 z7
  have q0 : w6.cell? ⟨w2.heap.size, 0, none⟩ = some (.slice B1 smallP.pr.length d1) := (blk_cell hb6.out 0).trans rfl
  have q1 : w6.cell? ⟨w2.heap.size, 1, none⟩ = some (.slice B2 smallP.ob.length d2) := (blk_cell hb6.out 1).trans rfl
  have q2 : w6.cell? ⟨w2.heap.size, 2, none⟩ = some (.slice B3 smallP.cl.length d3) := (blk_cell hb6.out 2).trans rfl
  obtain ⟨ad, A7, c7, A14, c14, rfl, x0, x1, x2, x3, x4, x5, x6, x7, x8, x9, x10, x11, x12, x13, x14, _⟩ := at_T50 (HRD.out.below HA6.out).cl 1 (by decide) (by rw [small_calls]; decide)
  rw [show (rd_T50 smallP.cl 1).f5 = 3 from by rw [small_calls]; rfl] at x9
  have hlen : smallP.cl.length = 2 := by rw [small_calls]; rfl
  have hlen1 : ((smallP.cl.length : Int) == 2) = true := by rw [hlen]; rfl
  have hlen2 : (1 : Int) < (smallP.cl.length : Int) := by rw [hlen]; decide
  have hww : w2.heap.size < w6.heap.size := blk_lt hb6.out
  have hxb : (ad.add ((1 : Int).toNat * 15)).block < w6.heap.size := by have h := World.block_lt_of_cell? w6 _ x9; exact h
  have x9' : w6.cell? ⟨(ad.add 15).block, (ad.add 15).off + 9, none⟩ = some (.int .i64 3) := x9
  have x9'' : w6.cell? ⟨ad.block, ad.off + 15 + 9, none⟩ = some (.int .i64 3) := x9
  have hxb' : (ad.add 15).block < w6.heap.size := hxb
  have hab : ad.block < w6.heap.size := by rw [← add_block ad 15]; exact hxb'
  have ea : ad6.add 0 = ad6 := by simp [Addr.add]
  have z9 : w6.cell? ad6 = some (.int .i64 1) := by rw [← ea]; exact z8
  have hz9 := World.block_lt_of_cell? w6 _ z9
  have hsb := Lib.hid (HA6.out.size)
  have HAB := Lib.hid (below_alloc HA6.out (.cells #[.slice E1 (makeF (List.drop 2 smallL)).1.pr.length f1, .slice E2 (makeF (List.drop 2 smallL)).1.ob.length f2, .slice E3 (makeF (List.drop 2 smallL)).1.cl.length f3] 30))
  clear x0 x1 x2 x3 x4 x5 x6 x7 x8 x9 x10 x11 x12 x13 x14 r1 r2 r3 HMK z7 hb5 HA5 hw6 hlen
  go_wp2_with fail
  refine (HCH.out _ HAB.out).mono ?_
  rintro e w7 ⟨rfl, hw7⟩
  have HA7 := Lib.hid (HAB.out.trans (hw7.mono HAB.out.size))
  have hb7 := Lib.hid ((hw7.block _ (by rw [alloc_size]; omega)).trans (blk_alloc hb6.out _))
  have u0 : w7.cell? ⟨w2.heap.size, 0, none⟩ = some (.slice B1 smallP.pr.length d1) := (blk_cell hb7.out 0).trans rfl
  have u1 : w7.cell? ⟨w2.heap.size, 1, none⟩ = some (.slice B2 smallP.ob.length d2) := (blk_cell hb7.out 1).trans rfl
  have u2 : w7.cell? ⟨w2.heap.size, 2, none⟩ = some (.slice (some ad) smallP.cl.length d3) := (blk_cell hb7.out 2).trans rfl
  clear hw7 HCH hb6 q0 q1 q2 z8 z9 x9' x9'' HAB HA6
  go_wp2_with fail
  refine (HPR.out _ HA7.out).mono ?_
  rintro e w8 ⟨rfl, hw8⟩
  have HA8 := Lib.hid (HB2.out.trans ((HA7.out.trans (hw8.mono HA7.out.size)).mono HB2.out.size))
  clear hw8 HPR u0 u1 u2
  go_wp2
  go_ret
  exact ⟨rfl, HA8.out⟩
end Go.Proofs.Ytofinglgnkdflaa
