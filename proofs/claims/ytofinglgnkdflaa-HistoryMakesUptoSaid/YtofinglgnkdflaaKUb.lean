/- Layer 7: CopyEvents of the law. -/
import Derived.Test.YtofinglgnkdflaaKQr
import Derived.Test.YtofinglgnkdflaaKQk
namespace Go.Proofs.Ytofinglgnkdflaa
open Go.RowKit
open Go.Proofs.Ytofinglgnkdflaa.PHistoryChecks Go.Proofs.YtofinglgnkdflaaW.PrintWords Go.Proofs.YtofinglgnkdflaaW.PrintLast Go.Proofs.YtofinglgnkdflaaW.PrintMore
set_option linter.unusedVariables false
set_option linter.unusedSimpArgs false
theorem copy_two (W w : World) (v : S43) (A : Option Addr) (c : Nat) (hC : Kd.C k43 W A v.f4.length v.f4) (hc : v.f4.length ≤ c) (hb : Below W.heap.size W w) :
    Calls Try.prog 54 #[v43 v A c] w (fun e w' => ∃ A' c', e = .returned (v43 v A' c') ∧ v.f4.length ≤ c' ∧ Kd.F k43 w' (fun k => k < W.heap.size ∨ w.heap.size ≤ k) A' v.f4.length v.f4 ∧ Below w.heap.size w w') := by
  refine (copy_any w v A c (Kd.C_below hC hb)).mono fun e w' h => ?_
  rcases h with ⟨_, A', c', rfl, hR, hl, hB⟩ | ⟨_, rfl, hB⟩
  · exact ⟨A', c', rfl, hl, fun W' hW => (Kd.R_reads' (Kd.R_step (Kd.R_bound hR) (fun k hk hlt => hW k (.inr hk.2.1) hlt))).2.2, hB⟩
  · exact ⟨A, c, rfl, hc, fun W' hW => Kd.Heap.C k43_heap (fun k hk => by rw [hW k (.inl hk) (Nat.lt_of_lt_of_le hk (Nat.le_trans hb.size hB.size))]; exact (hB.block k (Nat.lt_of_lt_of_le hk hb.size)).trans (hb.block k hk)) hC, hB⟩
theorem take_snoc47 (E : List S47) (i : Int) (h0 : 0 ≤ i) (h1 : i < (E.length : Int)) : E.take (i + 1).toNat = E.take i.toNat ++ [rd_T47 E i] := by
  have hn : i.toNat < E.length := by omega
  have e : rd_T47 E i = E[i.toNat] := by unfold rd_T47; rw [List.getD_eq_getElem?_getD, List.getElem?_eq_getElem hn]; rfl
  rw [show (i + 1).toNat = i.toNat + 1 by omega, List.take_add_one, List.getElem?_eq_getElem hn, e]; rfl
theorem box47' {w : World} {g : Nat} {x : S47} {A : Option Addr} {c : Nat} (h : w.heap[g]? = some (.cells (c47 x A c) 47 (0, 0))) :
    w.cell? ⟨g, 0, none⟩ = some (.int .i64 x.f0) ∧ w.cell? ⟨g, 1, none⟩ = some (.string x.f1) ∧ w.cell? ⟨g, 2, none⟩ = some (.string x.f2) ∧ w.cell? ⟨g, 3, none⟩ = some (.string x.f3) ∧ w.cell? ⟨g, 4, none⟩ = some (.int .i64 x.f4.f0) ∧ w.cell? ⟨g, 5, none⟩ = some (.int .i64 x.f4.f1) ∧ w.cell? ⟨g, 6, none⟩ = some (.int .i64 x.f4.f2) ∧ w.cell? ⟨g, 7, none⟩ = some (.string x.f4.f3) ∧ w.cell? ⟨g, 8, none⟩ = some (.slice A x.f4.f4.length c) ∧ w.cell? ⟨g, 9, none⟩ = some (.int .i64 x.f5.f0) ∧ w.cell? ⟨g, 10, none⟩ = some (.int .i64 x.f5.f1) ∧ w.cell? ⟨g, 11, none⟩ = some (.int .i64 x.f5.f2) :=
  ⟨(blk_cell h 0).trans rfl, (blk_cell h 1).trans rfl, (blk_cell h 2).trans rfl, (blk_cell h 3).trans rfl, (blk_cell h 4).trans rfl, (blk_cell h 5).trans rfl, (blk_cell h 6).trans rfl, (blk_cell h 7).trans rfl, (blk_cell h 8).trans rfl, (blk_cell h 9).trans rfl, (blk_cell h 10).trans rfl, (blk_cell h 11).trans rfl⟩
set_option maxHeartbeats 8000000 in
set_option maxRecDepth 100000 in
theorem CopyEvents_any (W : World) (E : List S47) (A : Option Addr) (c : Nat) (hC : Kd.C k47 W A E.length E) (hc : E.length ≤ c) (hl : E.length ≤ 1000000) :
    Calls Try.prog 14 #[.slice A E.length c] W (fun e w' => Below W.heap.size W w' ∧ ∃ A' c', e = .returned (.slice A' E.length c') ∧ E.length ≤ c' ∧ Kd.C k47 w' A' E.length E) := by
  have HC := Lib.hid hC
  clear hC
  go_enter Try.func14, Try.ntmps14
  go_wp2
  go_loopw [4, 3, 5] (fun iv ov bv wr => ∃ (i : Int) (B : Option Addr) (d : Nat), iv = .int .i64 i ∧ ov = .slice B (E.take i.toNat).length d ∧ 0 ≤ i ∧ i ≤ (E.length : Int) ∧ Hid (Kd.N k47 47 wr W.heap.size (fun _ => True) (.slice B (E.take i.toNat).length d) (E.take i.toNat)) ∧ Hid (Below W.heap.size W wr)) (fun i _ _ _ => E.length - (intOf i).toNat)
  case atStart => exact ⟨0, none, 0, rfl, rfl, by omega, by omega, Kd.N_nil _ _ _ _ _, Below.refl _ _⟩
  case round =>
    obtain ⟨i, B, d, rfl, rfl, hi0, hi1, HN, HB⟩ := hrel
    by_cases hlt : i < (E.length : Int)
    · obtain ⟨ad, A8, c8, hA, x0, x1, x2, x3, x4, x5, x6, x7, x8, x9, x10, x11, l8, g8⟩ := at_T47 HC.out i hi0 hlt
      have HTS := Lib.hid (take_snoc47 E i hi0 hlt)
      have htl : (E.take i.toNat).length ≤ i.toNat := List.length_take_le _ _
      obtain ⟨x, hx⟩ : ∃ x, x = rd_T47 E i := ⟨_, rfl⟩
      obtain ⟨ys, hys⟩ : ∃ ys, ys = E.take i.toNat := ⟨_, rfl⟩
      rw [← hx] at x0 x1 x2 x3 x4 x5 x6 x7 x8 x9 x10 x11 l8 g8 HTS
      rw [← hys] at HN htl HTS ⊢
      subst hA
      have hlE : ((E.take (i + 1).toNat).length) = ys.length + 1 := by rw [HTS.out, List.length_append]; rfl
      have HLE := Lib.hid hlE
      clear hlE
      replace x0 := pw_cell_below HB.out x0
      replace x1 := pw_cell_below HB.out x1
      replace x2 := pw_cell_below HB.out x2
      replace x3 := pw_cell_below HB.out x3
      replace x4 := pw_cell_below HB.out x4
      replace x5 := pw_cell_below HB.out x5
      replace x6 := pw_cell_below HB.out x6
      replace x7 := pw_cell_below HB.out x7
      replace x8 := pw_cell_below HB.out x8
      replace x9 := pw_cell_below HB.out x9
      replace x10 := pw_cell_below HB.out x10
      replace x11 := pw_cell_below HB.out x11
      have HX2 := Lib.hid (heap_alloc_new wr (.cells (c47 x A8 c8) 47))
      have HB2 := Lib.hid (below_alloc (Below.refl wr.heap.size wr) (.cells (c47 x A8 c8) 47))
      have HC8 := Lib.hid g8
      have HL8 := Lib.hid l8
      have HNL := Lib.hid (fun k (hk : (Value.slice B ys.length d).ownBlock = some k) => And.intro (Kd.N_base HN.out k hk) (Kd.N_lt HN.out k hk))
      clear hx hys l8 g8
      go_upto_region 6 with fail
      obtain ⟨w2, hw2⟩ : ∃ w, w = wr.alloc (.cells (c47 x A8 c8) 47) := ⟨_, rfl⟩
      have hs2 : w2.heap.size = wr.heap.size + 1 := by rw [hw2, alloc_size]
      rw [← hw2] at HX2 HB2
      unfold c47 at hw2
      rw [← hw2]
      obtain ⟨b, hb⟩ : ∃ b, b = wr.heap.size := ⟨_, rfl⟩
      rw [← hb] at HX2 hs2 ⊢
      have HBE := Lib.hid hb
      have HS2 := Lib.hid hs2
      clear hb hw2 hs2 x0 x1 x2 x3 x4 x5 x6 x7 x8 x9 x10 x11
      have HBW2 := Lib.hid (HB.out.trans (HB2.out.mono HB.out.size))
      have HCP := Lib.hid (copy_two W w2 x.f4 A8 c8 HC8.out HL8.out HBW2.out)
      unfold v43 at HCP
      obtain ⟨x0, x1, x2, x3, x4, x5, x6, x7, x8, x9, x10, x11⟩ := box47' HX2.out
      go_wp2_with fail
      refine HCP.out.mono ?_
      rintro e w3 ⟨A9, c9, rfl, l9, hF9, hw3⟩
      have HX3 := Lib.hid ((hw3.block _ (blk_lt HX2.out)).trans HX2.out)
      have HB3 := Lib.hid (HB2.out.trans (hw3.mono HB2.out.size))
      have HF9 := Lib.hid hF9
      have HL9 := Lib.hid l9
      clear x0 x1 x2 x3 x4 x5 x6 x7 x8 x9 x10 x11 hw3 hF9 l9 HCP HC8 HL8
      obtain ⟨x0, x1, x2, x3, x4, x5, x6, x7, x8, x9, x10, x11⟩ := box47' HX3.out
      have hfr : ∀ o, w3.frozen? ⟨b, o, none⟩ = false := fun o => blk_frozen HX3.out o
      go_upto_region 7 with fail
      obtain ⟨w4, hw4⟩ : ∃ w, w = set5w b 4 (.int .i64 x.f4.f0) (.int .i64 x.f4.f1) (.int .i64 x.f4.f2) (.string x.f4.f3) (.slice A9 x.f4.f4.length c9) w3 := ⟨_, rfl⟩
      have HX4 := Lib.hid (show w4.heap[b]? = some (.cells (c47 x A9 c9) 47 (0, 0)) from by rw [hw4]; exact set5w_at _ _ _ _ _ _ _ _ _ _ HX3.out)
      have HB4 := Lib.hid (show Below wr.heap.size wr w4 from by rw [hw4]; exact set5w_below HB3.out _ _ (by rw [HBE.out]; exact Nat.le_refl _) _ _ _ _ _)
      have HF4 := Lib.hid (show Kd.F k43 w4 (fun k => k < W.heap.size ∨ w2.heap.size ≤ k) A9 x.f4.f4.length x.f4.f4 from Kd.F_step HF9.out (fun k hk _ => by
        rw [hw4]
        refine set5w_far _ _ _ _ _ _ _ _ _ ?_
        have h1 := HS2.out
        have h2 := HBE.out
        have h3 := HB.out.size
        rcases hk with hk | hk <;> omega))
      unfold set5w at hw4
      rw [← hw4]
      clear hw4 x0 x1 x2 x3 x4 x5 x6 x7 x8 x9 x10 x11 hfr HX3 HB3 HF9 HX2 HB2
      have HBW4 := Lib.hid (HB.out.trans (HB4.out.mono HB.out.size))
      have HN4 := Lib.hid (Kd.N_below HN.out HB4.out)
      have HFK := Lib.hid (k47_mkF w4 _ x HL9.out HF4.out)
      obtain ⟨x0, x1, x2, x3, x4, x5, x6, x7, x8, x9, x10, x11⟩ := box47' HX4.out
      go_wp2_with (at_builtin; (refine Kd.N_append (w0 := W) k47 W.heap.size rfl _ _ 25 47 _ 144 rfl Try.underlying25 info47 rfl (by decide) (by decide) (.slice B ys.length d) ys x (c47 x A9 c9).toList (fun _ => True) (fun k => k < W.heap.size ∨ w2.heap.size ≤ k) rfl rfl HFK.out (fun k hk => ⟨trivial, fun he => by have h1 := HNL.out k he.symm; have h2 := HS2.out; have h3 := HBE.out; omega⟩) (fun _ _ => trivial) HN4.out HBW4.out HBW4.out.size (by omega) ?_; intro v1 w5 hN5 hb5 hg5 hat5; obtain ⟨B1, d1, rfl, _, _⟩ := Kd.N_reads hN5; have HN5 := Lib.hid hN5; have HB5 := Lib.hid hb5; clear hN5 hb5 hg5 hat5))
      go_roundw
      case rel => exact ⟨i + 1, B1, d1, rfl, by rw [HTS.out]; simp, by omega, by omega, by rw [HTS.out]; exact HN5.out, HB5.out⟩
      case measure => simp [intOf]; omega
    · have hge : E.take i.toNat = E := List.take_of_length_le (by omega)
      have hge2 : (E.length : Int) ≤ i := by omega
      rw [hge] at HN ⊢
      clear hlt hge
      go_wp2
      go_ret
      obtain ⟨_, h1, h2⟩ := Kd.N_reads' HN.out
      exact ⟨HB.out, B, d, rfl, h1, h2⟩
end Go.Proofs.Ytofinglgnkdflaa
