/- The reference of layer 4: copied, Copy. -/
import Derived.Test.YtofinglgnkdflaaLQj
import Derived.Test.YtofinglgnkdflaaLCpd
namespace Go.Proofs.Ytofinglgnkdflaa
open Go.RowKit
open Go.Proofs.Ytofinglgnkdflaa.PHistoryChecks Go.Proofs.YtofinglgnkdflaaW.PrintWords Go.Proofs.YtofinglgnkdflaaW.PrintLast Go.Proofs.YtofinglgnkdflaaW.PrintMore
set_option linter.unusedVariables false
set_option linter.unusedSimpArgs false
theorem S43_eta (x : S43) : (⟨x.f0, x.f1, x.f2, x.f3, x.f4⟩ : S43) = x := by cases x; rfl
theorem cpd_loop (n : Nat) (ih : ∀ (v : S43) (k : Nat), nd v ≤ n → nd v ≤ 1000000 → 2 * nd v ≤ k → sextantref04_copied.f k v.f0 v.f1 v.f2 v.f3 v.f4 = some (v.f0, v.f1, v.f2, v.f3, v.f4)) (a b m : Int) (t : ByteArray) (l : List S43) (hl : ndL l ≤ n) (hl2 : ndL l ≤ 1000000) :
    ∀ (k i : Nat), i ≤ l.length → 2 * ndL (l.drop i) + 1 ≤ k → sextantref04_copied.l0 k (l.take i) (i : Int) a b m t l = some (a, b, m, t, l) := by
  have hlen : ∀ l : List S43, l.length ≤ ndL l := fun l => by
    induction l with
    | nil => exact Nat.zero_le _
    | cons x l ih => simp only [List.length_cons, ndL]; have := nd_pos x; omega
  intro k
  induction k with
  | zero => intro i _ h; omega
  | succ k ihk =>
    intro i hi hk
    simp only [sextantref04_copied.l0]
    by_cases h : i < l.length
    · have e : rd_T43 l (i : Int) = l[i] := by unfold rd_T43; rw [Int.toNat_natCast, List.getD_eq_getElem?_getD, List.getElem?_eq_getElem h]; rfl
      have hd : l.drop i = l[i] :: l.drop (i + 1) := List.drop_eq_getElem_cons h
      rw [hd] at hk
      simp only [ndL] at hk
      have hp := nd_pos l[i]
      have hm := ndL_mem l[i] l (List.getElem_mem h)
      rw [if_pos (by omega), if_pos (by omega), e, ih l[i] k (by omega) (by omega) (by omega)]
      simp only [Option.bind_some]
      have hl3 := hlen l
      rw [if_pos (by rw [List.length_take]; omega)]
      have e2 : l.take i ++ [(⟨l[i].f0, l[i].f1, l[i].f2, l[i].f3, l[i].f4⟩ : S43)] = l.take (i + 1) := by
        rw [S43_eta, List.take_add_one, List.getElem?_eq_getElem h]; rfl
      rw [e2, show wrap64 ((i : Int) + 1) = ((i + 1 : Nat) : Int) from by rw [w64i (by omega) (by omega)]; omega]
      exact ihk (i + 1) (by omega) (by omega)
    · rw [if_neg (by omega), List.take_of_length_le (by omega)]
theorem cpd_pure (n : Nat) : ∀ (v : S43) (k : Nat), nd v ≤ n → nd v ≤ 1000000 → 2 * nd v ≤ k → sextantref04_copied.f k v.f0 v.f1 v.f2 v.f3 v.f4 = some (v.f0, v.f1, v.f2, v.f3, v.f4) := by
  induction n with
  | zero => intro v k h; have := nd_pos v; omega
  | succ n ih =>
    intro v k hn h6 hk
    have h0 := nd_eq v
    obtain ⟨k, rfl⟩ : ∃ j, k = j + 1 := ⟨k - 1, by omega⟩
    simp only [sextantref04_copied.f]
    exact cpd_loop n ih v.f0 v.f1 v.f2 v.f3 v.f4 (by omega) (by omega) k 0 (Nat.zero_le _) (by rw [List.drop_zero]; omega)
theorem copied_own (W : World) (v : S43) (A : Option Addr) (c : Nat) (hn : nd v ≤ 1000000) (hC : Kd.C k43 W A v.f4.length v.f4) : Calls Try.prog 83 #[v43 v A c] W (OwnP v W) := by
  refine (sextantref04_copied.calls (2 * nd v) v.f0 v.f1 v.f2 v.f3 A c v.f4 v.f0 v.f1 v.f2 v.f3 v.f4 W hC (cpd_pure (nd v) v _ (Nat.le_refl _) hn (Nat.le_refl _))).mono fun e w' h => ?_
  obtain ⟨x, rfl, hR, hB⟩ := h
  obtain ⟨A', c', rfl, hlc, _⟩ := Kd.R_reads hR
  exact ⟨A', c', rfl, hR, hlc, hB⟩
def CopyP (v : S43) (A : Option Addr) (c : Nat) (W : World) (e : Ending) (w' : World) : Prop :=
  (smallB v = true ∧ OwnP v W e w') ∨ (smallB v = false ∧ e = .returned (v43 v A c) ∧ Below W.heap.size W w')
theorem set5_all (v0 v1 v2 v3 v4 z0 z1 z2 z3 z4 : Value) : set5 0 v0 v1 v2 v3 v4 #[z0, z1, z2, z3, z4] = #[v0, v1, v2, v3, v4] := rfl
set_option maxHeartbeats 2000000 in
theorem fin54 {Q : Ending → World → Prop} {act : Act} {w : World} {g : Nat} {z : Array Value} {a b m : Int} {t : ByteArray} {u : Value} (hz : w.heap[g]? = some (.cells z 43 (0, 0))) (h5 : z.size = 5) (h2 : act.tmps[2]? = some (.pointer (some ⟨g, 0, none⟩))) (hd : act.defers = [])
    (h : Q (.returned (.agg #[.int .i64 a, .int .i64 b, .int .i64 m, .string t, u])) (set5w g 0 (.int .i64 a) (.int .i64 b) (.int .i64 m) (.string t) u w)) :
    bodyPost Try.prog Try.f54 Q Exit.ret act (set5w g 0 (.int .i64 a) (.int .i64 b) (.int .i64 m) (.string t) u w) := by
  obtain ⟨z0, z1, z2, z3, z4, rfl⟩ : ∃ z0 z1 z2 z3 z4, z = #[z0, z1, z2, z3, z4] := by
    match z, h5 with
    | ⟨[a, b, c, d, e]⟩, _ => exact ⟨a, b, c, d, e, rfl⟩
  obtain ⟨Wf, hWf⟩ : ∃ Wf, Wf = set5w g 0 (.int .i64 a) (.int .i64 b) (.int .i64 m) (.string t) u w := ⟨_, rfl⟩
  rw [← hWf] at h ⊢
  have hRf : Wf.heap[g]? = some (.cells #[.int .i64 a, .int .i64 b, .int .i64 m, .string t, u] 43 (0, 0)) := by rw [hWf, set5w_at g 0 _ _ _ _ _ w _ _ hz, set5_all]
  have t0 : Wf.cell? ⟨g, 0, none⟩ = some (.int .i64 a) := (blk_cell hRf 0).trans rfl
  have t1 : Wf.cell? ⟨g, 1, none⟩ = some (.int .i64 b) := (blk_cell hRf 1).trans rfl
  have t2 : Wf.cell? ⟨g, 2, none⟩ = some (.int .i64 m) := (blk_cell hRf 2).trans rfl
  have t3 : Wf.cell? ⟨g, 3, none⟩ = some (.string t) := (blk_cell hRf 3).trans rfl
  have t4 : Wf.cell? ⟨g, 4, none⟩ = some u := (blk_cell hRf 4).trans rfl
  exact bodyPost_ret (v := .agg #[.int .i64 a, .int .i64 b, .int .i64 m, .string t, u]) (by simp [results, Try.results54, go_sem, h2, t0, t1, t2, t3, t4]) hd h
set_option maxHeartbeats 4000000 in
set_option maxRecDepth 100000 in
theorem copy_any (W : World) (v : S43) (A : Option Addr) (c : Nat) (hC : Kd.C k43 W A v.f4.length v.f4) : Calls Try.prog 54 #[v43 v A c] W (CopyP v A c W) := by
  have hx := heap_alloc_new W (.cells #[.int .i64 v.f0, .int .i64 v.f1, .int .i64 v.f2, .string v.f3, .slice A v.f4.length c] 43)
  have hz := heap_alloc_new (W.alloc (.cells #[.int .i64 v.f0, .int .i64 v.f1, .int .i64 v.f2, .string v.f3, .slice A v.f4.length c] 43)) (.cells #[.int .i64 0, .int .i64 0, .int .i64 0, .string ⟨#[]⟩, .slice none 0 0] 43)
  rw [alloc_size] at hz
  have HX := Lib.hid (blk_alloc hx (.cells #[.int .i64 0, .int .i64 0, .int .i64 0, .string ⟨#[]⟩, .slice none 0 0] 43))
  have HZ := Lib.hid hz
  have HB := Lib.hid (below_alloc (below_alloc (Below.refl W.heap.size W) (.cells #[.int .i64 v.f0, .int .i64 v.f1, .int .i64 v.f2, .string v.f3, .slice A v.f4.length c] 43)) (.cells #[.int .i64 0, .int .i64 0, .int .i64 0, .string ⟨#[]⟩, .slice none 0 0] 43))
  have HN := Lib.hid (fun W1 (h : Below W.heap.size W W1) => rcounted_any (nd v) v A c 0 1 W1 (Nat.le_refl _) (by omega) (by omega) (by omega) (by omega) (Kd.C_below hC h))
  have HCT := Lib.hid (fun r (h : CtdP v 1 0 r) => ctd_small h)
  have HCP := Lib.hid (fun W1 (hs : smallB v = true) (h : Below W.heap.size W W1) => copied_own W1 v A c (by unfold smallB at hs; simp only [Bool.and_eq_true, decide_eq_true_eq] at hs; omega) (Kd.C_below hC h))
  unfold OwnP at HCP
  unfold v43 at HN HCP ⊢
  clear hx hz hC
  go_enter Try.func54, Try.ntmps54
  go_wp2_with fail
  refine (HN.out _ HB.out).mono ?_
  rintro e w1 ⟨r, rfl, hP, hw1⟩
  have hr := HCT.out r hP
  have HX1 := Lib.hid ((hw1.block _ (blk_lt HX.out)).trans HX.out)
  have HZ1 := Lib.hid ((hw1.block _ (blk_lt HZ.out)).trans HZ.out)
  have HB1 := Lib.hid (HB.out.trans (hw1.mono HB.out.size))
  obtain ⟨b0, b1, b2, b3, b4⟩ := box43 HX1.out
  clear hw1 HN hP HX HZ HB HCT
  cases hs : smallB v with
  | false =>
    rw [hs] at hr
    have g1 : decide (r > 4096) = true := by rw [decide_eq_false_iff_not] at hr; exact decide_eq_true (by omega)
    have HS := Lib.hid hs
    have hz := HZ1.out
    have z0 : w1.cell? ⟨W.heap.size + 1, 0, none⟩ = some (.int .i64 0) := (blk_cell hz 0).trans rfl
    have fz0 := blk_frozen hz 0
    have z1 : w1.cell? ⟨W.heap.size + 1, 1, none⟩ = some (.int .i64 0) := (blk_cell hz 1).trans rfl
    have fz1 := blk_frozen hz 1
    have z2 : w1.cell? ⟨W.heap.size + 1, 2, none⟩ = some (.int .i64 0) := (blk_cell hz 2).trans rfl
    have fz2 := blk_frozen hz 2
    have z3 : w1.cell? ⟨W.heap.size + 1, 3, none⟩ = some (.string ⟨#[]⟩) := (blk_cell hz 3).trans rfl
    have fz3 := blk_frozen hz 3
    have z4 : w1.cell? ⟨W.heap.size + 1, 4, none⟩ = some (.slice none 0 0) := (blk_cell hz 4).trans rfl
    have fz4 := blk_frozen hz 4
    clear hz hs hr HCP
    go_wp2
    exact fin54 HZ1.out rfl rfl rfl (.inr ⟨HS.out, rfl, set5w_below HB1.out _ _ (by omega) _ _ _ _ _⟩)
  | true =>
    rw [hs] at hr
    have g1 : decide (r > 4096) = false := by rw [decide_eq_true_eq] at hr; exact decide_eq_false (by omega)
    have HS := Lib.hid hs
    have HC1 := Lib.hid (HCP.out w1 hs HB1.out)
    clear hs hr HCP
    go_wp2_with fail
    refine HC1.out.mono ?_
    rintro e w2 ⟨A2, c2, rfl, hR, hlc, hw2⟩
    have HZ2 := Lib.hid ((hw2.block _ (blk_lt HZ1.out)).trans HZ1.out)
    have HB2 := Lib.hid (HB1.out.trans (hw2.mono HB1.out.size))
    have HR2 := Lib.hid hR
    have hsz : W.heap.size + 1 < w1.heap.size := blk_lt HZ1.out
    have HSZ := Lib.hid hsz
    have hz := HZ2.out
    have z0 : w2.cell? ⟨W.heap.size + 1, 0, none⟩ = some (.int .i64 0) := (blk_cell hz 0).trans rfl
    have fz0 := blk_frozen hz 0
    have z1 : w2.cell? ⟨W.heap.size + 1, 1, none⟩ = some (.int .i64 0) := (blk_cell hz 1).trans rfl
    have fz1 := blk_frozen hz 1
    have z2 : w2.cell? ⟨W.heap.size + 1, 2, none⟩ = some (.int .i64 0) := (blk_cell hz 2).trans rfl
    have fz2 := blk_frozen hz 2
    have z3 : w2.cell? ⟨W.heap.size + 1, 3, none⟩ = some (.string ⟨#[]⟩) := (blk_cell hz 3).trans rfl
    have fz3 := blk_frozen hz 3
    have z4 : w2.cell? ⟨W.heap.size + 1, 4, none⟩ = some (.slice none 0 0) := (blk_cell hz 4).trans rfl
    have fz4 := blk_frozen hz 4
    have HLC := Lib.hid hlc
    clear hz hw2 hR hsz hlc HC1 b0 b1 b2 b3 b4
    go_wp2
    refine fin54 HZ2.out rfl rfl rfl (.inl ⟨HS.out, A2, c2, rfl, ?_, HLC.out, set5w_below HB2.out _ _ (by omega) _ _ _ _ _⟩)
    have hR2 := Kd.R_mono (Kd.R_lower (Kd.R_mono (Kd.R_bound HR2.out) (fun k hk => (⟨by have := HSZ.out; omega, trivial⟩ : k ≠ W.heap.size + 1 ∧ True))) (show W.heap.size ≤ w1.heap.size by have := HSZ.out; omega)) (fun k hk => hk.1)
    exact Kd.R_mono (Kd.R_far (p := ⟨W.heap.size + 1, 4, none⟩) (Kd.R_far (p := ⟨W.heap.size + 1, 3, none⟩) (Kd.R_far (p := ⟨W.heap.size + 1, 2, none⟩) (Kd.R_far (p := ⟨W.heap.size + 1, 1, none⟩) (Kd.R_far (p := ⟨W.heap.size + 1, 0, none⟩) hR2 (fun _ hk => hk) _) (fun _ hk => hk) _) (fun _ hk => hk) _) (fun _ hk => hk) _) (fun _ hk => hk) _) (fun _ _ => trivial)
end Go.Proofs.Ytofinglgnkdflaa
