/- Layer 26: Back: its own law in whole numbers; the walk. -/
import Derived.Test.YtofinglgnkdflaaLXL
import Derived.Test.YtofinglgnkdflaaLXM
import Derived.Laws.Entries
import Derived.BigQuiet
section
namespace Go.Proofs.Ytofinglgnkdflaa
open Go.RowKit
open Go.Proofs.Ytofinglgnkdflaa.PHistoryChecks Go.Proofs.YtofinglgnkdflaaW.PrintWords Go.Proofs.YtofinglgnkdflaaW.PrintLast Go.Proofs.YtofinglgnkdflaaW.PrintMore
set_option linter.unusedVariables false
set_option linter.unusedSimpArgs false
theorem cm_cells {w : World} {b : Nat} {x y : S43} {A B : Option Addr} {c d : Nat} (h1 : w.heap[b]? = some (.cells #[.int .i64 x.f0, .int .i64 x.f1, .int .i64 x.f2, .string x.f3, .slice A x.f4.length c] 43 (0, 0))) (h2 : w.heap[b + 1]? = some (.cells #[.int .i64 y.f0, .int .i64 y.f1, .int .i64 y.f2, .string y.f3, .slice B y.f4.length d] 43 (0, 0))) :
    w.cell? ⟨b, 0, none⟩ = some (.int .i64 x.f0) ∧ w.cell? ⟨b, 1, none⟩ = some (.int .i64 x.f1) ∧ w.cell? ⟨b, 2, none⟩ = some (.int .i64 x.f2) ∧ w.cell? ⟨b, 3, none⟩ = some (.string x.f3) ∧ w.cell? ⟨b, 4, none⟩ = some (.slice A x.f4.length c) ∧ w.cell? ⟨b + 1, 0, none⟩ = some (.int .i64 y.f0) ∧ w.cell? ⟨b + 1, 1, none⟩ = some (.int .i64 y.f1) ∧ w.cell? ⟨b + 1, 2, none⟩ = some (.int .i64 y.f2) ∧ w.cell? ⟨b + 1, 3, none⟩ = some (.string y.f3) ∧ w.cell? ⟨b + 1, 4, none⟩ = some (.slice B y.f4.length d) :=
  ⟨(blk_cell h1 0).trans rfl, (blk_cell h1 1).trans rfl, (blk_cell h1 2).trans rfl, (blk_cell h1 3).trans rfl, (blk_cell h1 4).trans rfl, (blk_cell h2 0).trans rfl, (blk_cell h2 1).trans rfl, (blk_cell h2 2).trans rfl, (blk_cell h2 3).trans rfl, (blk_cell h2 4).trans rfl⟩
set_option maxHeartbeats 2000000 in
set_option maxRecDepth 100000 in
theorem Compare_right (x y : S43) (A B : Option Addr) (c d : Nat) (W : World) (hx : rightV x = true) (hy : rightV y = true) (hTx : okT x) (hTy : okT y) (hCx : Kd.C k43 W A x.f4.length x.f4) (hcx : x.f4.length ≤ c) (hCy : Kd.C k43 W B y.f4.length y.f4) (hcy : y.f4.length ≤ d) :
    Calls Try.prog 80 #[v43 x A c, v43 y B d] W (fun e w' => e = .returned (.int .i64 (ordV x y)) ∧ Below W.heap.size W w') := by
  have HC1 := Lib.hid (fun W1 (h : Below W.heap.size W W1) => Check_any x A c W1 hTx (Kd.C_below hCx h) hcx)
  have HC2 := Lib.hid (fun W1 (h : Below W.heap.size W W1) => Check_any y B d W1 hTy (Kd.C_below hCy h) hcy)
  have HOR := Lib.hid (fun W1 (h : Below W.heap.size W W1) => order_any (nd x) x y A B c d W1 (Nat.le_refl _) (Kd.C_below hCx h) hcx (Kd.C_below hCy h) hcy)
  rw [show chkI x = 0 from by unfold chkI; rw [hx]; rfl] at HC1
  rw [show chkI y = 0 from by unfold chkI; rw [hy]; rfl] at HC2
  unfold OrdP at HOR
  obtain ⟨rr, hrr⟩ : ∃ r, r = ordV x y := ⟨_, rfl⟩
  rw [← hrr] at HOR ⊢
  have HA1 := heap_alloc_new W (.cells #[.int .i64 x.f0, .int .i64 x.f1, .int .i64 x.f2, .string x.f3, .slice A x.f4.length c] 43)
  have HA2 := heap_alloc_new (W.alloc (.cells #[.int .i64 x.f0, .int .i64 x.f1, .int .i64 x.f2, .string x.f3, .slice A x.f4.length c] 43)) (.cells #[.int .i64 y.f0, .int .i64 y.f1, .int .i64 y.f2, .string y.f3, .slice B y.f4.length d] 43)
  rw [alloc_size] at HA2
  have HX2 := Lib.hid (blk_alloc HA1 (.cells #[.int .i64 y.f0, .int .i64 y.f1, .int .i64 y.f2, .string y.f3, .slice B y.f4.length d] 43))
  have HY2 := Lib.hid HA2
  have HB2 := Lib.hid (below_alloc (below_alloc (Below.refl W.heap.size W) (.cells #[.int .i64 x.f0, .int .i64 x.f1, .int .i64 x.f2, .string x.f3, .slice A x.f4.length c] 43)) (.cells #[.int .i64 y.f0, .int .i64 y.f1, .int .i64 y.f2, .string y.f3, .slice B y.f4.length d] 43))
  have HD2 := Lib.hid (below_drew HB2.out)
  unfold v43 at HC1 HC2 HOR ⊢
  clear hx hy hTx hTy hCx hcx hCy hcy HA1 HA2 hrr
  go_enter Try.func80, Try.ntmps80
  go_wp2
  obtain ⟨W2, hW2⟩ : ∃ W2, W2 = (W.alloc (.cells #[.int .i64 x.f0, .int .i64 x.f1, .int .i64 x.f2, .string x.f3, .slice A x.f4.length c] 43)).alloc (.cells #[.int .i64 y.f0, .int .i64 y.f1, .int .i64 y.f2, .string y.f3, .slice B y.f4.length d] 43) := ⟨_, rfl⟩
  rw [← hW2] at HX2 HY2 HB2 HD2 ⊢
  clear hW2
  refine wp_region_held_drew (S := (fun w => w.cell? ⟨W.heap.size, 0, none⟩ = some (.int .i64 x.f0) ∧ w.cell? ⟨W.heap.size, 1, none⟩ = some (.int .i64 x.f1) ∧ w.cell? ⟨W.heap.size, 2, none⟩ = some (.int .i64 x.f2) ∧ w.cell? ⟨W.heap.size, 3, none⟩ = some (.string x.f3) ∧ w.cell? ⟨W.heap.size, 4, none⟩ = some (.slice A x.f4.length c) ∧ w.cell? ⟨W.heap.size + 1, 0, none⟩ = some (.int .i64 y.f0) ∧ w.cell? ⟨W.heap.size + 1, 1, none⟩ = some (.int .i64 y.f1) ∧ w.cell? ⟨W.heap.size + 1, 2, none⟩ = some (.int .i64 y.f2) ∧ w.cell? ⟨W.heap.size + 1, 3, none⟩ = some (.string y.f3) ∧ w.cell? ⟨W.heap.size + 1, 4, none⟩ = some (.slice B y.f4.length d))) (by kernel_rfl) ?_ (fun hHeld => ?_)
  · exact cm_cells HX2.out HY2.out
  refine runH 0 (v := ?v0) rfl (by kernel_rfl) (fun _ _ _ h => h) (by assumption) (by rfl) ?y0 ?r0
  case y0 => (intro w hSw; (try dsimp only at hSw); go_simp; try with_reducible rfl)
  try simp only [Act.put, List.setIfInBounds_toArray, List.set_cons_zero, List.set_cons_succ]
  refine runH 3 (v := ?v3) rfl (by kernel_rfl) (fun _ _ _ h => h) (by assumption) (by rfl) ?y3 ?r3
  case y3 => (intro w hSw; (try dsimp only at hSw); go_simp; try with_reducible rfl)
  try simp only [Act.put, List.setIfInBounds_toArray, List.set_cons_zero, List.set_cons_succ]
  refine wpAnyH_ready (rs := [1]) (by kernel_rfl) (by simp) ?_
  refine AllReadyH.cons rfl (fun K hK => ?_) AllReadyH.nil
  · go_simp
    go_at_call 79; refine (HC1.out W2.drew (below_drew HB2.out)).mono ?_; rintro e w5 ⟨rfl, hw5⟩; have HX5 := Lib.hid ((hw5.block _ (by have := blk_lt HX2.out; exact this)).trans HX2.out); have HY5 := Lib.hid ((hw5.block _ (by have := blk_lt HY2.out; exact this)).trans HY2.out); have HB5 := Lib.hid (HD2.out.trans (hw5.mono HD2.out.size)); clear hw5
    go_wp2_with fail
    refine hK.out _ _ ?_ (fun hHeld2 => ?_)
    · exact cm_cells HX5.out HY5.out
    clear hK K hHeld
    rename _ => hHeld
    try simp only [Act.put, List.setIfInBounds_toArray, List.set_cons_zero, List.set_cons_succ]
    refine runH 2 (v := ?vp2) rfl (by kernel_rfl) (fun _ _ _ h => h) (by assumption) (by rfl) ?yp2 ?rp2
    case yp2 => (intro w hSw; (try dsimp only at hSw); go_simp; try with_reducible rfl)
    try simp only [Act.put, List.setIfInBounds_toArray, List.set_cons_zero, List.set_cons_succ]
    refine wpAnyH_ready (rs := [4]) (by kernel_rfl) (by simp) ?_
    refine AllReadyH.cons rfl (fun K hK => ?_) AllReadyH.nil
    go_simp
    go_at_call 79; refine (HC2.out _ HB5.out).mono ?_; rintro e w6 ⟨rfl, hw6⟩; have HX6 := Lib.hid ((hw6.block _ (by have := blk_lt HX5.out; exact this)).trans HX5.out); have HY6 := Lib.hid ((hw6.block _ (by have := blk_lt HY5.out; exact this)).trans HY5.out); have HB6 := Lib.hid (HB5.out.trans (hw6.mono HB5.out.size)); clear hw6
    go_wp2_with fail
    refine hK.out _ _ ?_ (fun hHeld2 => ?_)
    · exact cm_cells HX6.out HY6.out
    clear hK K hHeld
    rename _ => hHeld
    try simp only [Act.put, List.setIfInBounds_toArray, List.set_cons_zero, List.set_cons_succ]
    refine runH 5 (v := ?vpz5) rfl (by kernel_rfl) (fun _ _ _ h => h) (by assumption) (by rfl) ?ypz5 ?rpz5
    case ypz5 => (intro w hSw; (try dsimp only at hSw); go_simp; try with_reducible rfl)
    try simp only [Act.put, List.setIfInBounds_toArray, List.set_cons_zero, List.set_cons_succ]
    refine runH 6 (v := ?vpz6) rfl (by kernel_rfl) (fun _ _ _ h => h) (by assumption) (by rfl) ?ypz6 ?rpz6
    case ypz6 => (intro w hSw; (try dsimp only at hSw); go_simp; try with_reducible rfl)
    try simp only [Act.put, List.setIfInBounds_toArray, List.set_cons_zero, List.set_cons_succ]
    refine runH 7 (v := ?vpz7) rfl (by kernel_rfl) (fun _ _ _ h => h) (by assumption) (by rfl) ?ypz7 ?rpz7
    case ypz7 => (intro w hSw; (try dsimp only at hSw); go_simp; try with_reducible rfl)
    try simp only [Act.put, List.setIfInBounds_toArray, List.set_cons_zero, List.set_cons_succ]
    refine wpAnyH_done (by kernel_rfl) ?_ _
    have k0 := HX6.out
    have k1 := HY6.out
    have u0 : w6.cell? ⟨W.heap.size, 0, none⟩ = some (.int .i64 x.f0) := (blk_cell k0 0).trans rfl
    have u1 : w6.cell? ⟨W.heap.size, 1, none⟩ = some (.int .i64 x.f1) := (blk_cell k0 1).trans rfl
    have u2 : w6.cell? ⟨W.heap.size, 2, none⟩ = some (.int .i64 x.f2) := (blk_cell k0 2).trans rfl
    have u3 : w6.cell? ⟨W.heap.size, 3, none⟩ = some (.string x.f3) := (blk_cell k0 3).trans rfl
    have u4 : w6.cell? ⟨W.heap.size, 4, none⟩ = some (.slice A x.f4.length c) := (blk_cell k0 4).trans rfl
    have v0 : w6.cell? ⟨W.heap.size + 1, 0, none⟩ = some (.int .i64 y.f0) := (blk_cell k1 0).trans rfl
    have v1 : w6.cell? ⟨W.heap.size + 1, 1, none⟩ = some (.int .i64 y.f1) := (blk_cell k1 1).trans rfl
    have v2 : w6.cell? ⟨W.heap.size + 1, 2, none⟩ = some (.int .i64 y.f2) := (blk_cell k1 2).trans rfl
    have v3 : w6.cell? ⟨W.heap.size + 1, 3, none⟩ = some (.string y.f3) := (blk_cell k1 3).trans rfl
    have v4 : w6.cell? ⟨W.heap.size + 1, 4, none⟩ = some (.slice B y.f4.length d) := (blk_cell k1 4).trans rfl
    clear k0 k1
    go_wp2_with fail
    refine (HOR.out _ HB6.out).mono ?_
    rintro e w9 ⟨rfl, hw9⟩
    have HF := Lib.hid (HB6.out.trans (hw9.mono HB6.out.size))
    clear hw9
    go_wp2
    go_ret
    exact ⟨rfl, HF.out⟩
end Go.Proofs.Ytofinglgnkdflaa
end
section
namespace Go.Proofs.Ytofinglgnkdflaa
open Go.RowKit
open Go.Proofs.Ytofinglgnkdflaa.PHistoryChecks Go.Proofs.YtofinglgnkdflaaW.PrintWords Go.Proofs.YtofinglgnkdflaaW.PrintLast Go.Proofs.YtofinglgnkdflaaW.PrintMore
set_option linter.unusedVariables false
set_option linter.unusedSimpArgs false
theorem run_store_complex' (P : Program) (w : World) (a : Addr) (m : Mode) (k : FloatKind) (x y : Nat) : (store a (.complex k x y) m).run P w = stored P w a (.complex k x y) m := run_store P w a _ m rfl
attribute [local go_sem] run_store_complex'
def backJ (l : List S43) (r : Nat) : Nat → Int × Int
  | 0 => (0, 0)
  | j + 1 => ((backJ l r j).1 + ((rd_T43 l j).f1 * (ipow (3 * j * r % 4)).1 - (rd_T43 l j).f2 * (ipow (3 * j * r % 4)).2), (backJ l r j).2 + ((rd_T43 l j).f1 * (ipow (3 * j * r % 4)).2 + (rd_T43 l j).f2 * (ipow (3 * j * r % 4)).1))
def backC (l : List S43) (r : Nat) : Int := (backJ l r 4).1.tdiv 4
def backL (l : List S43) (n : Nat) : List Int := (List.range n).map (backC l)
def okBs (l : List S43) : Prop := l.length = 4 ∧ ∀ i : Int, 0 ≤ i → i < 4 → (rd_T43 l i).f0 = 3 ∧ rightV (rd_T43 l i) = true
def sameBs (l : List S43) : Prop := okCs (backL l 4) ∧ ∀ j : Nat, j < 4 → ordV (sumV (backL l 4) j) (rd_T43 l j) = 0
def BackP (l : List S43) (W : World) (e : Ending) (w' : World) : Prop :=
  Below W.heap.size W w' ∧ ((¬ (okBs l ∧ sameBs l) ∧ e = .returned (.tuple #[.slice none 0 0, .int .i64 260])) ∨ (okBs l ∧ sameBs l ∧ ∃ v, e = .returned (.tuple #[v, .int .i64 0]) ∧ (Kd.int .i64).R 3 w' W.heap.size (fun _ => True) v (backL l 4)))
theorem back_bad {l : List S43} {W w' : World} (h : ¬ (okBs l ∧ sameBs l)) (hb : Below W.heap.size W w') : BackP l W (.returned (.tuple #[.slice none 0 0, .int .i64 260])) w' := ⟨hb, .inl ⟨h, rfl⟩⟩
theorem right_gauss {v : S43} (h0 : v.f0 = 3) (h : rightV v = true) : v = gaussV v.f1 v.f2 ∧ partB v.f1 = true ∧ partB v.f2 = true := by
  obtain ⟨k, i, m, t, l⟩ := v
  simp only at h0
  subst h0
  unfold rightV at h
  rw [Bool.and_eq_true] at h
  have h2 := h.2
  simp only [formV] at h2
  rw [if_neg (by decide), if_neg (by decide), if_pos trivial] at h2
  unfold plainB at h2
  simp only [Bool.and_eq_true] at h2
  obtain ⟨⟨⟨h3, h4⟩, h5⟩, h6⟩ := h2
  have h7 : l = [] := List.isEmpty_iff.1 h4
  have h8 : t.data.toList = [] := by
    unfold emB at h3
    have h9 := List.isEmpty_iff.1 h3
    rw [← h9]; exact (ByteArray.toList_eq t).symm
  have h10 : t = ⟨#[]⟩ := by
    obtain ⟨⟨d⟩⟩ := t
    simp only at h8
    subst h8; rfl
  subst h7 h10
  exact ⟨rfl, h5, h6⟩
theorem right_gaussV {a b : Int} (h1 : partB a = true) (h2 : partB b = true) : rightV (gaussV a b) = true := by
  unfold rightV
  rw [Bool.and_eq_true]
  refine ⟨by unfold smallB; simp [gaussV, nd, ndL, dp, dpL], ?_⟩
  simp only [gaussV, formV]
  rw [if_neg (by decide), if_neg (by decide), if_pos trivial, h1, h2]
  have he : emB ⟨#[]⟩ = true := by unfold emB; rw [ByteArray.toList_eq]; rfl
  unfold plainB
  rw [he]; rfl
def zCs (zs : List (Nat × Nat)) : Array Value := (zs.map (fun p => Value.complex .f64 p.1 p.2)).toArray
def ZA (w : World) (g : Nat) (zs : List (Nat × Nat)) : Prop := w.heap[g]? = some (.cells (zCs zs) 128 (0, 0))
section
variable {w w1 : World} {g : Nat} {zs : List (Nat × Nat)}
theorem ZA.cell (h : ZA w g zs) (i : Nat) (h1 : i < zs.length) : w.cell? ⟨g, i, none⟩ = some (.complex .f64 (zs.getD i (0, 0)).1 (zs.getD i (0, 0)).2) := by
  refine (blk_cell h i).trans ?_
  unfold zCs
  rw [List.getElem?_toArray, List.getElem?_map, List.getElem?_eq_getElem h1, List.getD_eq_getElem?_getD, List.getElem?_eq_getElem h1]; rfl
theorem ZA.set (h : ZA w g zs) (i : Nat) (p : Nat × Nat) : ZA (w.setCell ⟨g, i, none⟩ (.complex .f64 p.1 p.2)) g (zs.set i p) := by
  have := blk_set h i (.complex .f64 p.1 p.2)
  unfold ZA zCs at *
  rw [this, List.map_set]
  simp
theorem ZA.lt (h : ZA w g zs) : g < w.heap.size := blk_lt h
theorem ZA.frozen (h : ZA w g zs) (i : Nat) : w.frozen? ⟨g, i, none⟩ = false := blk_frozen h i
theorem ZA.below (h : ZA w g zs) (hb : Below w.heap.size w w1) : ZA w1 g zs := (hb.block g (blk_lt h)).trans h
end
theorem under2s : (Try.prog.underlying 2).isSome = true := by kernel_rfl
theorem getD_set {zs : List (Nat × Nat)} (i k : Nat) (p : Nat × Nat) (hk : k < zs.length) : (zs.set i p).getD k (0, 0) = if i = k then p else zs.getD k (0, 0) := by
  rw [List.getD_eq_getElem?_getD, List.getD_eq_getElem?_getD, List.getElem?_set]
  by_cases e : i = k
  · rw [if_pos e, if_pos e, if_pos (by omega)]; rfl
  · rw [if_neg e, if_neg e]
theorem pw_q2 (j r : Nat) (hj : j < 4) (hr : r < 4) : (wrap64 ((wrap64 (-(j : Int) * (r : Int))).tmod 4 + 4)).tmod 4 = ((3 * j * r % 4 : Nat) : Int) := by
  have h1 : j = 0 ∨ j = 1 ∨ j = 2 ∨ j = 3 := by omega
  have h2 : r = 0 ∨ r = 1 ∨ r = 2 ∨ r = 3 := by omega
  rcases h1 with rfl | rfl | rfl | rfl <;> rcases h2 with rfl | rfl | rfl | rfl <;> decide +kernel
theorem part_mul2 {n a : Int} (hn : -1048576 ≤ n ∧ n ≤ 1048576) (ha : a.natAbs ≤ 1) : (n * a).natAbs ≤ 1048576 := by
  rw [Int.natAbs_mul]
  have h1 : n.natAbs ≤ 1048576 := by omega
  calc n.natAbs * a.natAbs ≤ 1048576 * 1 := Nat.mul_le_mul h1 ha
    _ = 1048576 := rfl
def partBs (l : List S43) : Prop := ∀ j : Nat, j < 4 → (-1048576 ≤ (rd_T43 l j).f1 ∧ (rd_T43 l j).f1 ≤ 1048576) ∧ (-1048576 ≤ (rd_T43 l j).f2 ∧ (rd_T43 l j).f2 ≤ 1048576)
theorem part_range {n : Int} (h : partB n = true) : -1048576 ≤ n ∧ n ≤ 1048576 := by unfold partB at h; simpa using h
theorem okBs_part {l : List S43} (h : okBs l) : partBs l := fun j hj => by
  have h1 := h.2 (j : Int) (by omega) (by omega)
  have h2 := right_gauss h1.1 h1.2
  exact ⟨part_range h2.2.1, part_range h2.2.2⟩
theorem small_step {s t m1 m2 m3 m4 : Int} {j : Nat} (h1 : s.natAbs ≤ j * 2097152 ∧ t.natAbs ≤ j * 2097152) (a1 : m1.natAbs ≤ 1048576) (a2 : m2.natAbs ≤ 1048576) (a3 : m3.natAbs ≤ 1048576) (a4 : m4.natAbs ≤ 1048576) :
    (s + (m1 - m2)).natAbs ≤ (j + 1) * 2097152 ∧ (t + (m3 + m4)).natAbs ≤ (j + 1) * 2097152 := by omega
theorem backJ_small {l : List S43} (h : partBs l) (r : Nat) : ∀ j, j ≤ 4 → (backJ l r j).1.natAbs ≤ j * 2097152 ∧ (backJ l r j).2.natAbs ≤ j * 2097152 := by
  intro j
  induction j with
  | zero => intro _; simp [backJ]
  | succ j ih =>
    intro hj
    have h1 := ih (by omega)
    have h2 := h j (by omega)
    have h3 := ipow_small (3 * j * r % 4)
    exact small_step h1 (part_mul2 h2.1 h3.1) (part_mul2 h2.2 h3.2) (part_mul2 h2.1 h3.2) (part_mul2 h2.2 h3.1)
theorem backL_length (l : List S43) (r : Nat) : (backL l r).length = r := by simp [backL]
set_option maxHeartbeats 4000000 in
set_option maxRecDepth 100000 in
theorem Back_any (W : World) (l : List S43) (A : Option Addr) (c : Nat) (hC : Kd.C k43 W A l.length l) (hc : l.length ≤ c) (hT : ∀ x ∈ l, okT x) :
    Calls Try.prog 51 #[.slice A l.length c] W (BackP l W) := by
  have hlm := Kd.C_max hC
  have HC := Lib.hid hC
  have HT := Lib.hid hT
  clear hC hc hT
  by_cases h4 : l.length = 4
  · have h4' : ((l.length : Int) != 4) = false := by rw [bne_eq_false_iff_eq]; omega
    have H4 := Lib.hid h4
    have hl4 : (l.length : Int) = 4 := by omega
    have HZ0 := Lib.hid (show ZA (W.alloc (.cells #[.complex .f64 0 0, .complex .f64 0 0, .complex .f64 0 0, .complex .f64 0 0] 128)) W.heap.size [(0, 0), (0, 0), (0, 0), (0, 0)] from heap_alloc_new W _)
    have HB0 := Lib.hid (below_alloc (Below.refl W.heap.size W) (.cells #[.complex .f64 0 0, .complex .f64 0 0, .complex .f64 0 0, .complex .f64 0 0] 128))
    clear h4
    go_enter Try.func51, Try.ntmps51
    go_wp2
    obtain ⟨gz, hgz⟩ : ∃ gz, gz = W.heap.size := ⟨_, rfl⟩
    obtain ⟨az, haz⟩ : ∃ az : Addr, az = ⟨gz, 0, none⟩ := ⟨_, rfl⟩
    obtain ⟨w0, hw0⟩ : ∃ w0, w0 = W.alloc (.cells #[.complex .f64 0 0, .complex .f64 0 0, .complex .f64 0 0, .complex .f64 0 0] 128) := ⟨_, rfl⟩
    rw [← hw0] at HZ0 HB0 ⊢
    rw [← hgz] at HZ0
    rw [← hgz, ← haz]
    have HGZ := Lib.hid (Nat.le_of_eq hgz.symm)
    have HAZ := Lib.hid haz
    clear hw0 hgz haz
    go_loopw [20] (fun iv wr => ∃ (i : Nat) (zs : List (Nat × Nat)), iv = .int .i64 i ∧ i ≤ 4 ∧ Hid (zs.length = 4) ∧ Hid (∀ k : Nat, k < i → (rd_T43 l k).f0 = 3 ∧ rightV (rd_T43 l k) = true) ∧ Hid (∀ k : Nat, k < i → FI (zs.getD k (0, 0)).1 (rd_T43 l k).f1 ∧ FI (zs.getD k (0, 0)).2 (rd_T43 l k).f2) ∧ Hid (ZA wr gz zs) ∧ Hid (Below W.heap.size W wr)) (fun i _ => 4 - (intOf i).toNat)
    case atStart => exact ⟨0, [(0, 0), (0, 0), (0, 0), (0, 0)], rfl, by omega, rfl, fun k hk => absurd hk (Nat.not_lt_zero _), fun k hk => absurd hk (Nat.not_lt_zero _), HZ0.out, HB0.out⟩
    case round =>
      obtain ⟨i, zs, rfl, hi, HZL, HOK, HFI, HZA, HB⟩ := hrel
      clear HZ0 HB0
      by_cases hlt : i < 4
      · obtain ⟨ad, A4, c4, rfl, x0, x1, x2, x3, x4, hl4c, hC4⟩ := at_T43 (Kd.C_below HC.out HB.out) (i : Int) (by omega) (by omega)
        have hxT := HT.out _ (rd_mem l (i : Int) (by omega) (by omega))
        obtain ⟨x, hx⟩ : ∃ x, x = rd_T43 l (i : Int) := ⟨_, rfl⟩
        rw [← hx] at x0 x1 x2 x3 x4 hl4c hC4 hxT
        simp only [Int.toNat_natCast] at x0 x1 x2 x3 x4
        have HX := Lib.hid hx
        have hil : (i : Int) < (l.length : Int) := by omega
        by_cases h3 : x.f0 = 3
        · have h3' : (x.f0 != 3) = false := by rw [bne_eq_false_iff_eq]; exact h3
          have H3 := Lib.hid h3
          have HCK := Lib.hid (fun W1 (h : Below wr.heap.size wr W1) => Check_any x A4 c4 W1 hxT (Kd.C_below hC4 h) hl4c)
          unfold v43 at HCK
          have hb1 := below_alloc (Below.refl wr.heap.size wr) (.cells #[.int .i64 x.f0, .int .i64 x.f1, .int .i64 x.f2, .string x.f3, .slice A4 x.f4.length c4] 43)
          have HB1 := Lib.hid hb1
          have HX1 := Lib.hid (heap_alloc_new wr (.cells #[.int .i64 x.f0, .int .i64 x.f1, .int .i64 x.f2, .string x.f3, .slice A4 x.f4.length c4] 43))
          clear h3 hx hxT hl4c hC4 hb1
          go_wp2_with fail
          refine (HCK.out _ HB1.out).mono ?_
          rintro e w2 ⟨rfl, hw2⟩
          have hbw := HB1.out.trans (hw2.mono HB1.out.size)
          have HB2 := Lib.hid (HB.out.trans (hbw.mono HB.out.size))
          have HZ2 := Lib.hid (HZA.out.below hbw)
          have HX2 := Lib.hid ((hw2.block _ (blk_lt HX1.out)).trans HX1.out)
          have y1 : w2.cell? ⟨wr.heap.size, 1, none⟩ = some (.int .i64 x.f1) := (blk_cell HX2.out 1).trans rfl
          have y2 : w2.cell? ⟨wr.heap.size, 2, none⟩ = some (.int .i64 x.f2) := (blk_cell HX2.out 2).trans rfl
          clear hw2 hbw HCK HB1 HX1 x0 x1 x2 x3 x4
          rcases hr : rightV x with _ | _
          · have hck : chkI x = 40 := by unfold chkI; rw [hr]; rfl
            have HBAD := Lib.hid (show ¬ (okBs l ∧ sameBs l) from fun h => by have h2 := (h.1.2 (i : Int) (by omega) (by omega)).2; rw [← HX.out, hr] at h2; cases h2)
            rw [hck]
            clear hr hck
            go_wp2
            go_ret2
            exact back_bad HBAD.out HB2.out
          · have hck : chkI x = 0 := by unfold chkI; rw [hr]; rfl
            have hg := right_gauss H3.out hr
            have hp1 : -1048576 ≤ x.f1 ∧ x.f1 ≤ 1048576 := by have := hg.2.1; unfold partB at this; simpa using this
            have hp2 : -1048576 ≤ x.f2 ∧ x.f2 ≤ 1048576 := by have := hg.2.2; unfold partB at this; simpa using this
            have fa := FI.of_int x.f1 (by omega)
            have fb := FI.of_int x.f2 (by omega)
            obtain ⟨za, hza⟩ : ∃ z, z = floatOfInt .f64 x.f1 := ⟨_, rfl⟩
            obtain ⟨zb, hzb⟩ : ∃ z, z = floatOfInt .f64 x.f2 := ⟨_, rfl⟩
            have hc1 : ∀ wx : World, (convert 2 123 (.int .i64 x.f1)).run Try.prog wx = .ok (.float .f64 za) wx := fun wx => by rw [hza]; exact run_convert_int_float wx 2 123 .i64 .f64 _ under2s under123
            have hc2 : ∀ wx : World, (convert 2 123 (.int .i64 x.f2)).run Try.prog wx = .ok (.float .f64 zb) wx := fun wx => by rw [hzb]; exact run_convert_int_float wx 2 123 .i64 .f64 _ under2s under123
            rw [← hza] at fa
            rw [← hzb] at fb
            have zc := HZ2.out.cell i (by have := HZL.out; omega)
            have zf := HZ2.out.frozen i
            have ea := ag_add HAZ.out i
            rw [← ea] at zc zf
            have HZ3 := HZ2.out.set i (za, zb)
            rw [← ea] at HZ3
            replace HZ3 := Lib.hid HZ3
            have HB3 := Lib.hid (HB2.out.setCell (p := az.add i) (by rw [ea]; exact HGZ.out) (.complex .f64 za zb))
            have HZL3 := Lib.hid (show (zs.set i (za, zb)).length = 4 from by rw [List.length_set]; exact HZL.out)
            have HOK3 := Lib.hid (show ∀ k : Nat, k < i + 1 → (rd_T43 l k).f0 = 3 ∧ rightV (rd_T43 l k) = true from fun k hk => by
              by_cases e : k = i
              · subst e; rw [← HX.out]; exact ⟨H3.out, hr⟩
              · exact HOK.out k (by omega))
            have HFI3 := Lib.hid (show ∀ k : Nat, k < i + 1 → FI ((zs.set i (za, zb)).getD k (0, 0)).1 (rd_T43 l k).f1 ∧ FI ((zs.set i (za, zb)).getD k (0, 0)).2 (rd_T43 l k).f2 from fun k hk => by
              rw [getD_set i k _ (by have := HZL.out; omega)]
              by_cases e : i = k
              · rw [if_pos e]; subst e; rw [← HX.out]; exact ⟨fa, fb⟩
              · rw [if_neg e]; exact HFI.out k (by omega))
            rw [hck]
            clear hr hck hg hp1 hp2 fa fb hza hzb ea
            go_wp2
            go_roundw
            case rel => exact ⟨i + 1, _, by simp, hlt, HZL3.out, HOK3.out, HFI3.out, HZ3.out, HB3.out⟩
            case measure => simp [intOf]; omega
        · have h3' : (x.f0 != 3) = true := by rw [bne_iff_ne]; exact h3
          have HBAD := Lib.hid (show ¬ (okBs l ∧ sameBs l) from fun h => by have h2 := (h.1.2 (i : Int) (by omega) (by omega)).1; rw [← HX.out] at h2; exact h3 h2)
          have HB1 := Lib.hid (HB.out.trans ((below_alloc (Below.refl wr.heap.size wr) (.cells #[.int .i64 x.f0, .int .i64 x.f1, .int .i64 x.f2, .string x.f3, .slice A4 x.f4.length c4] 43)).mono HB.out.size))
          clear h3 hx hxT hl4c hC4
          go_wp2
          go_ret2
          exact back_bad HBAD.out HB1.out
      · have hi4 : i = 4 := by omega
        subst hi4
        have hok : okBs l := ⟨H4.out, fun k h0 h1 => by have h := HOK.out k.toNat (by omega); rw [Int.toNat_of_nonneg h0] at h; exact h⟩
        have HOKB := Lib.hid hok
        have HPT := Lib.hid (okBs_part hok)
        obtain ⟨wz, hwz⟩ : ∃ wz : World, wz = wr := ⟨_, rfl⟩
        rw [← hwz] at HZA HB ⊢
        clear hwz wr hok HOK hlt
        go_wp2
        try rw [show ((4 : Nat) : Int) = 4 from rfl]
        go_loopw [43, 7] (fun rv lv wr => ∃ (r : Nat) (A1 : Option Addr) (k1 : Nat), rv = .int .i64 r ∧ lv = .slice A1 (backL l r).length k1 ∧ r ≤ 4 ∧ Hid ((Kd.int .i64).R 3 wr wz.heap.size (fun _ => True) (.slice A1 (backL l r).length k1) (backL l r)) ∧ Hid (Below wz.heap.size wz wr)) (fun r _ _ => 4 - (intOf r).toNat)
        case atStart => exact ⟨0, none, 0, rfl, rfl, by omega, Kd.R_nil _ _ _ _ _, Below.refl _ _⟩
        case round =>
          obtain ⟨r, A1, k1, rfl, rfl, hr, HL, HBJ⟩ := hrel
          by_cases hlt : r < 4
          · obtain ⟨wj, hwj⟩ : ∃ wj : World, wj = wr := ⟨_, rfl⟩
            rw [← hwj] at HL HBJ ⊢
            clear hwj wr
            go_wp2
            try rw [decide_eq_true (show (r : Int) < 4 by omega)]
            go_loopw [46, 9] (fun jv sv wr => ∃ (j re im : Nat), jv = .int .i64 j ∧ sv = .complex .f64 re im ∧ j ≤ 4 ∧ Hid (FI re (backJ l r j).1) ∧ Hid (FI im (backJ l r j).2) ∧ Hid (Below wj.heap.size wj wr)) (fun j _ _ => 4 - (intOf j).toNat)
            case atStart => exact ⟨0, 0, 0, rfl, rfl, by omega, FI.zero, FI.zero, Below.refl _ _⟩
            case round =>
              obtain ⟨j, re, im, rfl, rfl, hj, HFR, HFM, HBR⟩ := hrel
              by_cases hltj : j < 4
              · have hz2 := HZA.out.below (HBJ.out.trans (HBR.out.mono HBJ.out.size))
                have zc := hz2.cell j (by have := HZL.out; omega)
                have ea := ag_add HAZ.out j
                rw [← ea] at zc
                obtain ⟨⟨za, zb⟩, hzz⟩ : ∃ p, p = zs.getD j (0, 0) := ⟨_, rfl⟩
                have hfi := HFI.out j hltj
                rw [← hzz] at zc hfi
                have hpt := HPT.out j hltj
                have hs := backJ_small HPT.out r j hj
                have hp := ipow_small (3 * j * r % 4)
                have a1 := part_mul2 hpt.1 hp.1
                have a2 := part_mul2 hpt.2 hp.2
                have a3 := part_mul2 hpt.1 hp.2
                have a4 := part_mul2 hpt.2 hp.1
                have hpf := ipb_FI (3 * j * r % 4)
                have HPW := Lib.hid (fun W1 => power_q (wrap64 (-(j : Int) * (r : Int))) (3 * j * r % 4) (pw_q2 j r hltj hlt) (Nat.mod_lt _ (by decide)) W1)
                obtain ⟨⟨pa, pb⟩, hpp⟩ : ∃ p, p = ipb (3 * j * r % 4) := ⟨_, rfl⟩
                rw [← hpp] at hpf HPW
                obtain ⟨re2, im2, hm, g1, g2⟩ := FI.cmul hfi.1 hfi.2 hpf.1 hpf.2.1 (by omega) (by omega) (by omega) (by omega)
                obtain ⟨re3, im3, ha, k1', k2'⟩ := FI.csum HFR.out HFM.out g1 g2 (by omega) (by omega)
                have hmul := fun wx => run_complex_mul (P := Try.prog) wx 122 za zb pa pb re2 im2 hm
                have hadd := fun wx => run_complex_sum (P := Try.prog) wx .add (.inl rfl) 122 .f64 re im re2 im2 re3 im3 ha
                have HR3 := Lib.hid (show FI re3 (backJ l r (j + 1)).1 from k1')
                have HI3 := Lib.hid (show FI im3 (backJ l r (j + 1)).2 from k2')
                clear hz2 ea hzz hfi hpt hs hp a1 a2 a3 a4 hpf hpp hm g1 g2 ha k1' k2'
                simp only at zc HPW
                go_wp2
                go_quiet ((go_at_call 76; exact Calls.quiet_of_same (by first | exact HPW.out _ | exact (HPW.out _).mono (fun e w' h => ⟨h.1, h.2.symm⟩))))
                have HBR2 := Lib.hid (pw_below_drewN HBR.out nq)
                go_wp2
                go_roundw
                case rel => exact ⟨j + 1, re3, im3, by simp, rfl, hltj, HR3.out, HI3.out, HBR2.out⟩
                case measure => simp [intOf]; omega
              · have hj4 : j = 4 := by omega
                subst hj4
                obtain ⟨sa, hsa⟩ : ∃ sa, sa = (backJ l r 4).1 := ⟨_, rfl⟩
                rw [← hsa] at HFR
                have hc1 := fun wx => run_convert_float_int (P := Try.prog) wx 123 3 .f64 .i64 re sa under123s Try.underlying3 HFR.out.to_int
                have hsm := backJ_small HPT.out r 4 (Nat.le_refl _)
                have hwr : wrap64 (sa.tdiv 4) = sa.tdiv 4 := by
                  have h1 : (sa.tdiv 4).natAbs = sa.natAbs / 4 := Int.natAbs_tdiv sa 4
                  have h2 : sa.natAbs ≤ 8388608 := by rw [hsa]; omega
                  generalize sa.tdiv 4 = q at *
                  unfold wrap64; omega
                have HSL := Lib.hid (show backL l r ++ [wrap64 (sa.tdiv 4)] = backL l (r + 1) from by rw [hwr, hsa]; simp [backL, List.range_succ, backC])
                have HL1 := Lib.hid (backL_length l r)
                have HL2 := Lib.hid (show (backL l r).length + 1 = (backL l (r + 1)).length from by rw [backL_length, backL_length])
                have HR1 := Lib.hid (Kd.R_below HL.out HBR.out)
                have HB1 := Lib.hid (HBJ.out.trans (HBR.out.mono HBJ.out.size))
                clear hsa hltj hsm hwr
                go_wp2_with (at_builtin; (refine Kd.R_append (w0 := wz) (Kd.int .i64) wz.heap.size rfl _ _ 68 3 _ 8 rfl under68 info3' rfl (by decide) (by decide) (.slice A1 (backL l r).length k1) (backL l r) (wrap64 (sa.tdiv 4)) [.int .i64 (wrap64 (sa.tdiv 4))] (fun _ => True) (fun _ => False) rfl rfl rfl (fun _ h => h.elim) (fun _ _ => trivial) HR1.out HB1.out HB1.out.size (by rw [HL1.out]; omega) ?_; intro v1 w3 hR4 hb4 hg4 hat4; rw [HSL.out] at hR4; obtain ⟨A2, k2, rfl⟩ := Kd.R_slice hR4; have HR4 := Lib.hid hR4; have HB5 := Lib.hid hb4; clear hR4 hb4 hg4 hat4))
                go_roundw
                case rel => exact ⟨r + 1, A2, k2, by simp, rfl, by omega, HR4.out, HB5.out⟩
                case measure => simp [intOf]; omega
          · have hr4 : r = 4 := by omega
            subst hr4
            obtain ⟨A2, k2, hv2, hlk2, hC2⟩ := Kd.R_reads HL.out
            have HRR := Lib.hid (Kd.R_lower HL.out HB.out.size)
            have HBW := Lib.hid (HB.out.trans (HBJ.out.mono HB.out.size))
            injection hv2 with e1 _ e2
            subst e1 e2
            have HSU := Lib.hid (Sums_any wr (backL l 4) A1 k1 hC2 hlk2)
            unfold SumsP at HSU
            clear HL HBJ hC2 hlk2 hlt HZA HFI HZL
            go_wp2_with fail
            refine HSU.out.mono ?_
            rintro e w5 ⟨hw5, ⟨hno, rfl⟩ | ⟨hyes, v5, rfl, hv5⟩⟩
            · have HBAD := Lib.hid (show ¬ (okBs l ∧ sameBs l) from fun h => hno h.2.1)
              have HB5 := Lib.hid (HBW.out.trans (hw5.mono HBW.out.size))
              clear hw5 hno HSU
              go_wp2
              go_ret2
              exact back_bad HBAD.out HB5.out
            · have HB5 := Lib.hid (HBW.out.trans (hw5.mono HBW.out.size))
              have HRR5 := Lib.hid (Kd.R_below HRR.out hw5)
              obtain ⟨A5, k5, rfl, hlk5, hC5⟩ := Kd.R_reads hv5
              have hl5 : (sumL (backL l 4) 4).length = 4 := by simp [sumL]
              have HC5 := Lib.hid hC5
              have HYES := Lib.hid hyes
              have hl5i : ((sumL (backL l 4) 4).length : Int) = 4 := by omega
              clear hw5 HSU hv5 hC5 hyes HRR
              go_wp2
              go_loopw [78] (fun iv wr => ∃ i : Nat, iv = .int .i64 i ∧ i ≤ 4 ∧ Hid (∀ k : Nat, k < i → ordV (sumV (backL l 4) k) (rd_T43 l k) = 0) ∧ Hid (Below w5.heap.size w5 wr)) (fun i _ => 4 - (intOf i).toNat)
              case atStart => exact ⟨0, rfl, by omega, fun k hk => absurd hk (Nat.not_lt_zero _), Below.refl _ _⟩
              case round =>
                obtain ⟨i, rfl, hi2, HEQ, HBI⟩ := hrel
                by_cases hlt : i < 4
                · obtain ⟨ad5, A6, c6, rfl, x0, x1, x2, x3, x4, hl6, hC6⟩ := at_T43 (Kd.C_below HC5.out HBI.out) (i : Int) (by omega) (by omega)
                  obtain ⟨ad, A4, c4, rfl, y0, y1, y2, y3, y4, hl4c, hC4⟩ := at_T43 (Kd.C_below HC.out (HB5.out.trans (HBI.out.mono HB5.out.size))) (i : Int) (by omega) (by omega)
                  have hyT := HT.out _ (rd_mem l (i : Int) (by omega) (by omega))
                  have hyR := (HOKB.out.2 (i : Int) (by omega) (by omega)).2
                  have hsv : rd_T43 (sumL (backL l 4) 4) (i : Int) = sumV (backL l 4) i := by
                    unfold rd_T43 sumL
                    rw [Int.toNat_natCast, List.getD_eq_getElem?_getD, List.getElem?_map, List.getElem?_range hlt]; rfl
                  rw [hsv] at x0 x1 x2 x3 x4 hl6 hC6
                  obtain ⟨y, hy⟩ : ∃ y, y = rd_T43 l (i : Int) := ⟨_, rfl⟩
                  rw [← hy] at y0 y1 y2 y3 y4 hl4c hC4 hyT hyR
                  simp only [Int.toNat_natCast] at x0 x1 x2 x3 x4 y0 y1 y2 y3 y4
                  have hxp := sum_part HYES.out i
                  obtain ⟨xa, hxa⟩ : ∃ q, q = (sumJ (backL l 4) i 4).1 := ⟨_, rfl⟩
                  obtain ⟨xb, hxb⟩ : ∃ q, q = (sumJ (backL l 4) i 4).2 := ⟨_, rfl⟩
                  have hxg : sumV (backL l 4) i = gaussV xa xb := by rw [hxa, hxb]; rfl
                  rw [← hxa, ← hxb] at hxp
                  rw [hxg] at x0 x1 x2 x3 x4 hl6 hC6
                  have hxR : rightV (gaussV xa xb) = true := right_gaussV hxp.1 hxp.2
                  have HCM := Lib.hid (fun W1 (h : Below wr.heap.size wr W1) => Compare_right (gaussV xa xb) y A6 A4 c6 c4 W1 hxR hyR ⟨by decide, trivial⟩ hyT (Kd.C_below hC6 h) hl6 (Kd.C_below hC4 h) hl4c)
                  obtain ⟨od, hod⟩ : ∃ q, q = ordV (gaussV xa xb) y := ⟨_, rfl⟩
                  rw [← hod] at HCM
                  have HOD := Lib.hid (show od = ordV (sumV (backL l 4) i) (rd_T43 l (i : Int)) from by rw [hod, hxg, hy])
                  have HCM2 : Hid (∀ W1 : World, Below wr.heap.size wr W1 → Calls Try.prog 80 #[.agg #[.int .i64 3, .int .i64 xa, .int .i64 xb, .string ⟨#[]⟩, .slice A6 0 c6], .agg #[.int .i64 y.f0, .int .i64 y.f1, .int .i64 y.f2, .string y.f3, .slice A4 y.f4.length c4]] W1 (fun e w' => e = .returned (.int .i64 od) ∧ Below W1.heap.size W1 w')) := Lib.hid HCM.out
                  replace x0 : wr.cell? (ad5.add (i * 5)) = some (.int .i64 3) := x0
                  replace x1 : wr.cell? ⟨(ad5.add (i * 5)).block, (ad5.add (i * 5)).off + 1, none⟩ = some (.int .i64 xa) := x1
                  replace x2 : wr.cell? ⟨(ad5.add (i * 5)).block, (ad5.add (i * 5)).off + 2, none⟩ = some (.int .i64 xb) := x2
                  replace x3 : wr.cell? ⟨(ad5.add (i * 5)).block, (ad5.add (i * 5)).off + 3, none⟩ = some (.string ⟨#[]⟩) := x3
                  replace x4 : wr.cell? ⟨(ad5.add (i * 5)).block, (ad5.add (i * 5)).off + 4, none⟩ = some (.slice A6 0 c6) := x4
                  have hb1 := below_alloc (Below.refl wr.heap.size wr) (.cells #[.int .i64 3, .int .i64 xa, .int .i64 xb, .string ⟨#[]⟩, .slice A6 0 c6] 43)
                  have hx1 := heap_alloc_new wr (.cells #[.int .i64 3, .int .i64 xa, .int .i64 xb, .string ⟨#[]⟩, .slice A6 0 c6] 43)
                  have hil : (i : Int) < (l.length : Int) := by omega
                  replace y0 := pw_cell_below hb1 y0
                  replace y1 := pw_cell_below hb1 y1
                  replace y2 := pw_cell_below hb1 y2
                  replace y3 := pw_cell_below hb1 y3
                  replace y4 := pw_cell_below hb1 y4
                  have HB6 := Lib.hid hb1
                  clear HCM hod hxa hxb hxg hxR hxp hsv hyT hyR hl6 hC6 hl4c hC4 hy hb1
                  go_upto_region 29 with fail
                  obtain ⟨w6, hw6⟩ : ∃ w6, w6 = wr.alloc (.cells #[.int .i64 3, .int .i64 xa, .int .i64 xb, .string ⟨#[]⟩, .slice A6 0 c6] 43) := ⟨_, rfl⟩
                  rw [← hw6] at HB6 hx1 y0 y1 y2 y3 y4 ⊢
                  have b0 : w6.cell? ⟨wr.heap.size, 0, none⟩ = some (.int .i64 3) := (blk_cell hx1 0).trans rfl
                  have b1 : w6.cell? ⟨wr.heap.size, 1, none⟩ = some (.int .i64 xa) := (blk_cell hx1 1).trans rfl
                  have b2 : w6.cell? ⟨wr.heap.size, 2, none⟩ = some (.int .i64 xb) := (blk_cell hx1 2).trans rfl
                  have b3 : w6.cell? ⟨wr.heap.size, 3, none⟩ = some (.string ⟨#[]⟩) := (blk_cell hx1 3).trans rfl
                  have b4 : w6.cell? ⟨wr.heap.size, 4, none⟩ = some (.slice A6 0 c6) := (blk_cell hx1 4).trans rfl
                  clear hw6 hx1 x0 x1 x2 x3 x4
                  refine wp_region_held_drew (S := (fun w => w.cell? ⟨wr.heap.size, 0, none⟩ = some (.int .i64 3) ∧ w.cell? ⟨wr.heap.size, 1, none⟩ = some (.int .i64 xa) ∧ w.cell? ⟨wr.heap.size, 2, none⟩ = some (.int .i64 xb) ∧ w.cell? ⟨wr.heap.size, 3, none⟩ = some (.string ⟨#[]⟩) ∧ w.cell? ⟨wr.heap.size, 4, none⟩ = some (.slice A6 0 c6) ∧ w.cell? (ad.add (i * 5)) = some (.int .i64 y.f0) ∧ w.cell? ⟨(ad.add (i * 5)).block, (ad.add (i * 5)).off + 1, none⟩ = some (.int .i64 y.f1) ∧ w.cell? ⟨(ad.add (i * 5)).block, (ad.add (i * 5)).off + 2, none⟩ = some (.int .i64 y.f2) ∧ w.cell? ⟨(ad.add (i * 5)).block, (ad.add (i * 5)).off + 3, none⟩ = some (.string y.f3) ∧ w.cell? ⟨(ad.add (i * 5)).block, (ad.add (i * 5)).off + 4, none⟩ = some (.slice A4 y.f4.length c4))) (by kernel_rfl) ?_ (fun hHeld => ?_)
                  · exact ⟨b0, b1, b2, b3, b4, y0, y1, y2, y3, y4⟩
                  refine runH 0 (v := ?v0) rfl (by kernel_rfl) (fun _ _ _ h => h) (by assumption) (by rfl) ?y0 ?r0
                  case y0 => (intro w hSw; (try dsimp only at hSw); go_simp; try with_reducible rfl)
                  try simp only [Act.put, List.setIfInBounds_toArray, List.set_cons_zero, List.set_cons_succ]
                  refine runH 1 (v := ?v1) rfl (by kernel_rfl) (fun _ _ _ h => h) (by assumption) (by rfl) ?y1 ?r1
                  case y1 => (intro w hSw; (try dsimp only at hSw); go_simp; try with_reducible rfl)
                  try simp only [Act.put, List.setIfInBounds_toArray, List.set_cons_zero, List.set_cons_succ]
                  refine runH 2 (v := ?v2) rfl (by kernel_rfl) (fun _ _ _ h => h) (by assumption) (by rfl) ?y2 ?r2
                  case y2 => (intro w hSw; (try dsimp only at hSw); go_simp; try with_reducible rfl)
                  try simp only [Act.put, List.setIfInBounds_toArray, List.set_cons_zero, List.set_cons_succ]
                  refine runH 3 (v := ?v3) rfl (by kernel_rfl) (fun _ _ _ h => h) (by assumption) (by rfl) ?y3 ?r3
                  case y3 => (intro w hSw; (try dsimp only at hSw); go_simp; try with_reducible rfl)
                  try simp only [Act.put, List.setIfInBounds_toArray, List.set_cons_zero, List.set_cons_succ]
                  refine runH 4 (v := ?v4) rfl (by kernel_rfl) (fun _ _ _ h => h) (by assumption) (by rfl) ?y4 ?r4
                  case y4 => (intro w hSw; (try dsimp only at hSw); go_simp; try with_reducible rfl)
                  try simp only [Act.put, List.setIfInBounds_toArray, List.set_cons_zero, List.set_cons_succ]
                  refine wpAnyH_ready (rs := [5]) (by kernel_rfl) (by simp) ?_
                  refine AllReadyH.cons rfl (fun K hK => ?_) AllReadyH.nil
                  go_simp
                  go_at_call 80; refine (HCM2.out w6.drew (below_drew HB6.out)).mono ?_; rintro e w7 ⟨rfl, hw7⟩; have hb67 := below_drew HB6.out |>.trans (hw7.mono (below_drew HB6.out).size); have HB7 := Lib.hid hb67; have hk6 : Below w6.heap.size w6 w7 := (below_drew (Below.refl w6.heap.size w6)).trans hw7
                  go_wp2_with fail
                  refine hK.out _ _ ?_ (fun hHeld2 => ?_)
                  · exact ⟨pw_cell_below hk6 b0, pw_cell_below hk6 b1, pw_cell_below hk6 b2, pw_cell_below hk6 b3, pw_cell_below hk6 b4, pw_cell_below hk6 y0, pw_cell_below hk6 y1, pw_cell_below hk6 y2, pw_cell_below hk6 y3, pw_cell_below hk6 y4⟩
                  clear hK K hHeld
                  rename _ => hHeld
                  try simp only [Act.put, List.setIfInBounds_toArray, List.set_cons_zero, List.set_cons_succ]
                  refine runH 6 (v := ?v6) rfl (by kernel_rfl) (fun _ _ _ h => h) (by assumption) (by rfl) ?y6 ?r6
                  case y6 => (intro w hSw; (try dsimp only at hSw); go_simp; try with_reducible rfl)
                  try simp only [Act.put, List.setIfInBounds_toArray, List.set_cons_zero, List.set_cons_succ]
                  refine wpAnyH_done (by kernel_rfl) ?_ _
                  by_cases ho : od = 0
                  · have ho' : (od != 0) = false := by rw [bne_eq_false_iff_eq]; exact ho
                    have HE2 := Lib.hid (show ∀ k : Nat, k < i + 1 → ordV (sumV (backL l 4) k) (rd_T43 l k) = 0 from fun k hk => by
                      by_cases e : k = i
                      · subst e; rw [← HOD.out]; exact ho
                      · exact HEQ.out k (by omega))
                    have HB8 := Lib.hid (HBI.out.trans (HB7.out.mono HBI.out.size))
                    clear ho
                    go_wp2
                    go_roundw
                    case rel => exact ⟨i + 1, by simp, hlt, HE2.out, HB8.out⟩
                    case measure => simp [intOf]; omega
                  · have ho' : (od != 0) = true := by rw [bne_iff_ne]; exact ho
                    have HBAD := Lib.hid (show ¬ (okBs l ∧ sameBs l) from fun h => by have h2 := h.2.2 i hlt; rw [← HOD.out] at h2; exact ho h2)
                    have HB8 := Lib.hid (HB5.out.trans ((HBI.out.trans (HB7.out.mono HBI.out.size)).mono HB5.out.size))
                    clear ho
                    go_wp2
                    go_ret2
                    exact back_bad HBAD.out HB8.out
                · have hi5 : i = 4 := by omega
                  have HE2 := Lib.hid (show ∀ k : Nat, k < 4 → ordV (sumV (backL l 4) k) (rd_T43 l k) = 0 from fun k hk => HEQ.out k (by omega))
                  have HB8 := Lib.hid (HB5.out.trans (HBI.out.mono HB5.out.size))
                  have HR8 := Lib.hid (Kd.R_below HRR5.out HBI.out)
                  have hge : (4 : Int) ≤ (i : Int) := by omega
                  clear hlt hi5
                  go_wp2
                  go_ret2
                  exact ⟨HB8.out, .inr ⟨HOKB.out, ⟨HYES.out, HE2.out⟩, _, rfl, HR8.out⟩⟩
  · have h4' : ((l.length : Int) != 4) = true := by rw [bne_iff_ne]; omega
    have HBAD := Lib.hid (show ¬ (okBs l ∧ sameBs l) from fun h => h4 h.1.1)
    clear h4
    go_enter Try.func51, Try.ntmps51
    go_wp2
    go_ret2
    exact back_bad HBAD.out (Below.refl _ _)
end Go.Proofs.Ytofinglgnkdflaa
end
