/- alive of the laws of layer 26: the chapter's history is told as the chapter tells it. -/
import Derived.Test.YtofinglgnkdflaaLXQ
import Derived.Test.YtofinglgnkdflaaLXN
import Derived.Test.YtofinglgnkdflaaLXM
import Derived.Test.YtofinglgnkdflaaLXO
import Derived.Test.YtofinglgnkdflaaLXH
section
namespace Go.Proofs.Ytofinglgnkdflaa
open Go.RowKit
open Go.Proofs.Ytofinglgnkdflaa.PHistoryChecks Go.Proofs.YtofinglgnkdflaaW.PrintWords Go.Proofs.YtofinglgnkdflaaW.PrintLast Go.Proofs.YtofinglgnkdflaaW.PrintMore
set_option linter.unusedVariables false
set_option linter.unusedSimpArgs false
abbrev sP : ByteArray := ⟨#[112]⟩
abbrev sQ : ByteArray := ⟨#[113]⟩
def E5 : List S47 := [evI sP, evI sQ, evR sP, evI sP, evR sP]
def cl5 (p a b : Int) : S50 := ⟨p, 0, ⟨#[102]⟩, val0, a, b, if b < 0 then z43 else val0⟩
def F5 : PastL := ⟨[sP, sQ], [⟨#[120]⟩], [cl5 0 0 2, cl5 1 1 (-1), cl5 0 3 4]⟩
theorem F5_go : rgo E5 0 ⟨[], [], []⟩ = some F5 := by kernel_rfl
theorem F5_large0 : largeF F5.cl 0 = false := by kernel_rfl
theorem F5_large1 : largeF F5.cl 1 = false := by kernel_rfl
theorem F5_large2 : largeF F5.cl 2 = false := by kernel_rfl
theorem F5_large3 : largeF F5.cl 3 = false := by kernel_rfl
theorem F5_large4 : largeF F5.cl 4 = false := by kernel_rfl
theorem F5_events : eventsL F5 = some E5 := by kernel_rfl
theorem F5_widths : widthsF F5 = some [1, 2, 1, 2, 1] := by kernel_rfl
theorem F5_others : othersF F5 = some [0, 1, 1] := by kernel_rfl
theorem F5_counts : countsF F5 = some [1, 2, 0, 0] := by kernel_rfl
theorem F5_of : ofF F5 = some ⟨5, 3, 1, 2, 1, 2, 2, 2⟩ := by kernel_rfl
theorem G5_sums : sumL [1, 2, 0, 0] 4 = [gaussV 3 0, gaussV 1 2, gaussV (-1) 0, gaussV 1 (-2)] := by kernel_rfl
theorem G5_back : backL [gaussV 3 0, gaussV 1 2, gaussV (-1) 0, gaussV 1 (-2)] 4 = [1, 2, 0, 0] := by kernel_rfl
end Go.Proofs.Ytofinglgnkdflaa
end
section
namespace Go.Proofs.Ytofinglgnkdflaa
open Go.RowKit
open Go.Proofs.Ytofinglgnkdflaa.PHistoryChecks Go.Proofs.YtofinglgnkdflaaW.PrintWords Go.Proofs.YtofinglgnkdflaaW.PrintLast Go.Proofs.YtofinglgnkdflaaW.PrintMore
set_option linter.unusedVariables false
set_option linter.unusedSimpArgs false
theorem mem_E5 {P : S47 → Prop} (h0 : P (evI sP)) (h1 : P (evI sQ)) (h2 : P (evR sP)) : ∀ e ∈ E5, P e := by
  intro e he
  simp only [E5, List.mem_cons, List.not_mem_nil, or_false] at he
  rcases he with rfl | rfl | rfl | rfl | rfl <;> assumption
theorem E5_ok : ∀ e ∈ E5, okE e ∧ nd e.f4 ≤ 1000000 := mem_E5 ⟨⟨by decide, by decide, by decide, ⟨by decide, trivial⟩⟩, by decide⟩ ⟨⟨by decide, by decide, by decide, ⟨by decide, trivial⟩⟩, by decide⟩ ⟨⟨by decide, by decide, by decide, ⟨by decide, trivial⟩⟩, by decide⟩
theorem F5_pre : ∀ xs, eventsL F5 = some xs → ∀ e ∈ xs, okE e ∧ nd e.f4 ≤ 1000000 := by
  intro xs h
  rw [F5_events] at h
  cases h
  exact E5_ok
theorem E5_right : ∀ e ∈ E5, ∀ W1 A1 c1, Kd.C k43 W1 A1 e.f4.f4.length e.f4.f4 → Calls Try.prog 58 #[.agg (c47 e A1 c1)] W1 (fun r w' => r = .returned (.bool true) ∧ Below W1.heap.size W1 w') :=
  mem_E5 (fun W1 A1 c1 _ => right_inv W1 sP low_p (by kernel_rfl) (by kernel_rfl) A1 c1) (fun W1 A1 c1 _ => right_inv W1 sQ low_q (by kernel_rfl) (by kernel_rfl) A1 c1) (fun W1 A1 c1 _ => right_res W1 sP low_p (by kernel_rfl) (by kernel_rfl) A1 c1)
theorem E5_copy : ∀ e ∈ E5, ∀ W1 A1 c1, Kd.C k43 W1 A1 e.f4.f4.length e.f4.f4 → Calls Try.prog 54 #[v43 e.f4 A1 c1] W1 (OwnP e.f4 W1) :=
  mem_E5 (fun W1 A1 c1 _ => copy_own W1 _ A1 c1 rfl) (fun W1 A1 c1 _ => copy_own W1 _ A1 c1 rfl) (fun W1 A1 c1 _ => copy_own W1 _ A1 c1 rfl)
theorem F5_small : ∀ i : Int, 0 ≤ i → i < (E5.length : Int) → largeF F5.cl i = false := by
  intro i h0 h1
  have h1' : i < 5 := h1
  rcases (by omega : i = 0 ∨ i = 1 ∨ i = 2 ∨ i = 3 ∨ i = 4) with rfl | rfl | rfl | rfl | rfl
  · exact F5_large0
  · exact F5_large1
  · exact F5_large2
  · exact F5_large3
  · exact F5_large4
theorem F5_procs : ∀ i : Int, 0 ≤ i → i < (F5.cl.length : Int) → 0 ≤ (rd_T50 F5.cl i).f0 ∧ (rd_T50 F5.cl i).f0 ≤ 1000000 := by
  intro i h0 h1
  have h1' : i < 3 := h1
  rcases (by omega : i = 0 ∨ i = 1 ∨ i = 2) with rfl | rfl | rfl <;> exact ⟨by decide, by decide⟩
theorem E5_make (W : World) (A : Option Addr) (c : Nat) (hC : Kd.C k47 W A E5.length E5) (hc : E5.length ≤ c) : Calls Try.prog 16 #[.slice A E5.length c] W (MakeP (F5, 0, 0) W) :=
  RMake_good W E5 A c F5 hC hc (by decide) E5_right E5_copy F5_go F5_small F5_procs
theorem five_C {W : World} {g : Nat} {cs : Array Value} (h : W.heap[g]? = some (.cells cs 47 (0, 0))) (hc : cs = (E5.flatMap fun x => (c47 x none 0).toList).toArray) : Kd.C k47 W (some ⟨g, 0, none⟩) E5.length E5 := by
  subst hc
  have hb : RowE W W g 5 5 E5 := ⟨_, h, Nat.le_refl _, by decide, rfl, fun j hj => by
    match j, hj with
    | 0, _ => exact ⟨(c47 (E5[0]'(by decide)) none 0).toList, chunk_app (sz := 12) (j := 0) (smallC (E5.take 0)) (c47 (E5[0]'(by decide)) none 0).toList (smallC (E5.drop 1)) rfl rfl, E5[0]'(by decide), rfl, k47_mk W (E5[0]'(by decide)) (A8 := none) (c8 := 0) (Nat.le_refl _) (Kd.C_nil _ _)⟩
    | 1, _ => exact ⟨(c47 (E5[1]'(by decide)) none 0).toList, chunk_app (sz := 12) (j := 1) (smallC (E5.take 1)) (c47 (E5[1]'(by decide)) none 0).toList (smallC (E5.drop 2)) rfl rfl, E5[1]'(by decide), rfl, k47_mk W (E5[1]'(by decide)) (A8 := none) (c8 := 0) (Nat.le_refl _) (Kd.C_nil _ _)⟩
    | 2, _ => exact ⟨(c47 (E5[2]'(by decide)) none 0).toList, chunk_app (sz := 12) (j := 2) (smallC (E5.take 2)) (c47 (E5[2]'(by decide)) none 0).toList (smallC (E5.drop 3)) rfl rfl, E5[2]'(by decide), rfl, k47_mk W (E5[2]'(by decide)) (A8 := none) (c8 := 0) (Nat.le_refl _) (Kd.C_nil _ _)⟩
    | 3, _ => exact ⟨(c47 (E5[3]'(by decide)) none 0).toList, chunk_app (sz := 12) (j := 3) (smallC (E5.take 3)) (c47 (E5[3]'(by decide)) none 0).toList (smallC (E5.drop 4)) rfl rfl, E5[3]'(by decide), rfl, k47_mk W (E5[3]'(by decide)) (A8 := none) (c8 := 0) (Nat.le_refl _) (Kd.C_nil _ _)⟩
    | 4, _ => exact ⟨(c47 (E5[4]'(by decide)) none 0).toList, chunk_app (sz := 12) (j := 4) (smallC (E5.take 4)) (c47 (E5[4]'(by decide)) none 0).toList (smallC (E5.drop 5)) rfl rfl, E5[4]'(by decide), rfl, k47_mk W (E5[4]'(by decide)) (A8 := none) (c8 := 0) (Nat.le_refl _) (Kd.C_nil _ _)⟩⟩
  exact row_C hb rfl (Below.refl _ _)
theorem num_any (W : World) (n : Int) : Calls Try.prog 13 #[.int .i64 n] W (fun e w' => e = .returned (.int .i64 n) ∧ Below W.heap.size W w') := by
  have HB := Lib.hid (Below.refl W.heap.size W)
  go_enter Try.func13, Try.ntmps13
  go_wp2
  go_ret
  exact ⟨rfl, HB.out⟩
def IsNil (W : World) (g : Nat) : Prop := W.heap[g]? = some (.cells #[.int .i64 2, .int .i64 0, .int .i64 0, .string ⟨#[]⟩, .slice none 0 0] 43 (0, 0))
set_option maxHeartbeats 4000000 in
set_option maxRecDepth 100000 in
theorem inv74 (W : World) (p : ByteArray) (g : Nat) (hv : IsNil W g) : Calls Try.prog 74 #[.string p, .pointer (some ⟨g, 0, none⟩)] W (fun e w' => e = .returned (.agg (c47 (evI p) none 0)) ∧ Below W.heap.size W w') := by
  have b0 : W.cell? ⟨g, 0, none⟩ = some (.int .i64 2) := (blk_cell hv 0).trans rfl
  have b1 : W.cell? ⟨g, 1, none⟩ = some (.int .i64 0) := (blk_cell hv 1).trans rfl
  have b2 : W.cell? ⟨g, 2, none⟩ = some (.int .i64 0) := (blk_cell hv 2).trans rfl
  have b3 : W.cell? ⟨g, 3, none⟩ = some (.string ⟨#[]⟩) := (blk_cell hv 3).trans rfl
  have b4 : W.cell? ⟨g, 4, none⟩ = some (.slice none 0 0) := (blk_cell hv 4).trans rfl
  have hg : g < W.heap.size := blk_lt hv
  have hne : g ≠ W.heap.size := by omega
  have HB0 := Lib.hid (below_alloc (Below.refl W.heap.size W) (.cells #[.int .i64 1, .string p, .string ⟨#[120]⟩, .string ⟨#[102]⟩, .int .i64 2, .int .i64 0, .int .i64 0, .string ⟨#[]⟩, .slice none 0 0, .int .i64 0, .int .i64 0, .int .i64 0] 47))
  have hbx := Lib.hid (heap_alloc_new W (.cells #[.int .i64 1, .string p, .string ⟨#[120]⟩, .string ⟨#[102]⟩, .int .i64 2, .int .i64 0, .int .i64 0, .string ⟨#[]⟩, .slice none 0 0, .int .i64 0, .int .i64 0, .int .i64 0] 47))
  go_enter Try.func74, Try.ntmps74
  go_wp2
  obtain ⟨Wf, hWf⟩ : ∃ Wf, Wf = W.alloc (.cells #[.int .i64 1, .string p, .string ⟨#[120]⟩, .string ⟨#[102]⟩, .int .i64 2, .int .i64 0, .int .i64 0, .string ⟨#[]⟩, .slice none 0 0, .int .i64 0, .int .i64 0, .int .i64 0] 47) := ⟨_, rfl⟩
  rw [← hWf] at HB0 hbx ⊢
  have t0 : Wf.cell? ⟨W.heap.size, 0, none⟩ = some (.int .i64 1) := (blk_cell hbx.out 0).trans rfl
  have t1 : Wf.cell? ⟨W.heap.size, 1, none⟩ = some (.string p) := (blk_cell hbx.out 1).trans rfl
  have t2 : Wf.cell? ⟨W.heap.size, 2, none⟩ = some (.string ⟨#[120]⟩) := (blk_cell hbx.out 2).trans rfl
  have t3 : Wf.cell? ⟨W.heap.size, 3, none⟩ = some (.string ⟨#[102]⟩) := (blk_cell hbx.out 3).trans rfl
  have t4 : Wf.cell? ⟨W.heap.size, 4, none⟩ = some (.int .i64 2) := (blk_cell hbx.out 4).trans rfl
  have t5 : Wf.cell? ⟨W.heap.size, 5, none⟩ = some (.int .i64 0) := (blk_cell hbx.out 5).trans rfl
  have t6 : Wf.cell? ⟨W.heap.size, 6, none⟩ = some (.int .i64 0) := (blk_cell hbx.out 6).trans rfl
  have t7 : Wf.cell? ⟨W.heap.size, 7, none⟩ = some (.string ⟨#[]⟩) := (blk_cell hbx.out 7).trans rfl
  have t8 : Wf.cell? ⟨W.heap.size, 8, none⟩ = some (.slice none 0 0) := (blk_cell hbx.out 8).trans rfl
  have t9 : Wf.cell? ⟨W.heap.size, 9, none⟩ = some (.int .i64 0) := (blk_cell hbx.out 9).trans rfl
  have t10 : Wf.cell? ⟨W.heap.size, 10, none⟩ = some (.int .i64 0) := (blk_cell hbx.out 10).trans rfl
  have t11 : Wf.cell? ⟨W.heap.size, 11, none⟩ = some (.int .i64 0) := (blk_cell hbx.out 11).trans rfl
  exact bodyPost_ret (v := .agg #[.int .i64 1, .string p, .string ⟨#[120]⟩, .string ⟨#[102]⟩, .int .i64 2, .int .i64 0, .int .i64 0, .string ⟨#[]⟩, .slice none 0 0, .int .i64 0, .int .i64 0, .int .i64 0]) (by simp [results, Try.results74, go_sem, t0, t1, t2, t3, t4, t5, t6, t7, t8, t9, t10, t11]) rfl ⟨rfl, HB0.out⟩
set_option maxHeartbeats 4000000 in
set_option maxRecDepth 100000 in
theorem res75 (W : World) (p : ByteArray) (g : Nat) (hv : IsNil W g) : Calls Try.prog 75 #[.string p, .pointer (some ⟨g, 0, none⟩)] W (fun e w' => e = .returned (.agg (c47 (evR p) none 0)) ∧ Below W.heap.size W w') := by
  have b0 : W.cell? ⟨g, 0, none⟩ = some (.int .i64 2) := (blk_cell hv 0).trans rfl
  have b1 : W.cell? ⟨g, 1, none⟩ = some (.int .i64 0) := (blk_cell hv 1).trans rfl
  have b2 : W.cell? ⟨g, 2, none⟩ = some (.int .i64 0) := (blk_cell hv 2).trans rfl
  have b3 : W.cell? ⟨g, 3, none⟩ = some (.string ⟨#[]⟩) := (blk_cell hv 3).trans rfl
  have b4 : W.cell? ⟨g, 4, none⟩ = some (.slice none 0 0) := (blk_cell hv 4).trans rfl
  have hg : g < W.heap.size := blk_lt hv
  have hne : g ≠ W.heap.size := by omega
  have HB0 := Lib.hid (below_alloc (Below.refl W.heap.size W) (.cells #[.int .i64 2, .string p, .string ⟨#[]⟩, .string ⟨#[]⟩, .int .i64 2, .int .i64 0, .int .i64 0, .string ⟨#[]⟩, .slice none 0 0, .int .i64 0, .int .i64 0, .int .i64 0] 47))
  have hbx := Lib.hid (heap_alloc_new W (.cells #[.int .i64 2, .string p, .string ⟨#[]⟩, .string ⟨#[]⟩, .int .i64 2, .int .i64 0, .int .i64 0, .string ⟨#[]⟩, .slice none 0 0, .int .i64 0, .int .i64 0, .int .i64 0] 47))
  go_enter Try.func75, Try.ntmps75
  go_wp2
  obtain ⟨Wf, hWf⟩ : ∃ Wf, Wf = W.alloc (.cells #[.int .i64 2, .string p, .string ⟨#[]⟩, .string ⟨#[]⟩, .int .i64 2, .int .i64 0, .int .i64 0, .string ⟨#[]⟩, .slice none 0 0, .int .i64 0, .int .i64 0, .int .i64 0] 47) := ⟨_, rfl⟩
  rw [← hWf] at HB0 hbx ⊢
  have t0 : Wf.cell? ⟨W.heap.size, 0, none⟩ = some (.int .i64 2) := (blk_cell hbx.out 0).trans rfl
  have t1 : Wf.cell? ⟨W.heap.size, 1, none⟩ = some (.string p) := (blk_cell hbx.out 1).trans rfl
  have t2 : Wf.cell? ⟨W.heap.size, 2, none⟩ = some (.string ⟨#[]⟩) := (blk_cell hbx.out 2).trans rfl
  have t3 : Wf.cell? ⟨W.heap.size, 3, none⟩ = some (.string ⟨#[]⟩) := (blk_cell hbx.out 3).trans rfl
  have t4 : Wf.cell? ⟨W.heap.size, 4, none⟩ = some (.int .i64 2) := (blk_cell hbx.out 4).trans rfl
  have t5 : Wf.cell? ⟨W.heap.size, 5, none⟩ = some (.int .i64 0) := (blk_cell hbx.out 5).trans rfl
  have t6 : Wf.cell? ⟨W.heap.size, 6, none⟩ = some (.int .i64 0) := (blk_cell hbx.out 6).trans rfl
  have t7 : Wf.cell? ⟨W.heap.size, 7, none⟩ = some (.string ⟨#[]⟩) := (blk_cell hbx.out 7).trans rfl
  have t8 : Wf.cell? ⟨W.heap.size, 8, none⟩ = some (.slice none 0 0) := (blk_cell hbx.out 8).trans rfl
  have t9 : Wf.cell? ⟨W.heap.size, 9, none⟩ = some (.int .i64 0) := (blk_cell hbx.out 9).trans rfl
  have t10 : Wf.cell? ⟨W.heap.size, 10, none⟩ = some (.int .i64 0) := (blk_cell hbx.out 10).trans rfl
  have t11 : Wf.cell? ⟨W.heap.size, 11, none⟩ = some (.int .i64 0) := (blk_cell hbx.out 11).trans rfl
  exact bodyPost_ret (v := .agg #[.int .i64 2, .string p, .string ⟨#[]⟩, .string ⟨#[]⟩, .int .i64 2, .int .i64 0, .int .i64 0, .string ⟨#[]⟩, .slice none 0 0, .int .i64 0, .int .i64 0, .int .i64 0]) (by simp [results, Try.results75, go_sem, t0, t1, t2, t3, t4, t5, t6, t7, t8, t9, t10, t11]) rfl ⟨rfl, HB0.out⟩
theorem IntR.C {w : World} {g : Nat} {xs : List Int} (h : IntR w g xs) (hm : xs.length ≤ 9223372036854775807) : (Kd.int .i64).C w (some ⟨g, 0, none⟩) xs.length xs := by
  refine ⟨rfl, hm, fun _ => ⟨_, rfl, fun j p hj => ⟨[.int .i64 p], rfl, rfl, fun i u hu => ?_⟩⟩⟩
  have hj2 : j < xs.length := (List.getElem?_eq_some_iff.1 hj).1
  have hp : xs[j] = p := (List.getElem?_eq_some_iff.1 hj).2
  cases i with
  | zero =>
    simp at hu; subst hu
    show w.cell? ((⟨g, 0, none⟩ : Addr).add (j * 1 + 0)) = _
    rw [ag_add rfl, Nat.mul_one, Nat.add_zero, ← hp]
    exact (blk_cell h j).trans (intCs_at xs j hj2)
  | succ i => simp at hu
theorem F5_Of (W : World) (R : Rw3) (hR : RdP W F5 R) : Calls Try.prog 38 #[.agg (cP F5 R)] W (fun e w' => e = .returned (.tuple #[.agg #[.int .i64 5, .int .i64 3, .int .i64 1, .int .i64 2, .int .i64 1, .int .i64 2, .int .i64 2, .int .i64 2], .int .i64 0]) ∧ Below W.heap.size W w') := by
  refine (Of_any W F5 R hR (by decide) F5_pre).mono fun e w' h => ?_
  unfold OfP at h
  rw [F5_of] at h
  exact ⟨h.2, h.1⟩
theorem F5_Wid (W : World) (R : Rw3) (hR : RdP W F5 R) : Calls Try.prog 40 #[.agg (cP F5 R)] W (fun e w' => ∃ A c, e = .returned (.tuple #[.slice A 5 c, .int .i64 0]) ∧ (Kd.int .i64).C w' A 5 [1, 2, 1, 2, 1] ∧ Below W.heap.size W w') := by
  refine (Widths_any W F5 R hR (by decide) F5_pre).mono fun e w' h => ?_
  unfold WidP at h
  rw [F5_widths] at h
  obtain ⟨hb, g, hg, he, hr⟩ := h
  exact ⟨_, _, he, hr.C (by decide), hb⟩
theorem F5_Oth (W : World) (R : Rw3) (hR : RdP W F5 R) : Calls Try.prog 42 #[.agg (cP F5 R)] W (fun e w' => ∃ A c, e = .returned (.tuple #[.slice A 3 c, .int .i64 0]) ∧ (Kd.int .i64).C w' A 3 [0, 1, 1] ∧ Below W.heap.size W w') := by
  refine (Others_any W F5 R hR (by decide) F5_pre).mono fun e w' h => ?_
  unfold OthP at h
  rw [F5_others] at h
  obtain ⟨hb, ⟨h1, _⟩ | ⟨l, v, h1, he, hr⟩⟩ := h
  · cases h1
  · cases h1
    obtain ⟨A, c, rfl, _, hC⟩ := Kd.R_reads hr
    exact ⟨A, c, he, hC, hb⟩
theorem F5_Cnt (W : World) (R : Rw3) (hR : RdP W F5 R) : Calls Try.prog 44 #[.agg (cP F5 R)] W (fun e w' => ∃ A c, e = .returned (.tuple #[.slice A 4 c, .int .i64 0]) ∧ (Kd.int .i64).C w' A 4 [1, 2, 0, 0] ∧ Below W.heap.size W w') := by
  refine (Counts_any W F5 R hR (by decide) F5_pre (fun l hl x hx => ?_)).mono fun e w' h => ?_
  · rw [F5_others] at hl
    cases hl
    simp only [List.mem_cons, List.not_mem_nil, or_false] at hx
    rcases hx with rfl | rfl | rfl <;> decide
  · unfold CntP at h
    rw [F5_counts] at h
    obtain ⟨hb, ⟨h1, _⟩ | ⟨l, g, h1, h4, hg, he, hr⟩⟩ := h
    · cases h1
    · cases h1
      exact ⟨_, _, he, hr.C (by decide), hb⟩
def G4 : List S43 := [gaussV 3 0, gaussV 1 2, gaussV (-1) 0, gaussV 1 (-2)]
theorem G4_ok : okCs [1, 2, 0, 0] := ⟨rfl, fun i h0 h1 => by
  rcases (by omega : i = 0 ∨ i = 1 ∨ i = 2 ∨ i = 3) with rfl | rfl | rfl | rfl <;> exact ⟨by decide, by decide⟩⟩
theorem G4_Sums (W : World) (A : Option Addr) (hC : (Kd.int .i64).C W A 4 [1, 2, 0, 0]) : Calls Try.prog 48 #[.slice A 4 4] W (fun e w' => ∃ A c, e = .returned (.tuple #[.slice A 4 c, .int .i64 0]) ∧ 4 ≤ c ∧ Kd.C k43 w' A 4 G4 ∧ Below W.heap.size W w') := by
  refine (Sums_any W [1, 2, 0, 0] A 4 hC (by decide)).mono fun e w' h => ?_
  obtain ⟨hb, ⟨h1, _⟩ | ⟨_, v, he, hr⟩⟩ := h
  · exact absurd G4_ok h1
  · rw [G5_sums] at hr
    obtain ⟨A, c, rfl, hc, hC⟩ := Kd.R_reads hr
    exact ⟨A, c, he, hc, hC, hb⟩
theorem G4_Sums1 (W : World) (A : Option Addr) (hC : (Kd.int .i64).C W A 1 [1]) : Calls Try.prog 48 #[.slice A 1 1] W (fun e w' => e = .returned (.tuple #[.slice none 0 0, .int .i64 2]) ∧ Below W.heap.size W w') := by
  refine (Sums_any W [1] A 1 hC (by decide)).mono fun e w' h => ?_
  obtain ⟨hb, ⟨_, he⟩ | ⟨h1, _⟩⟩ := h
  · exact ⟨he, hb⟩
  · exact absurd h1.1 (by decide)
theorem G4_okBs : okBs G4 := ⟨rfl, fun i h0 h1 => by
  rcases (by omega : i = 0 ∨ i = 1 ∨ i = 2 ∨ i = 3) with rfl | rfl | rfl | rfl <;> exact ⟨by kernel_rfl, by kernel_rfl⟩⟩
theorem G4_same : sameBs G4 := by
  unfold sameBs
  rw [show backL G4 4 = [1, 2, 0, 0] from G5_back]
  refine ⟨G4_ok, fun j hj => ?_⟩
  rcases (by omega : j = 0 ∨ j = 1 ∨ j = 2 ∨ j = 3) with rfl | rfl | rfl | rfl <;> kernel_rfl
theorem G4_okT : ∀ x ∈ G4, okT x := by
  intro x hx
  simp only [G4, List.mem_cons, List.not_mem_nil, or_false] at hx
  rcases hx with rfl | rfl | rfl | rfl <;> exact ⟨by decide, trivial⟩
theorem G4_Back (W : World) (A : Option Addr) (c : Nat) (hC : Kd.C k43 W A 4 G4) (hc : 4 ≤ c) : Calls Try.prog 51 #[.slice A 4 c] W (fun e w' => ∃ A c, e = .returned (.tuple #[.slice A 4 c, .int .i64 0]) ∧ (Kd.int .i64).C w' A 4 [1, 2, 0, 0] ∧ Below W.heap.size W w') := by
  refine (Back_any W G4 A c hC hc G4_okT).mono fun e w' h => ?_
  obtain ⟨hb, ⟨h1, _⟩ | ⟨_, _, v, he, hr⟩⟩ := h
  · exact absurd ⟨G4_okBs, G4_same⟩ h1
  · rw [show backL G4 4 = [1, 2, 0, 0] from G5_back] at hr
    obtain ⟨A, c, rfl, _, hC⟩ := Kd.R_reads hr
    exact ⟨A, c, he, hC, hb⟩
theorem G4_im {W : World} {A : Option Addr} (hC : Kd.C k43 W A 4 G4) : ∃ ad, A = some ad ∧ W.cell? (ad.add 7) = some (.int .i64 2) := by
  obtain ⟨ad, c, e, _, hK, hc⟩ := Kd.C_get hC z43 1 (by decide) (by decide)
  have hK2 : k43.K W (gaussV 1 2) c := hK
  obtain ⟨A4, c4, rfl, _, _⟩ := k43_open hK2
  exact ⟨ad, e, hc 2 _ rfl⟩
theorem Ints_lit (W : World) (l m : List Int) (A : Option Addr) (c g n : Nat) (hA : (Kd.int .i64).C W A l.length l) (hg : IntR W g m) (hm : m.length ≤ 100) (hn : m.length = n) : Calls Try.prog 46 #[.slice A l.length c, .slice (some ⟨g, 0, none⟩) n n] W (fun e w' => e = .returned (.bool (l == m)) ∧ Below W.heap.size W w') := by
  subst hn
  exact Ints_any l m A _ c _ W hA (hg.C (by omega))
set_option maxHeartbeats 8000000 in
set_option maxRecDepth 100000 in
theorem alive_any (W : World) : Calls Try.prog 47 #[] W (fun e w' => e = .returned (.bool true) ∧ Below W.heap.size W w') := by
  have HN0 := Lib.hid (show IsNil (W.alloc (.cells #[.int .i64 2, .int .i64 0, .int .i64 0, .string ⟨#[]⟩, .slice none 0 0] 43)) W.heap.size from heap_alloc_new W _)
  have HB0 := Lib.hid (below_alloc (Below.refl W.heap.size W) (.cells #[.int .i64 2, .int .i64 0, .int .i64 0, .string ⟨#[]⟩, .slice none 0 0] 43))
  have HI := Lib.hid (fun W1 p g (h : IsNil W1 g) => inv74 W1 p g h)
  have HR := Lib.hid (fun W1 p g (h : IsNil W1 g) => res75 W1 p g h)
  unfold c47 evI val0 at HI
  unfold c47 evR val0 at HR
  go_enter Try.func47, Try.ntmps47
  go_wp2_with fail
  refine (HI.out _ ⟨#[112]⟩ _ HN0.out).mono ?_
  rintro e w1 ⟨rfl, hw1⟩
  have HN1 := Lib.hid (show IsNil w1 W.heap.size from (hw1.block _ (blk_lt HN0.out)).trans HN0.out)
  have HB1 := Lib.hid (HB0.out.trans (hw1.mono HB0.out.size))
  clear hw1 HN0 HB0
  go_wp2_with fail
  refine (HI.out _ ⟨#[113]⟩ _ HN1.out).mono ?_
  rintro e w2 ⟨rfl, hw2⟩
  have HN2 := Lib.hid (show IsNil w2 W.heap.size from (hw2.block _ (blk_lt HN1.out)).trans HN1.out)
  have HB2 := Lib.hid (HB1.out.trans (hw2.mono HB1.out.size))
  clear hw2 HN1 HB1
  go_wp2_with fail
  refine (HR.out _ ⟨#[112]⟩ _ HN2.out).mono ?_
  rintro e w3 ⟨rfl, hw3⟩
  have HN3 := Lib.hid (show IsNil w3 W.heap.size from (hw3.block _ (blk_lt HN2.out)).trans HN2.out)
  have HB3 := Lib.hid (HB2.out.trans (hw3.mono HB2.out.size))
  clear hw3 HN2 HB2
  go_wp2_with fail
  refine (HI.out _ ⟨#[112]⟩ _ HN3.out).mono ?_
  rintro e w4 ⟨rfl, hw4⟩
  have HN4 := Lib.hid (show IsNil w4 W.heap.size from (hw4.block _ (blk_lt HN3.out)).trans HN3.out)
  have HB4 := Lib.hid (HB3.out.trans (hw4.mono HB3.out.size))
  clear hw4 HN3 HB3
  go_wp2_with fail
  refine (HR.out _ ⟨#[112]⟩ _ HN4.out).mono ?_
  rintro e w5 ⟨rfl, hw5⟩
  have HN5 := Lib.hid (show IsNil w5 W.heap.size from (hw5.block _ (blk_lt HN4.out)).trans HN4.out)
  have HB5 := Lib.hid (HB4.out.trans (hw5.mono HB4.out.size))
  clear hw5 HN4 HB4
  clear HI HR HN5
  have hrow := heap_alloc_new w5 (.cells (E5.flatMap fun x => (c47 x none 0).toList).toArray 47)
  have HMK := Lib.hid (E5_make _ _ 5 (five_C hrow rfl) (by decide))
  have HB6 := Lib.hid (below_alloc HB5.out (.cells (E5.flatMap fun x => (c47 x none 0).toList).toArray 47))
  clear hrow HB5
  go_wp2_with fail
  refine HMK.out.mono ?_
  rintro e w6 ⟨s1, s2, cv, rfl, r1, r2, r3, hw6⟩
  obtain ⟨B1, d1, rfl, l1, rr1⟩ := Kd.R_reads r1
  obtain ⟨B2, d2, rfl, l2, rr2⟩ := Kd.R_reads r2
  obtain ⟨B3, d3, rfl, l3, rr3⟩ := Kd.R_reads r3
  have HRD := Lib.hid (show RdP w6 F5 ⟨B1, d1, B2, d2, B3, d3⟩ from ⟨rr1, l1, rr2, l2, rr3, l3⟩)
  have HB := Lib.hid (HB6.out.trans (hw6.mono HB6.out.size))
  clear r1 r2 r3 rr1 rr2 rr3 l1 l2 l3 hw6 HMK HB6
  have HOF := Lib.hid (fun W1 h => F5_Of W1 ⟨B1, d1, B2, d2, B3, d3⟩ h)
  have HWI := Lib.hid (fun W1 h => F5_Wid W1 ⟨B1, d1, B2, d2, B3, d3⟩ h)
  have HOT := Lib.hid (fun W1 h => F5_Oth W1 ⟨B1, d1, B2, d2, B3, d3⟩ h)
  have HCN := Lib.hid (fun W1 h => F5_Cnt W1 ⟨B1, d1, B2, d2, B3, d3⟩ h)
  unfold cP at HOF HWI HOT HCN
  have hb_1 := below_alloc (Below.refl w6.heap.size w6) (.cells #[.slice B1 F5.pr.length d1, .slice B2 F5.ob.length d2, .slice B3 F5.cl.length d3] 30)
  replace HB := Lib.hid (HB.out.trans (hb_1.mono HB.out.size))
  replace HRD := Lib.hid (HRD.out.below hb_1)
  have HP30 := Lib.hid (heap_alloc_new w6 (.cells #[.slice B1 F5.pr.length d1, .slice B2 F5.ob.length d2, .slice B3 F5.cl.length d3] 30))
  clear hb_1
  go_wp2_with fail
  refine (HOF.out _ HRD.out).mono ?_
  rintro e w7 ⟨rfl, hb_2⟩
  replace HB := Lib.hid (HB.out.trans (hb_2.mono HB.out.size))
  replace HRD := Lib.hid (HRD.out.below hb_2)
  replace HP30 := Lib.hid ((hb_2.block _ (blk_lt HP30.out)).trans HP30.out)
  clear hb_2
  clear HOF
  have q0 : w7.cell? ⟨w6.heap.size, 0, none⟩ = some (.slice B1 F5.pr.length d1) := (blk_cell HP30.out 0).trans rfl
  have q1 : w7.cell? ⟨w6.heap.size, 1, none⟩ = some (.slice B2 F5.ob.length d2) := (blk_cell HP30.out 1).trans rfl
  have q2 : w7.cell? ⟨w6.heap.size, 2, none⟩ = some (.slice B3 F5.cl.length d3) := (blk_cell HP30.out 2).trans rfl
  have h67 : w6.heap.size < w7.heap.size := blk_lt HP30.out
  have hb_3 := below_alloc (Below.refl w7.heap.size w7) (.cells #[.int .i64 5, .int .i64 3, .int .i64 1, .int .i64 2, .int .i64 1, .int .i64 2, .int .i64 2, .int .i64 2] 79)
  replace HB := Lib.hid (HB.out.trans (hb_3.mono HB.out.size))
  replace HRD := Lib.hid (HRD.out.below hb_3)
  replace HP30 := Lib.hid ((hb_3.block _ (blk_lt HP30.out)).trans HP30.out)
  have H79 := Lib.hid (heap_alloc_new w7 (.cells #[.int .i64 5, .int .i64 3, .int .i64 1, .int .i64 2, .int .i64 1, .int .i64 2, .int .i64 2, .int .i64 2] 79))
  clear hb_3
  go_wp2_with fail
  refine (HWI.out _ HRD.out).mono ?_
  rintro e w8 ⟨A1, k1, rfl, hC1, hb_4⟩
  replace HB := Lib.hid (HB.out.trans (hb_4.mono HB.out.size))
  replace HRD := Lib.hid (HRD.out.below hb_4)
  replace HP30 := Lib.hid ((hb_4.block _ (blk_lt HP30.out)).trans HP30.out)
  replace H79 := Lib.hid ((hb_4.block _ (blk_lt H79.out)).trans H79.out)
  clear hb_4
  have HC1 := Lib.hid hC1
  clear hC1 HWI q0 q1 q2 h67
  have q0 : w8.cell? ⟨w6.heap.size, 0, none⟩ = some (.slice B1 F5.pr.length d1) := (blk_cell HP30.out 0).trans rfl
  have q1 : w8.cell? ⟨w6.heap.size, 1, none⟩ = some (.slice B2 F5.ob.length d2) := (blk_cell HP30.out 1).trans rfl
  have q2 : w8.cell? ⟨w6.heap.size, 2, none⟩ = some (.slice B3 F5.cl.length d3) := (blk_cell HP30.out 2).trans rfl
  go_wp2_with fail
  refine (HOT.out _ HRD.out).mono ?_
  rintro e w9 ⟨A2, k2, rfl, hC2, hb_5⟩
  replace HB := Lib.hid (HB.out.trans (hb_5.mono HB.out.size))
  replace HRD := Lib.hid (HRD.out.below hb_5)
  replace HP30 := Lib.hid ((hb_5.block _ (blk_lt HP30.out)).trans HP30.out)
  replace H79 := Lib.hid ((hb_5.block _ (blk_lt H79.out)).trans H79.out)
  replace HC1 := Lib.hid (Kd.C_below HC1.out hb_5)
  clear hb_5
  have HC2 := Lib.hid hC2
  clear hC2 HOT q0 q1 q2
  have q0 : w9.cell? ⟨w6.heap.size, 0, none⟩ = some (.slice B1 F5.pr.length d1) := (blk_cell HP30.out 0).trans rfl
  have q1 : w9.cell? ⟨w6.heap.size, 1, none⟩ = some (.slice B2 F5.ob.length d2) := (blk_cell HP30.out 1).trans rfl
  have q2 : w9.cell? ⟨w6.heap.size, 2, none⟩ = some (.slice B3 F5.cl.length d3) := (blk_cell HP30.out 2).trans rfl
  go_wp2_with fail
  refine (HCN.out _ HRD.out).mono ?_
  rintro e w10 ⟨A3, k3, rfl, hC3, hb_6⟩
  replace HB := Lib.hid (HB.out.trans (hb_6.mono HB.out.size))
  replace HRD := Lib.hid (HRD.out.below hb_6)
  replace HP30 := Lib.hid ((hb_6.block _ (blk_lt HP30.out)).trans HP30.out)
  replace H79 := Lib.hid ((hb_6.block _ (blk_lt H79.out)).trans H79.out)
  replace HC1 := Lib.hid (Kd.C_below HC1.out hb_6)
  replace HC2 := Lib.hid (Kd.C_below HC2.out hb_6)
  clear hb_6
  have HC3 := Lib.hid hC3
  clear hC3 HCN q0 q1 q2 HRD HP30
  have hb_7 := below_alloc (Below.refl w10.heap.size w10) (.cells #[.int .i64 1, .int .i64 2, .int .i64 0, .int .i64 0] 3)
  replace HB := Lib.hid (HB.out.trans (hb_7.mono HB.out.size))
  replace H79 := Lib.hid ((hb_7.block _ (blk_lt H79.out)).trans H79.out)
  replace HC1 := Lib.hid (Kd.C_below HC1.out hb_7)
  replace HC2 := Lib.hid (Kd.C_below HC2.out hb_7)
  replace HC3 := Lib.hid (Kd.C_below HC3.out hb_7)
  have HL1 := Lib.hid (heap_alloc_new w10 (.cells #[.int .i64 1, .int .i64 2, .int .i64 0, .int .i64 0] 3))
  clear hb_7
  go_wp2_with fail
  refine (G4_Sums _ _ (IntR.C (xs := [1, 2, 0, 0]) HL1.out (by decide))).mono ?_
  rintro e w11 ⟨A4, k4, rfl, hk4, hC4, hb_8⟩
  replace HB := Lib.hid (HB.out.trans (hb_8.mono HB.out.size))
  replace H79 := Lib.hid ((hb_8.block _ (blk_lt H79.out)).trans H79.out)
  replace HC1 := Lib.hid (Kd.C_below HC1.out hb_8)
  replace HC2 := Lib.hid (Kd.C_below HC2.out hb_8)
  replace HC3 := Lib.hid (Kd.C_below HC3.out hb_8)
  replace HL1 := Lib.hid ((hb_8.block _ (blk_lt HL1.out)).trans HL1.out)
  clear hb_8
  have HC4 := Lib.hid hC4
  clear hC4 HL1
  go_wp2_with fail
  refine (G4_Back _ _ _ HC4.out hk4).mono ?_
  rintro e w12 ⟨A5, k5, rfl, hC5, hb_9⟩
  replace HB := Lib.hid (HB.out.trans (hb_9.mono HB.out.size))
  replace H79 := Lib.hid ((hb_9.block _ (blk_lt H79.out)).trans H79.out)
  replace HC1 := Lib.hid (Kd.C_below HC1.out hb_9)
  replace HC2 := Lib.hid (Kd.C_below HC2.out hb_9)
  replace HC3 := Lib.hid (Kd.C_below HC3.out hb_9)
  replace HC4 := Lib.hid (Kd.C_below HC4.out hb_9)
  clear hb_9
  have HC5 := Lib.hid hC5
  clear hC5 hk4
  have hb_10 := below_alloc (Below.refl w12.heap.size w12) (.cells #[.int .i64 1] 3)
  replace HB := Lib.hid (HB.out.trans (hb_10.mono HB.out.size))
  replace H79 := Lib.hid ((hb_10.block _ (blk_lt H79.out)).trans H79.out)
  replace HC1 := Lib.hid (Kd.C_below HC1.out hb_10)
  replace HC2 := Lib.hid (Kd.C_below HC2.out hb_10)
  replace HC3 := Lib.hid (Kd.C_below HC3.out hb_10)
  replace HC4 := Lib.hid (Kd.C_below HC4.out hb_10)
  replace HC5 := Lib.hid (Kd.C_below HC5.out hb_10)
  have HL2 := Lib.hid (heap_alloc_new w12 (.cells #[.int .i64 1] 3))
  clear hb_10
  go_wp2_with fail
  refine (G4_Sums1 _ _ (IntR.C (xs := [1]) HL2.out (by decide))).mono ?_
  rintro e w13 ⟨rfl, hb_11⟩
  replace HB := Lib.hid (HB.out.trans (hb_11.mono HB.out.size))
  replace H79 := Lib.hid ((hb_11.block _ (blk_lt H79.out)).trans H79.out)
  replace HC1 := Lib.hid (Kd.C_below HC1.out hb_11)
  replace HC2 := Lib.hid (Kd.C_below HC2.out hb_11)
  replace HC3 := Lib.hid (Kd.C_below HC3.out hb_11)
  replace HC4 := Lib.hid (Kd.C_below HC4.out hb_11)
  replace HC5 := Lib.hid (Kd.C_below HC5.out hb_11)
  replace HL2 := Lib.hid ((hb_11.block _ (blk_lt HL2.out)).trans HL2.out)
  clear hb_11
  clear HL2
  go_wp2_with fail
  refine (num_any _ _).mono ?_
  rintro e w14 ⟨rfl, hb_12⟩
  replace HB := Lib.hid (HB.out.trans (hb_12.mono HB.out.size))
  replace H79 := Lib.hid ((hb_12.block _ (blk_lt H79.out)).trans H79.out)
  replace HC1 := Lib.hid (Kd.C_below HC1.out hb_12)
  replace HC2 := Lib.hid (Kd.C_below HC2.out hb_12)
  replace HC3 := Lib.hid (Kd.C_below HC3.out hb_12)
  replace HC4 := Lib.hid (Kd.C_below HC4.out hb_12)
  replace HC5 := Lib.hid (Kd.C_below HC5.out hb_12)
  clear hb_12
  go_wp2_with fail
  refine (num_any _ _).mono ?_
  rintro e w15 ⟨rfl, hb_13⟩
  replace HB := Lib.hid (HB.out.trans (hb_13.mono HB.out.size))
  replace H79 := Lib.hid ((hb_13.block _ (blk_lt H79.out)).trans H79.out)
  replace HC1 := Lib.hid (Kd.C_below HC1.out hb_13)
  replace HC2 := Lib.hid (Kd.C_below HC2.out hb_13)
  replace HC3 := Lib.hid (Kd.C_below HC3.out hb_13)
  replace HC4 := Lib.hid (Kd.C_below HC4.out hb_13)
  replace HC5 := Lib.hid (Kd.C_below HC5.out hb_13)
  clear hb_13
  go_wp2_with fail
  refine (num_any _ _).mono ?_
  rintro e w16 ⟨rfl, hb_14⟩
  replace HB := Lib.hid (HB.out.trans (hb_14.mono HB.out.size))
  replace H79 := Lib.hid ((hb_14.block _ (blk_lt H79.out)).trans H79.out)
  replace HC1 := Lib.hid (Kd.C_below HC1.out hb_14)
  replace HC2 := Lib.hid (Kd.C_below HC2.out hb_14)
  replace HC3 := Lib.hid (Kd.C_below HC3.out hb_14)
  replace HC4 := Lib.hid (Kd.C_below HC4.out hb_14)
  replace HC5 := Lib.hid (Kd.C_below HC5.out hb_14)
  clear hb_14
  go_wp2_with fail
  refine (num_any _ _).mono ?_
  rintro e w17 ⟨rfl, hb_15⟩
  replace HB := Lib.hid (HB.out.trans (hb_15.mono HB.out.size))
  replace H79 := Lib.hid ((hb_15.block _ (blk_lt H79.out)).trans H79.out)
  replace HC1 := Lib.hid (Kd.C_below HC1.out hb_15)
  replace HC2 := Lib.hid (Kd.C_below HC2.out hb_15)
  replace HC3 := Lib.hid (Kd.C_below HC3.out hb_15)
  replace HC4 := Lib.hid (Kd.C_below HC4.out hb_15)
  replace HC5 := Lib.hid (Kd.C_below HC5.out hb_15)
  clear hb_15
  go_wp2_with fail
  refine (num_any _ _).mono ?_
  rintro e w18 ⟨rfl, hb_16⟩
  replace HB := Lib.hid (HB.out.trans (hb_16.mono HB.out.size))
  replace H79 := Lib.hid ((hb_16.block _ (blk_lt H79.out)).trans H79.out)
  replace HC1 := Lib.hid (Kd.C_below HC1.out hb_16)
  replace HC2 := Lib.hid (Kd.C_below HC2.out hb_16)
  replace HC3 := Lib.hid (Kd.C_below HC3.out hb_16)
  replace HC4 := Lib.hid (Kd.C_below HC4.out hb_16)
  replace HC5 := Lib.hid (Kd.C_below HC5.out hb_16)
  clear hb_16
  go_wp2_with fail
  refine (num_any _ _).mono ?_
  rintro e w19 ⟨rfl, hb_17⟩
  replace HB := Lib.hid (HB.out.trans (hb_17.mono HB.out.size))
  replace H79 := Lib.hid ((hb_17.block _ (blk_lt H79.out)).trans H79.out)
  replace HC1 := Lib.hid (Kd.C_below HC1.out hb_17)
  replace HC2 := Lib.hid (Kd.C_below HC2.out hb_17)
  replace HC3 := Lib.hid (Kd.C_below HC3.out hb_17)
  replace HC4 := Lib.hid (Kd.C_below HC4.out hb_17)
  replace HC5 := Lib.hid (Kd.C_below HC5.out hb_17)
  clear hb_17
  go_wp2_with fail
  refine (num_any _ _).mono ?_
  rintro e w20 ⟨rfl, hb_18⟩
  replace HB := Lib.hid (HB.out.trans (hb_18.mono HB.out.size))
  replace H79 := Lib.hid ((hb_18.block _ (blk_lt H79.out)).trans H79.out)
  replace HC1 := Lib.hid (Kd.C_below HC1.out hb_18)
  replace HC2 := Lib.hid (Kd.C_below HC2.out hb_18)
  replace HC3 := Lib.hid (Kd.C_below HC3.out hb_18)
  replace HC4 := Lib.hid (Kd.C_below HC4.out hb_18)
  replace HC5 := Lib.hid (Kd.C_below HC5.out hb_18)
  clear hb_18
  have z0 : w20.cell? ⟨w7.heap.size, 0, none⟩ = some (.int .i64 5) := (blk_cell H79.out 0).trans rfl
  have z1 : w20.cell? ⟨w7.heap.size, 1, none⟩ = some (.int .i64 3) := (blk_cell H79.out 1).trans rfl
  have z2 : w20.cell? ⟨w7.heap.size, 2, none⟩ = some (.int .i64 1) := (blk_cell H79.out 2).trans rfl
  have z3 : w20.cell? ⟨w7.heap.size, 3, none⟩ = some (.int .i64 2) := (blk_cell H79.out 3).trans rfl
  have z4 : w20.cell? ⟨w7.heap.size, 4, none⟩ = some (.int .i64 1) := (blk_cell H79.out 4).trans rfl
  have z5 : w20.cell? ⟨w7.heap.size, 5, none⟩ = some (.int .i64 2) := (blk_cell H79.out 5).trans rfl
  have z6 : w20.cell? ⟨w7.heap.size, 6, none⟩ = some (.int .i64 2) := (blk_cell H79.out 6).trans rfl
  have z7 : w20.cell? ⟨w7.heap.size, 7, none⟩ = some (.int .i64 2) := (blk_cell H79.out 7).trans rfl
  clear H79
  have hb_19 := below_alloc (Below.refl w20.heap.size w20) (.cells #[.int .i64 1, .int .i64 2, .int .i64 1, .int .i64 2, .int .i64 1] 3)
  replace HB := Lib.hid (HB.out.trans (hb_19.mono HB.out.size))
  replace HC1 := Lib.hid (Kd.C_below HC1.out hb_19)
  replace HC2 := Lib.hid (Kd.C_below HC2.out hb_19)
  replace HC3 := Lib.hid (Kd.C_below HC3.out hb_19)
  replace HC4 := Lib.hid (Kd.C_below HC4.out hb_19)
  replace HC5 := Lib.hid (Kd.C_below HC5.out hb_19)
  have HL3 := Lib.hid (heap_alloc_new w20 (.cells #[.int .i64 1, .int .i64 2, .int .i64 1, .int .i64 2, .int .i64 1] 3))
  clear hb_19
  go_wp2_with fail
  refine (Ints_lit _ [1, 2, 1, 2, 1] [1, 2, 1, 2, 1] _ _ _ 5 HC1.out HL3.out (by decide) rfl).mono ?_
  rintro e w21 ⟨rfl, hb_20⟩
  replace HB := Lib.hid (HB.out.trans (hb_20.mono HB.out.size))
  replace HC1 := Lib.hid (Kd.C_below HC1.out hb_20)
  replace HC2 := Lib.hid (Kd.C_below HC2.out hb_20)
  replace HC3 := Lib.hid (Kd.C_below HC3.out hb_20)
  replace HC4 := Lib.hid (Kd.C_below HC4.out hb_20)
  replace HC5 := Lib.hid (Kd.C_below HC5.out hb_20)
  replace HL3 := Lib.hid ((hb_20.block _ (blk_lt HL3.out)).trans HL3.out)
  clear hb_20
  clear HL3 HC1 z0 z1 z2 z3 z4 z5 z6 z7
  have hb_21 := below_alloc (Below.refl w21.heap.size w21) (.cells #[.int .i64 0, .int .i64 1, .int .i64 1] 3)
  replace HB := Lib.hid (HB.out.trans (hb_21.mono HB.out.size))
  replace HC2 := Lib.hid (Kd.C_below HC2.out hb_21)
  replace HC3 := Lib.hid (Kd.C_below HC3.out hb_21)
  replace HC4 := Lib.hid (Kd.C_below HC4.out hb_21)
  replace HC5 := Lib.hid (Kd.C_below HC5.out hb_21)
  have HL4 := Lib.hid (heap_alloc_new w21 (.cells #[.int .i64 0, .int .i64 1, .int .i64 1] 3))
  clear hb_21
  go_wp2_with fail
  refine (Ints_lit _ [0, 1, 1] [0, 1, 1] _ _ _ 3 HC2.out HL4.out (by decide) rfl).mono ?_
  rintro e w22 ⟨rfl, hb_22⟩
  replace HB := Lib.hid (HB.out.trans (hb_22.mono HB.out.size))
  replace HC2 := Lib.hid (Kd.C_below HC2.out hb_22)
  replace HC3 := Lib.hid (Kd.C_below HC3.out hb_22)
  replace HC4 := Lib.hid (Kd.C_below HC4.out hb_22)
  replace HC5 := Lib.hid (Kd.C_below HC5.out hb_22)
  replace HL4 := Lib.hid ((hb_22.block _ (blk_lt HL4.out)).trans HL4.out)
  clear hb_22
  clear HL4 HC2
  have hb_23 := below_alloc (Below.refl w22.heap.size w22) (.cells #[.int .i64 1, .int .i64 2, .int .i64 0, .int .i64 0] 3)
  replace HB := Lib.hid (HB.out.trans (hb_23.mono HB.out.size))
  replace HC3 := Lib.hid (Kd.C_below HC3.out hb_23)
  replace HC4 := Lib.hid (Kd.C_below HC4.out hb_23)
  replace HC5 := Lib.hid (Kd.C_below HC5.out hb_23)
  have HL5 := Lib.hid (heap_alloc_new w22 (.cells #[.int .i64 1, .int .i64 2, .int .i64 0, .int .i64 0] 3))
  clear hb_23
  go_wp2_with fail
  refine (Ints_lit _ [1, 2, 0, 0] [1, 2, 0, 0] _ _ _ 4 HC3.out HL5.out (by decide) rfl).mono ?_
  rintro e w23 ⟨rfl, hb_24⟩
  replace HB := Lib.hid (HB.out.trans (hb_24.mono HB.out.size))
  replace HC3 := Lib.hid (Kd.C_below HC3.out hb_24)
  replace HC4 := Lib.hid (Kd.C_below HC4.out hb_24)
  replace HC5 := Lib.hid (Kd.C_below HC5.out hb_24)
  replace HL5 := Lib.hid ((hb_24.block _ (blk_lt HL5.out)).trans HL5.out)
  clear hb_24
  clear HL5 HC3
  obtain ⟨ad, rfl, zi⟩ := G4_im HC4.out
  have zi' : w23.cell? ⟨ad.block, ad.off + 5 + 2, none⟩ = some (.int .i64 2) := zi
  have hb_25 := below_alloc (Below.refl w23.heap.size w23) (.cells #[.int .i64 1, .int .i64 2, .int .i64 0, .int .i64 0] 3)
  replace HB := Lib.hid (HB.out.trans (hb_25.mono HB.out.size))
  replace HC5 := Lib.hid (Kd.C_below HC5.out hb_25)
  have HL6 := Lib.hid (heap_alloc_new w23 (.cells #[.int .i64 1, .int .i64 2, .int .i64 0, .int .i64 0] 3))
  clear hb_25
  go_wp2_with fail
  refine (Ints_lit _ [1, 2, 0, 0] [1, 2, 0, 0] _ _ _ 4 HC5.out HL6.out (by decide) rfl).mono ?_
  rintro e w24 ⟨rfl, hb_26⟩
  replace HB := Lib.hid (HB.out.trans (hb_26.mono HB.out.size))
  replace HC5 := Lib.hid (Kd.C_below HC5.out hb_26)
  replace HL6 := Lib.hid ((hb_26.block _ (blk_lt HL6.out)).trans HL6.out)
  clear hb_26
  clear HL6 HC5
  go_wp2
  go_ret
  exact ⟨rfl, HB.out⟩
end Go.Proofs.Ytofinglgnkdflaa
end
