/- HistoryChecks: Check of the reference; the law (function 5). -/
import Derived.Test.YtofinglgnkdflaaLQs
import Derived.Test.YtofinglgnkdflaaLQn
import Derived.Test.YtofinglgnkdflaaLQl
import Derived.Test.YtofinglgnkdflaaLHd
namespace Go.Proofs.Ytofinglgnkdflaa
open Go.RowKit
open Go.Proofs.Ytofinglgnkdflaa.PHistoryChecks Go.Proofs.YtofinglgnkdflaaW.PrintWords Go.Proofs.YtofinglgnkdflaaW.PrintLast Go.Proofs.YtofinglgnkdflaaW.PrintMore
set_option linter.unusedVariables false
set_option linter.unusedSimpArgs false
def evL (P : PastL) : List S47 := (eventsF P).getD []
def evC (P : PastL) : Int := if (eventsF P).isSome then 0 else 2
def EvO (P : PastL) (W : World) (e : Ending) (w' : World) : Prop :=
  Below W.heap.size W w' ∧ ∃ A c, e = .returned (.tuple #[.slice A (evL P).length c, .int .i64 (evC P)]) ∧ Kd.C k47 w' A (evL P).length (evL P) ∧ (evL P).length ≤ c
theorem revsP_out {P : PastL} {W w : World} {e : Ending} (h : REvsP P W e w) : EvO P W e w := by
  unfold REvsP at h
  unfold EvO evL evC
  refine ⟨h.1, ?_⟩
  rcases hx : eventsF P with _ | xs
  · rw [hx] at h
    exact ⟨none, 0, h.2, Kd.C_nil _ _, Nat.le_refl _⟩
  · rw [hx] at h
    obtain ⟨A, c, he, hr, hl⟩ := h.2
    exact ⟨A, c, he, hr, hl⟩
set_option maxHeartbeats 4000000 in
theorem rCheck_any (W : World) (P : PastL) (R : Rw3) (hR : RdP W P R) (hl : P.cl.length ≤ 250000) (hE : ∀ xs, eventsL P = some xs → ∀ e ∈ xs, okE2 e) :
    Calls Try.prog 24 #[.agg (cP P R)] W (fun e w' => e = .returned (.int .i64 (evC P)) ∧ Below W.heap.size W w') := by
  have HEV := Lib.hid (fun W1 (h : Below W.heap.size W W1) => (REvents_any W1 P R (hR.below h) hl hE).mono fun _ _ => revsP_out)
  have HB0 := Lib.hid (below_alloc (Below.refl W.heap.size W) (.cells (cP P R) 30))
  unfold EvO at HEV
  obtain ⟨r, hr⟩ : ∃ r : Int, r = evC P := ⟨_, rfl⟩
  obtain ⟨xs, hxs⟩ : ∃ r, r = evL P := ⟨_, rfl⟩
  rw [← hr, ← hxs] at HEV
  rw [← hr]
  unfold cP at HB0 HEV ⊢
  clear hR hE hr hxs
  go_enter Try.func24, Try.ntmps24
  go_wp2_with fail
  refine (HEV.out _ HB0.out).mono ?_
  rintro e w1 ⟨hw1, A, c, rfl, _, _⟩
  have HB1 := Lib.hid (HB0.out.trans (hw1.mono HB0.out.size))
  clear HEV hw1
  go_wp2
  go_ret
  exact ⟨rfl, HB1.out⟩
structure ChS (W : World) (P : PastL) (R : Rw3) (A B : Option Addr) (l : List S47) (w : World) : Prop where
  hb : w.heap[W.heap.size]? = some (.cells #[.slice R.a1 P.pr.length R.c1, .slice R.a2 P.ob.length R.c2, .slice R.a3 P.cl.length R.c3] 30 (0, 0))
  bw : Below W.heap.size W w
  ca : Kd.C k47 w A l.length l
  cb : Kd.C k47 w B l.length l
theorem ChS.below {W w w1 : World} {P : PastL} {R : Rw3} {A B : Option Addr} {l : List S47} (h : ChS W P R A B l w) (hb : Below w.heap.size w w1) : ChS W P R A B l w1 :=
  ⟨(hb.block _ (blk_lt h.hb)).trans h.hb, h.bw.trans (hb.mono h.bw.size), Kd.C_below h.ca hb, Kd.C_below h.cb hb⟩
theorem ChS.cells {W w : World} {P : PastL} {R : Rw3} {A B : Option Addr} {l : List S47} (h : ChS W P R A B l w) : w.cell? ⟨W.heap.size, 0, none⟩ = some (.slice R.a1 P.pr.length R.c1) ∧ w.cell? ⟨W.heap.size, 1, none⟩ = some (.slice R.a2 P.ob.length R.c2) ∧ w.cell? ⟨W.heap.size, 2, none⟩ = some (.slice R.a3 P.cl.length R.c3) :=
  ⟨(blk_cell h.hb 0).trans rfl, (blk_cell h.hb 1).trans rfl, (blk_cell h.hb 2).trans rfl⟩
end Go.Proofs.Ytofinglgnkdflaa
