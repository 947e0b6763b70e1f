/- HistoryChecks: Check of the reference; the law (function 5). -/
import Derived.Test.YtofinglgnkdflaaKQs
import Derived.Test.YtofinglgnkdflaaKQn
import Derived.Test.YtofinglgnkdflaaKQl
import Derived.Test.YtofinglgnkdflaaKHd
namespace Go.Proofs.Ytofinglgnkdflaa
open Go.RowKit
open Go.Proofs.Ytofinglgnkdflaa.PHistoryChecks Go.Proofs.YtofinglgnkdflaaW.PrintWords Go.Proofs.YtofinglgnkdflaaW.PrintLast Go.Proofs.YtofinglgnkdflaaW.PrintMore
set_option linter.unusedVariables false
set_option linter.unusedSimpArgs false
mutual
theorem sameV_self : ∀ a : S43, sameV a a = true
  | ⟨k, i, m, t, l⟩ => by simp [sameV, sameL_self l]
theorem sameL_self : ∀ l : List S43, sameL l l = true
  | [] => rfl
  | x :: l => by simp [sameL, sameV_self x, sameL_self l]
end
theorem sameE_refl (x : S47) : sameE x x = true := by unfold sameE; simp [sameV_self]
theorem sameEL_refl : ∀ l : List S47, sameEL l l = true
  | [] => rfl
  | x :: l => by simp only [sameEL]; rw [sameE_refl, sameEL_refl l]; rfl
structure ChS (W : World) (P : PastL) (R : Rw3) (A B : Option Addr) (l : List S47) (w : World) : Prop where
  hb : w.heap[W.heap.size]? = some (.cells #[.slice R.a1 P.pr.length R.c1, .slice R.a2 P.ob.length R.c2, .slice R.a3 P.cl.length R.c3] 30 (0, 0))
  bw : Below W.heap.size W w
  ca : Kd.C k47 w A l.length l
  cb : Kd.C k47 w B l.length l
theorem ChS.below {W w w1 : World} {P : PastL} {R : Rw3} {A B : Option Addr} {l : List S47} (h : ChS W P R A B l w) (hb : Below w.heap.size w w1) : ChS W P R A B l w1 :=
  ⟨(hb.block _ (blk_lt h.hb)).trans h.hb, h.bw.trans (hb.mono h.bw.size), Kd.C_below h.ca hb, Kd.C_below h.cb hb⟩
theorem ChS.cells {W w : World} {P : PastL} {R : Rw3} {A B : Option Addr} {l : List S47} (h : ChS W P R A B l w) : w.cell? ⟨W.heap.size, 0, none⟩ = some (.slice R.a1 P.pr.length R.c1) ∧ w.cell? ⟨W.heap.size, 1, none⟩ = some (.slice R.a2 P.ob.length R.c2) ∧ w.cell? ⟨W.heap.size, 2, none⟩ = some (.slice R.a3 P.cl.length R.c3) :=
  ⟨(blk_cell h.hb 0).trans rfl, (blk_cell h.hb 1).trans rfl, (blk_cell h.hb 2).trans rfl⟩
end Go.Proofs.Ytofinglgnkdflaa
