/- Layer 26: Of. -/
import Derived.Test.YtofinglgnkdflaaKXM
import Derived.BigRegion
section
namespace Go.Proofs.Ytofinglgnkdflaa
open Go.RowKit
open Go.Proofs.Ytofinglgnkdflaa.PHistoryChecks Go.Proofs.YtofinglgnkdflaaW.PrintWords Go.Proofs.YtofinglgnkdflaaW.PrintLast Go.Proofs.YtofinglgnkdflaaW.PrintMore
set_option linter.unusedVariables false
set_option linter.unusedSimpArgs false
structure Sh8 where
  e : Int
  c : Int
  p : Int
  pr : Int
  ob : Int
  w : Int
  pa : Int
  h : Int
def inStep (cl : List S50) (b a : Nat) (s : List Int × Int) : List Int × Int := if befB cl a b then (s.1.set b (max (rd s.1 b) (rd s.1 a + 1)), s.2) else (s.1, s.2 + 1)
def inGo (cl : List S50) (b : Nat) : Nat → Nat → List Int × Int → List Int × Int
  | 0, _, s => s
  | k + 1, a, s => inGo cl b k (a + 1) (inStep cl b a s)
structure OfS where
  h : List Int
  pa : Int
  p : Int
  ht : Int
def ofStep (cl : List S50) (b : Nat) (s : OfS) : OfS :=
  let r := inGo cl b b 0 (s.h.set b 1, s.pa)
  ⟨r.1, r.2, if (rd_T50 cl b).f5 < 0 then s.p + 1 else s.p, max s.ht (rd r.1 b)⟩
theorem inGo_length (cl : List S50) (b : Nat) (k : Nat) : ∀ a s, (inGo cl b k a s).1.length = s.1.length := by
  induction k with
  | zero => intros; rfl
  | succ k ih => intro a s; simp only [inGo]; rw [ih]; unfold inStep; split <;> simp
def HtB (h : List Int) : Prop := ∀ j : Nat, 0 ≤ rd h j ∧ rd h j ≤ (j : Int) + 1
theorem HtB.set {h : List Int} (hh : HtB h) (b : Nat) (v : Int) (h0 : 0 ≤ v) (h1 : v ≤ (b : Int) + 1) : HtB (h.set b v) := fun j => by
  rw [rd_set']
  split
  · rename_i e; omega
  · exact hh j
theorem HtB.zero (n : Nat) : HtB (List.replicate n 0) := fun j => by
  unfold YtofinglgnkdflaaW.PrintWords.rd
  rw [List.getD_eq_getElem?_getD]
  rcases h : (List.replicate n (0 : Int))[(j : Int).toNat]? with _ | x
  · simp; omega
  · have := List.eq_of_mem_replicate (List.mem_of_getElem? h); subst this; simp; omega
end Go.Proofs.Ytofinglgnkdflaa
end
