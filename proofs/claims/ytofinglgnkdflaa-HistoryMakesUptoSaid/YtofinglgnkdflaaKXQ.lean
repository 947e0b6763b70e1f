/- The reference of layer 4 at numbers of Gauss. -/
import Derived.Test.YtofinglgnkdflaaKXP
import Derived.Test.YtofinglgnkdflaaKXL
section
namespace Go.Proofs.Ytofinglgnkdflaa
open Go.RowKit
open Go.Proofs.Ytofinglgnkdflaa.PHistoryChecks Go.Proofs.YtofinglgnkdflaaW.PrintWords Go.Proofs.YtofinglgnkdflaaW.PrintLast Go.Proofs.YtofinglgnkdflaaW.PrintMore
set_option linter.unusedVariables false
set_option linter.unusedSimpArgs false
def rgoodB (P : PastL) (e : S47) : Bool := if e.f0 = 2 then decide (0 ≤ ixFrom e.f1 P.pr 0) && decide (0 ≤ opnF P.cl (ixFrom e.f1 P.pr 0)) else decide (e.f0 = 1) && (decide (ixFrom e.f1 P.pr 0 < 0) || decide (opnF P.cl (ixFrom e.f1 P.pr 0) < 0))
def raddP (P : PastL) (e : S47) (at_ : Int) : PastL := if e.f0 = 2 then resP P e at_ else invP P e at_
theorem raddP_len (P : PastL) (e : S47) (i : Int) : (raddP P e i).pr.length ≤ P.pr.length + 1 ∧ (raddP P e i).ob.length ≤ P.ob.length + 1 ∧ (raddP P e i).cl.length ≤ P.cl.length + 1 := by
  unfold raddP
  split
  · unfold resP; simp only; rw [setRes_length]; omega
  · unfold invP
    refine ⟨?_, ?_, ?_⟩
    · simp only; split <;> simp
    · simp only; split <;> simp
    · simp
structure RkS (f : Nat → Nat) (W wr : World) (s1 s2 cv : Value) (P : PastL) : Prop where
  rs : RsF f W.heap.size wr s1 s2 cv P
  lo : ∀ k, k < W.heap.size + 2 → f k = 0
  bx : wr.heap[W.heap.size + 1]? = some (.cells #[s1, s2, cv] 30 (0, 0))
  br : wr.heap[W.heap.size]? = some (.cells #[.slice none 0 0, .slice none 0 0, .slice none 0 0] 30 (0, 0))
  bl : Below W.heap.size W wr
section
variable {f : Nat → Nat} {W wr w1 : World} {s1 s2 cv s1' s2' cv' : Value} {P P' : PastL}
theorem RkS.below (h : RkS f W wr s1 s2 cv P) (hb : Below wr.heap.size wr w1) : RkS (recol f wr.heap.size 9) W w1 s1 s2 cv P := by
  have hs : W.heap.size + 1 < wr.heap.size := blk_lt h.bx
  exact ⟨h.rs.below hb 9, fun k hk => (recol_lt (by omega)).trans (h.lo k hk), (hb.block _ (by omega)).trans h.bx, (hb.block _ (by omega)).trans h.br, h.bl.trans (hb.mono h.bl.size)⟩
theorem RsF.set0 {B : Nat} {w : World} (h : RsF f B w s1 s2 cv P) {g : Nat} (hg : f g = 0) (i : Nat) (u : Value) : RsF f B (w.setCell ⟨g, i, none⟩ u) s1 s2 cv P := by
  have far : ∀ j, j ≠ 0 → ∀ k, clr f j k → k < w.heap.size → (w.setCell ⟨g, i, none⟩ u).heap[k]? = w.heap[k]? := fun j hj k hk _ => Below.heap_setCell _ _ _ _ (fun e => by unfold clr at hk; subst e; exact hj (hk.symm.trans hg))
  exact ⟨Kd.R_step h.pr (far 1 (by decide)), Kd.R_step h.ob (far 2 (by decide)), Kd.R_step h.cl (far 4 (by decide)), by rw [World.size_setCell]; exact h.sz⟩
theorem RkS.add {f' : Nat → Nat} (h : RkS f W wr s1 s2 cv P) (hr : RsF f' W.heap.size w1 s1' s2' cv' P') (hlt : ∀ k, k < wr.heap.size → f' k = f k) (hT : Turn (fun k => f k ≠ 0) wr w1) :
    RkS f' W (set3w (W.heap.size + 1) s1' s2' cv' w1) s1' s2' cv' P' ∧ w1.heap[W.heap.size + 1]? = some (.cells #[s1, s2, cv] 30 (0, 0)) ∧ Below W.heap.size W w1 := by
  have hs : W.heap.size + 1 < wr.heap.size := blk_lt h.bx
  have keep : ∀ k, k < W.heap.size + 2 → w1.heap[k]? = wr.heap[k]? := fun k hk => hT.block k (by omega) (fun hc => hc (h.lo k hk))
  have hx := (keep (W.heap.size + 1) (by omega)).trans h.bx
  have hf : f' (W.heap.size + 1) = 0 := (hlt _ (by omega)).trans (h.lo _ (by omega))
  have hb : Below W.heap.size W w1 := h.bl.trans ⟨hT.os, hT.tape, hT.output, hT.size, fun k hk => keep k (by omega)⟩
  refine ⟨⟨((hr.set0 hf 0 _).set0 hf 1 _).set0 hf 2 _, fun k hk => (hlt k (by omega)).trans (h.lo k hk), set3w_at _ _ _ hx, ?_, set3w_below hb (by omega) _ _ _⟩, hx, hb⟩
  rw [set3w_far _ _ _ _ (by omega)]
  exact (keep W.heap.size (by omega)).trans h.br
end
theorem rk_start (W : World) : RkS (fun _ => 0) W ((W.alloc (.cells #[.slice none 0 0, .slice none 0 0, .slice none 0 0] 30)).alloc (.cells #[.slice none 0 0, .slice none 0 0, .slice none 0 0] 30)) (.slice none 0 0) (.slice none 0 0) (.slice none 0 0) ⟨[], [], []⟩ := by
  have e0 := heap_alloc_new W (.cells #[.slice none 0 0, .slice none 0 0, .slice none 0 0] 30)
  have e1 := heap_alloc_new (W.alloc (.cells #[.slice none 0 0, .slice none 0 0, .slice none 0 0] 30)) (.cells #[.slice none 0 0, .slice none 0 0, .slice none 0 0] 30)
  rw [alloc_size] at e1
  exact ⟨⟨Kd.R_nil _ _ _ _ _, Kd.R_nil _ _ _ _ _, Kd.R_nil _ _ _ _ _, by rw [alloc_size, alloc_size]; omega⟩, fun _ _ => rfl, e1, blk_alloc e0 _, below_alloc (below_alloc (Below.refl _ _) _) _⟩
section
variable {P : Program} {ops : Array Oper} {Q : Exit → Act → World → Prop} {md : Region.Mode} {S : World → Prop} {ds : List Nat}
theorem runPure {v : Value} {fuel : Nat} {listed : Array Bool} {a : Act} {w : World} (i : Nat) {oi : Oper} {rest : List Oper} (hi : ops.toList.drop i = oi :: rest)
    (hk : (Region.noSelect ops && Region.free md ops listed i && (Region.ready md ops listed).contains i) = true)
    (hQ : ∀ c a w, Q (.panic c) (a.put oi.dst v) w → Q (.panic c) a w) (hw : Region.wanted oi (yielded ops a.tmps) = true) (hy : ∀ w, (execOp a.eval oi).run P w = .ok (.value v) w)
    (h : wpAnyLast P md ops Q S ds fuel (listed.setIfInBounds i true) (a.put oi.dst v) w) : wpAnyLast P md ops Q S ds (fuel + 1) listed a w := by
  simp only [Bool.and_eq_true] at hk
  obtain ⟨⟨h1, h2⟩, h3⟩ := hk
  have hi2 : ops[i]? = some oi := by
    rw [← Array.getElem?_toList]
    have h2 := congrArg (fun l => l[0]?) hi
    simpa using h2
  exact wpAnyLast_any hi2 (Region.noSelect_spec h1) hQ fuel listed a w (Region.free_spec hi2 h2) (by simpa using h3) (Or.inl ⟨hw, hy⟩) h
end
theorem rk_cells {W w : World} {s1 s2 cv : Value} {ad : Addr} {i : Int} {e : S47} {A4 : Option Addr} {c4 : Nat} (hb : w.heap[W.heap.size + 1]? = some (.cells #[s1, s2, cv] 30 (0, 0))) (hl : Below W.heap.size W w) (hX : W.cell? (ad.add (i.toNat * 12)) = some (.int .i64 e.f0) ∧ W.cell? ⟨(ad.add (i.toNat * 12)).block, (ad.add (i.toNat * 12)).off + 1, none⟩ = some (.string e.f1) ∧ W.cell? ⟨(ad.add (i.toNat * 12)).block, (ad.add (i.toNat * 12)).off + 2, none⟩ = some (.string e.f2) ∧ W.cell? ⟨(ad.add (i.toNat * 12)).block, (ad.add (i.toNat * 12)).off + 3, none⟩ = some (.string e.f3) ∧ W.cell? ⟨(ad.add (i.toNat * 12)).block, (ad.add (i.toNat * 12)).off + 4, none⟩ = some (.int .i64 e.f4.f0) ∧ W.cell? ⟨(ad.add (i.toNat * 12)).block, (ad.add (i.toNat * 12)).off + 5, none⟩ = some (.int .i64 e.f4.f1) ∧ W.cell? ⟨(ad.add (i.toNat * 12)).block, (ad.add (i.toNat * 12)).off + 6, none⟩ = some (.int .i64 e.f4.f2) ∧ W.cell? ⟨(ad.add (i.toNat * 12)).block, (ad.add (i.toNat * 12)).off + 7, none⟩ = some (.string e.f4.f3) ∧ W.cell? ⟨(ad.add (i.toNat * 12)).block, (ad.add (i.toNat * 12)).off + 8, none⟩ = some (.slice A4 e.f4.f4.length c4) ∧ W.cell? ⟨(ad.add (i.toNat * 12)).block, (ad.add (i.toNat * 12)).off + 9, none⟩ = some (.int .i64 e.f5.f0) ∧ W.cell? ⟨(ad.add (i.toNat * 12)).block, (ad.add (i.toNat * 12)).off + 10, none⟩ = some (.int .i64 e.f5.f1) ∧ W.cell? ⟨(ad.add (i.toNat * 12)).block, (ad.add (i.toNat * 12)).off + 11, none⟩ = some (.int .i64 e.f5.f2)) :
    w.cell? ⟨W.heap.size + 1, 0, none⟩ = some (s1) ∧ w.cell? ⟨W.heap.size + 1, 1, none⟩ = some (s2) ∧ w.cell? ⟨W.heap.size + 1, 2, none⟩ = some (cv) ∧ w.cell? (ad.add (i.toNat * 12)) = some (.int .i64 e.f0) ∧ w.cell? ⟨(ad.add (i.toNat * 12)).block, (ad.add (i.toNat * 12)).off + 1, none⟩ = some (.string e.f1) ∧ w.cell? ⟨(ad.add (i.toNat * 12)).block, (ad.add (i.toNat * 12)).off + 2, none⟩ = some (.string e.f2) ∧ w.cell? ⟨(ad.add (i.toNat * 12)).block, (ad.add (i.toNat * 12)).off + 3, none⟩ = some (.string e.f3) ∧ w.cell? ⟨(ad.add (i.toNat * 12)).block, (ad.add (i.toNat * 12)).off + 4, none⟩ = some (.int .i64 e.f4.f0) ∧ w.cell? ⟨(ad.add (i.toNat * 12)).block, (ad.add (i.toNat * 12)).off + 5, none⟩ = some (.int .i64 e.f4.f1) ∧ w.cell? ⟨(ad.add (i.toNat * 12)).block, (ad.add (i.toNat * 12)).off + 6, none⟩ = some (.int .i64 e.f4.f2) ∧ w.cell? ⟨(ad.add (i.toNat * 12)).block, (ad.add (i.toNat * 12)).off + 7, none⟩ = some (.string e.f4.f3) ∧ w.cell? ⟨(ad.add (i.toNat * 12)).block, (ad.add (i.toNat * 12)).off + 8, none⟩ = some (.slice A4 e.f4.f4.length c4) ∧ w.cell? ⟨(ad.add (i.toNat * 12)).block, (ad.add (i.toNat * 12)).off + 9, none⟩ = some (.int .i64 e.f5.f0) ∧ w.cell? ⟨(ad.add (i.toNat * 12)).block, (ad.add (i.toNat * 12)).off + 10, none⟩ = some (.int .i64 e.f5.f1) ∧ w.cell? ⟨(ad.add (i.toNat * 12)).block, (ad.add (i.toNat * 12)).off + 11, none⟩ = some (.int .i64 e.f5.f2) :=
  ⟨(blk_cell hb 0).trans rfl, (blk_cell hb 1).trans rfl, (blk_cell hb 2).trans rfl, pw_cell_below hl hX.1, pw_cell_below hl hX.2.1, pw_cell_below hl hX.2.2.1, pw_cell_below hl hX.2.2.2.1, pw_cell_below hl hX.2.2.2.2.1, pw_cell_below hl hX.2.2.2.2.2.1, pw_cell_below hl hX.2.2.2.2.2.2.1, pw_cell_below hl hX.2.2.2.2.2.2.2.1, pw_cell_below hl hX.2.2.2.2.2.2.2.2.1, pw_cell_below hl hX.2.2.2.2.2.2.2.2.2.1, pw_cell_below hl hX.2.2.2.2.2.2.2.2.2.2.1, pw_cell_below hl hX.2.2.2.2.2.2.2.2.2.2.2⟩
theorem RkS.drew {f : Nat → Nat} {W wr : World} {s1 s2 cv : Value} {P : PastL} (h : RkS f W wr s1 s2 cv P) : RkS f W wr.drew s1 s2 cv P :=
  ⟨⟨Kd.R_drew h.rs.pr, Kd.R_drew h.rs.ob, Kd.R_drew h.rs.cl, h.rs.sz⟩, h.lo, h.bx, h.br, below_drew h.bl⟩
theorem radd_any (W : World) (f : Nat → Nat) (B : Nat) (s1 s2 cv : Value) (P : PastL) (e : S47) (A : Option Addr) (c : Nat) (at_ : Int) (h : RsF f B W s1 s2 cv P) (hlo : ∀ k, k < B → f k = 0)
    (hpl : P.pr.length ≤ 1000000) (hol : P.ob.length ≤ 1000000) (hcl : P.cl.length ≤ 1000000) (hg : rgoodB P e = true)
    (hF : Kd.F k43 W (fun k => k < B) A e.f4.f4.length e.f4.f4) (hcp : ∀ W1 A c, Kd.C k43 W1 A e.f4.f4.length e.f4.f4 → Calls Try.prog 54 #[v43 e.f4 A c] W1 (OwnP e.f4 W1)) :
    Calls Try.prog 59 #[.agg #[s1, s2, cv], .agg (c47 e A c), .int .i64 at_] W (AddP f B W (raddP P e at_) 0) := by
  unfold rgoodB at hg
  unfold raddP
  by_cases h2 : e.f0 = 2
  · rw [if_pos h2] at hg ⊢
    simp only [Bool.and_eq_true, decide_eq_true_eq] at hg
    exact add_res W f B s1 s2 cv P e A c at_ h hlo hcl h2 hg.1 hg.2 hF hcp
  · rw [if_neg h2] at hg ⊢
    simp only [Bool.and_eq_true, Bool.or_eq_true, decide_eq_true_eq] at hg
    exact add_inv W f B s1 s2 cv P e A c at_ h hlo hpl hol hcl hg.1 hg.2 hF hcp
end Go.Proofs.Ytofinglgnkdflaa
end
section
namespace Go.Proofs.Ytofinglgnkdflaa
open Go.RowKit
open Go.Proofs.Ytofinglgnkdflaa.PHistoryChecks Go.Proofs.YtofinglgnkdflaaW.PrintWords Go.Proofs.YtofinglgnkdflaaW.PrintLast Go.Proofs.YtofinglgnkdflaaW.PrintMore
set_option linter.unusedVariables false
set_option linter.unusedSimpArgs false
end Go.Proofs.Ytofinglgnkdflaa
end
section
namespace Go.Proofs.Ytofinglgnkdflaa
open Go.RowKit
open Go.Proofs.Ytofinglgnkdflaa.PHistoryChecks Go.Proofs.YtofinglgnkdflaaW.PrintWords Go.Proofs.YtofinglgnkdflaaW.PrintLast Go.Proofs.YtofinglgnkdflaaW.PrintMore
set_option linter.unusedVariables false
set_option linter.unusedSimpArgs false
end Go.Proofs.Ytofinglgnkdflaa
end
section
namespace Go.Proofs.Ytofinglgnkdflaa
open Go.RowKit
open Go.Proofs.Ytofinglgnkdflaa.PHistoryChecks Go.Proofs.YtofinglgnkdflaaW.PrintWords Go.Proofs.YtofinglgnkdflaaW.PrintLast Go.Proofs.YtofinglgnkdflaaW.PrintMore
set_option linter.unusedVariables false
set_option linter.unusedSimpArgs false
end Go.Proofs.Ytofinglgnkdflaa
end
