/- The reference of layer 4 at numbers of Gauss. -/
import Derived.Test.YtofinglgnkdflaaLXP
import Derived.Test.YtofinglgnkdflaaLXL
section
namespace Go.Proofs.Ytofinglgnkdflaa
open Go.RowKit
open Go.Proofs.Ytofinglgnkdflaa.PHistoryChecks Go.Proofs.YtofinglgnkdflaaW.PrintWords Go.Proofs.YtofinglgnkdflaaW.PrintLast Go.Proofs.YtofinglgnkdflaaW.PrintMore
set_option linter.unusedVariables false
set_option linter.unusedSimpArgs false
def rgoodB (P : PastL) (e : S47) : Bool := if e.f0 = 2 then decide (0 ≤ ixFrom e.f1 P.pr 0) && decide (0 ≤ opnF P.cl (ixFrom e.f1 P.pr 0)) else decide (e.f0 = 1) && (decide (ixFrom e.f1 P.pr 0 < 0) || decide (opnF P.cl (ixFrom e.f1 P.pr 0) < 0))
def raddP (P : PastL) (e : S47) (at_ : Int) : PastL := if e.f0 = 2 then resP P e at_ else invP P e at_
def rgo : List S47 → Int → PastL → Option PastL
  | [], _, P => some P
  | e :: l, i, P => if rgoodB P e then rgo l (i + 1) (raddP P e i) else none
theorem rgo_step (E : List S47) (i : Int) (P F : PastL) (h0 : 0 ≤ i) (h1 : i < (E.length : Int)) (h : rgo (E.drop i.toNat) i P = some F) : rgoodB P (rd_T47 E i) = true ∧ rgo (E.drop (i + 1).toNat) (i + 1) (raddP P (rd_T47 E i) i) = some F := by
  have hn : i.toNat < E.length := by omega
  have e : rd_T47 E i = E[i.toNat] := by unfold rd_T47; rw [List.getD_eq_getElem?_getD, List.getElem?_eq_getElem hn]; rfl
  have e2 : (i + 1).toNat = i.toNat + 1 := by omega
  rw [List.drop_eq_getElem_cons hn] at h
  simp only [rgo] at h
  rw [e2, e]
  split at h
  · rename_i hb; exact ⟨hb, h⟩
  · cases h
theorem raddP_len (P : PastL) (e : S47) (i : Int) : (raddP P e i).pr.length ≤ P.pr.length + 1 ∧ (raddP P e i).ob.length ≤ P.ob.length + 1 ∧ (raddP P e i).cl.length ≤ P.cl.length + 1 := by
  unfold raddP
  split
  · unfold resP; simp only; rw [setRes_length]; omega
  · unfold invP
    refine ⟨?_, ?_, ?_⟩
    · simp only; split <;> simp
    · simp only; split <;> simp
    · simp
structure RkS (f : Nat → Nat) (W wr : World) (s1 s2 cv : Value) (P : PastL) : Prop where
  rs : RsF f W.heap.size wr s1 s2 cv P
  lo : ∀ k, k < W.heap.size + 2 → f k = 0
  bx : wr.heap[W.heap.size + 1]? = some (.cells #[s1, s2, cv] 30 (0, 0))
  br : wr.heap[W.heap.size]? = some (.cells #[.slice none 0 0, .slice none 0 0, .slice none 0 0] 30 (0, 0))
  bl : Below W.heap.size W wr
section
variable {f : Nat → Nat} {W wr w1 : World} {s1 s2 cv s1' s2' cv' : Value} {P P' : PastL}
theorem RkS.below (h : RkS f W wr s1 s2 cv P) (hb : Below wr.heap.size wr w1) : RkS (recol f wr.heap.size 9) W w1 s1 s2 cv P := by
  have hs : W.heap.size + 1 < wr.heap.size := blk_lt h.bx
  exact ⟨h.rs.below hb 9, fun k hk => (recol_lt (by omega)).trans (h.lo k hk), (hb.block _ (by omega)).trans h.bx, (hb.block _ (by omega)).trans h.br, h.bl.trans (hb.mono h.bl.size)⟩
theorem RsF.set0 {B : Nat} {w : World} (h : RsF f B w s1 s2 cv P) {g : Nat} (hg : f g = 0) (i : Nat) (u : Value) : RsF f B (w.setCell ⟨g, i, none⟩ u) s1 s2 cv P := by
  have far : ∀ j, j ≠ 0 → ∀ k, clr f j k → k < w.heap.size → (w.setCell ⟨g, i, none⟩ u).heap[k]? = w.heap[k]? := fun j hj k hk _ => Below.heap_setCell _ _ _ _ (fun e => by unfold clr at hk; subst e; exact hj (hk.symm.trans hg))
  exact ⟨Kd.R_step h.pr (far 1 (by decide)), Kd.R_step h.ob (far 2 (by decide)), Kd.R_step h.cl (far 4 (by decide)), by rw [World.size_setCell]; exact h.sz⟩
theorem RkS.add {f' : Nat → Nat} (h : RkS f W wr s1 s2 cv P) (hr : RsF f' W.heap.size w1 s1' s2' cv' P') (hlt : ∀ k, k < wr.heap.size → f' k = f k) (hT : Turn (fun k => f k ≠ 0) wr w1) :
    RkS f' W (set3w (W.heap.size + 1) s1' s2' cv' w1) s1' s2' cv' P' ∧ w1.heap[W.heap.size + 1]? = some (.cells #[s1, s2, cv] 30 (0, 0)) ∧ Below W.heap.size W w1 := by
  have hs : W.heap.size + 1 < wr.heap.size := blk_lt h.bx
  have keep : ∀ k, k < W.heap.size + 2 → w1.heap[k]? = wr.heap[k]? := fun k hk => hT.block k (by omega) (fun hc => hc (h.lo k hk))
  have hx := (keep (W.heap.size + 1) (by omega)).trans h.bx
  have hf : f' (W.heap.size + 1) = 0 := (hlt _ (by omega)).trans (h.lo _ (by omega))
  have hb : Below W.heap.size W w1 := h.bl.trans ⟨hT.os, hT.tape, hT.output, hT.size, fun k hk => keep k (by omega)⟩
  refine ⟨⟨((hr.set0 hf 0 _).set0 hf 1 _).set0 hf 2 _, fun k hk => (hlt k (by omega)).trans (h.lo k hk), set3w_at _ _ _ hx, ?_, set3w_below hb (by omega) _ _ _⟩, hx, hb⟩
  rw [set3w_far _ _ _ _ (by omega)]
  exact (keep W.heap.size (by omega)).trans h.br
end
theorem rk_start (W : World) : RkS (fun _ => 0) W ((W.alloc (.cells #[.slice none 0 0, .slice none 0 0, .slice none 0 0] 30)).alloc (.cells #[.slice none 0 0, .slice none 0 0, .slice none 0 0] 30)) (.slice none 0 0) (.slice none 0 0) (.slice none 0 0) ⟨[], [], []⟩ := by
  have e0 := heap_alloc_new W (.cells #[.slice none 0 0, .slice none 0 0, .slice none 0 0] 30)
  have e1 := heap_alloc_new (W.alloc (.cells #[.slice none 0 0, .slice none 0 0, .slice none 0 0] 30)) (.cells #[.slice none 0 0, .slice none 0 0, .slice none 0 0] 30)
  rw [alloc_size] at e1
  exact ⟨⟨Kd.R_nil _ _ _ _ _, Kd.R_nil _ _ _ _ _, Kd.R_nil _ _ _ _ _, by rw [alloc_size, alloc_size]; omega⟩, fun _ _ => rfl, e1, blk_alloc e0 _, below_alloc (below_alloc (Below.refl _ _) _) _⟩
section
variable {P : Program} {ops : Array Oper} {Q : Exit → Act → World → Prop} {md : Region.Mode} {S : World → Prop} {ds : List Nat}
theorem runPure {v : Value} {fuel : Nat} {listed : Array Bool} {a : Act} {w : World} (i : Nat) {oi : Oper} {rest : List Oper} (hi : ops.toList.drop i = oi :: rest)
    (hk : (Region.noSelect ops && Region.free md ops listed i && (Region.ready md ops listed).contains i) = true)
    (hQ : ∀ c a w, Q (.panic c) (a.put oi.dst v) w → Q (.panic c) a w) (hw : Region.wanted oi (yielded ops a.tmps) = true) (hy : ∀ w, (execOp a.eval oi).run P w = .ok (.value v) w)
    (h : wpAnyLast P md ops Q S ds fuel (listed.setIfInBounds i true) (a.put oi.dst v) w) : wpAnyLast P md ops Q S ds (fuel + 1) listed a w := by
  simp only [Bool.and_eq_true] at hk
  obtain ⟨⟨h1, h2⟩, h3⟩ := hk
  have hi2 : ops[i]? = some oi := by
    rw [← Array.getElem?_toList]
    have h2 := congrArg (fun l => l[0]?) hi
    simpa using h2
  exact wpAnyLast_any hi2 (Region.noSelect_spec h1) hQ fuel listed a w (Region.free_spec hi2 h2) (by simpa using h3) (Or.inl ⟨hw, hy⟩) h
end
theorem rk_cells {W w : World} {s1 s2 cv : Value} {ad : Addr} {i : Int} {e : S47} {A4 : Option Addr} {c4 : Nat} (hb : w.heap[W.heap.size + 1]? = some (.cells #[s1, s2, cv] 30 (0, 0))) (hl : Below W.heap.size W w) (hX : W.cell? (ad.add (i.toNat * 12)) = some (.int .i64 e.f0) ∧ W.cell? ⟨(ad.add (i.toNat * 12)).block, (ad.add (i.toNat * 12)).off + 1, none⟩ = some (.string e.f1) ∧ W.cell? ⟨(ad.add (i.toNat * 12)).block, (ad.add (i.toNat * 12)).off + 2, none⟩ = some (.string e.f2) ∧ W.cell? ⟨(ad.add (i.toNat * 12)).block, (ad.add (i.toNat * 12)).off + 3, none⟩ = some (.string e.f3) ∧ W.cell? ⟨(ad.add (i.toNat * 12)).block, (ad.add (i.toNat * 12)).off + 4, none⟩ = some (.int .i64 e.f4.f0) ∧ W.cell? ⟨(ad.add (i.toNat * 12)).block, (ad.add (i.toNat * 12)).off + 5, none⟩ = some (.int .i64 e.f4.f1) ∧ W.cell? ⟨(ad.add (i.toNat * 12)).block, (ad.add (i.toNat * 12)).off + 6, none⟩ = some (.int .i64 e.f4.f2) ∧ W.cell? ⟨(ad.add (i.toNat * 12)).block, (ad.add (i.toNat * 12)).off + 7, none⟩ = some (.string e.f4.f3) ∧ W.cell? ⟨(ad.add (i.toNat * 12)).block, (ad.add (i.toNat * 12)).off + 8, none⟩ = some (.slice A4 e.f4.f4.length c4) ∧ W.cell? ⟨(ad.add (i.toNat * 12)).block, (ad.add (i.toNat * 12)).off + 9, none⟩ = some (.int .i64 e.f5.f0) ∧ W.cell? ⟨(ad.add (i.toNat * 12)).block, (ad.add (i.toNat * 12)).off + 10, none⟩ = some (.int .i64 e.f5.f1) ∧ W.cell? ⟨(ad.add (i.toNat * 12)).block, (ad.add (i.toNat * 12)).off + 11, none⟩ = some (.int .i64 e.f5.f2)) :
    w.cell? ⟨W.heap.size + 1, 0, none⟩ = some (s1) ∧ w.cell? ⟨W.heap.size + 1, 1, none⟩ = some (s2) ∧ w.cell? ⟨W.heap.size + 1, 2, none⟩ = some (cv) ∧ w.cell? (ad.add (i.toNat * 12)) = some (.int .i64 e.f0) ∧ w.cell? ⟨(ad.add (i.toNat * 12)).block, (ad.add (i.toNat * 12)).off + 1, none⟩ = some (.string e.f1) ∧ w.cell? ⟨(ad.add (i.toNat * 12)).block, (ad.add (i.toNat * 12)).off + 2, none⟩ = some (.string e.f2) ∧ w.cell? ⟨(ad.add (i.toNat * 12)).block, (ad.add (i.toNat * 12)).off + 3, none⟩ = some (.string e.f3) ∧ w.cell? ⟨(ad.add (i.toNat * 12)).block, (ad.add (i.toNat * 12)).off + 4, none⟩ = some (.int .i64 e.f4.f0) ∧ w.cell? ⟨(ad.add (i.toNat * 12)).block, (ad.add (i.toNat * 12)).off + 5, none⟩ = some (.int .i64 e.f4.f1) ∧ w.cell? ⟨(ad.add (i.toNat * 12)).block, (ad.add (i.toNat * 12)).off + 6, none⟩ = some (.int .i64 e.f4.f2) ∧ w.cell? ⟨(ad.add (i.toNat * 12)).block, (ad.add (i.toNat * 12)).off + 7, none⟩ = some (.string e.f4.f3) ∧ w.cell? ⟨(ad.add (i.toNat * 12)).block, (ad.add (i.toNat * 12)).off + 8, none⟩ = some (.slice A4 e.f4.f4.length c4) ∧ w.cell? ⟨(ad.add (i.toNat * 12)).block, (ad.add (i.toNat * 12)).off + 9, none⟩ = some (.int .i64 e.f5.f0) ∧ w.cell? ⟨(ad.add (i.toNat * 12)).block, (ad.add (i.toNat * 12)).off + 10, none⟩ = some (.int .i64 e.f5.f1) ∧ w.cell? ⟨(ad.add (i.toNat * 12)).block, (ad.add (i.toNat * 12)).off + 11, none⟩ = some (.int .i64 e.f5.f2) :=
  ⟨(blk_cell hb 0).trans rfl, (blk_cell hb 1).trans rfl, (blk_cell hb 2).trans rfl, pw_cell_below hl hX.1, pw_cell_below hl hX.2.1, pw_cell_below hl hX.2.2.1, pw_cell_below hl hX.2.2.2.1, pw_cell_below hl hX.2.2.2.2.1, pw_cell_below hl hX.2.2.2.2.2.1, pw_cell_below hl hX.2.2.2.2.2.2.1, pw_cell_below hl hX.2.2.2.2.2.2.2.1, pw_cell_below hl hX.2.2.2.2.2.2.2.2.1, pw_cell_below hl hX.2.2.2.2.2.2.2.2.2.1, pw_cell_below hl hX.2.2.2.2.2.2.2.2.2.2.1, pw_cell_below hl hX.2.2.2.2.2.2.2.2.2.2.2⟩
theorem RkS.drew {f : Nat → Nat} {W wr : World} {s1 s2 cv : Value} {P : PastL} (h : RkS f W wr s1 s2 cv P) : RkS f W wr.drew s1 s2 cv P :=
  ⟨⟨Kd.R_drew h.rs.pr, Kd.R_drew h.rs.ob, Kd.R_drew h.rs.cl, h.rs.sz⟩, h.lo, h.bx, h.br, below_drew h.bl⟩
theorem radd_any (W : World) (f : Nat → Nat) (B : Nat) (s1 s2 cv : Value) (P : PastL) (e : S47) (A : Option Addr) (c : Nat) (at_ : Int) (h : RsF f B W s1 s2 cv P) (hlo : ∀ k, k < B → f k = 0)
    (hpl : P.pr.length ≤ 1000000) (hol : P.ob.length ≤ 1000000) (hcl : P.cl.length ≤ 1000000) (hg : rgoodB P e = true)
    (hF : Kd.F k43 W (fun k => k < B) A e.f4.f4.length e.f4.f4) (hcp : ∀ W1 A c, Kd.C k43 W1 A e.f4.f4.length e.f4.f4 → Calls Try.prog 54 #[v43 e.f4 A c] W1 (OwnP e.f4 W1)) :
    Calls Try.prog 59 #[.agg #[s1, s2, cv], .agg (c47 e A c), .int .i64 at_] W (AddP f B W (raddP P e at_) 0) := by
  unfold rgoodB at hg
  unfold raddP
  by_cases h2 : e.f0 = 2
  · rw [if_pos h2] at hg ⊢
    simp only [Bool.and_eq_true, decide_eq_true_eq] at hg
    exact add_res W f B s1 s2 cv P e A c at_ h hlo hcl h2 hg.1 hg.2 hF hcp
  · rw [if_neg h2] at hg ⊢
    simp only [Bool.and_eq_true, Bool.or_eq_true, decide_eq_true_eq] at hg
    exact add_inv W f B s1 s2 cv P e A c at_ h hlo hpl hol hcl hg.1 hg.2 hF hcp
set_option maxHeartbeats 8000000 in
set_option maxRecDepth 100000 in
theorem RMake_good (W : World) (E : List S47) (A : Option Addr) (c : Nat) (F : PastL) (hC : Kd.C k47 W A E.length E) (hc : E.length ≤ c) (hl : E.length ≤ 500000)
    (hri : ∀ e ∈ E, ∀ W1 A1 c1, Kd.C k43 W1 A1 e.f4.f4.length e.f4.f4 → Calls Try.prog 58 #[.agg (c47 e A1 c1)] W1 (fun r w' => r = .returned (.bool true) ∧ Below W1.heap.size W1 w'))
    (hcp : ∀ e ∈ E, ∀ W1 A1 c1, Kd.C k43 W1 A1 e.f4.f4.length e.f4.f4 → Calls Try.prog 54 #[v43 e.f4 A1 c1] W1 (OwnP e.f4 W1))
    (hg : rgo E 0 ⟨[], [], []⟩ = some F) (hlg : ∀ i : Int, 0 ≤ i → i < (E.length : Int) → largeF F.cl i = false) (hfp : ∀ i : Int, 0 ≤ i → i < (F.cl.length : Int) → 0 ≤ (rd_T50 F.cl i).f0 ∧ (rd_T50 F.cl i).f0 ≤ 1000000) :
    Calls Try.prog 16 #[.slice A E.length c] W (MakeP (F, 0, 0) W) := by
  have HG0 := Lib.hid (show rgo (E.drop (0 : Int).toNat) 0 ⟨[], [], []⟩ = some F from hg)
  have HST := Lib.hid (rk_start W)
  have HLG := Lib.hid hlg
  have HFP := Lib.hid hfp
  have HRI := Lib.hid hri
  have HCP := Lib.hid hcp
  have HC := Lib.hid hC
  clear hg hlg hfp hri hcp hC
  go_enter Try.func16, Try.ntmps16
  go_wp2
  go_loopw [6] (fun iv wr => ∃ (i : Int) (f : Nat → Nat) (s1 s2 cv : Value) (P : PastL), iv = .int .i64 i ∧ 0 ≤ i ∧ i ≤ (E.length : Int) ∧ P.pr.length ≤ i.toNat ∧ P.ob.length ≤ i.toNat ∧ P.cl.length ≤ i.toNat ∧ Hid (rgo (E.drop i.toNat) i P = some F) ∧ Hid (RkS f W wr s1 s2 cv P)) (fun i _ => E.length - (intOf i).toNat)
  case atStart => exact ⟨0, _, _, _, _, _, rfl, by omega, by omega, Nat.zero_le _, Nat.zero_le _, Nat.zero_le _, HG0.out, HST.out⟩
  case round =>
    obtain ⟨i, f, s1, s2, cv, P, rfl, hi0, hi1, hpl, hol, hcl, HG, HK⟩ := hrel
    clear HST HG0
    by_cases hlt : i < (E.length : Int)
    · obtain ⟨ad, A4, c4, rfl, x0, x1, x2, x3, x4, x5, x6, x7, x8, x9, x10, x11, hl4, hC4⟩ := at_T47 HC.out i hi0 hlt
      have hst := rgo_step E i P F hi0 hlt HG.out
      have hmem := rd_mem47 E i hi0 hlt
      have hri := HRI.out _ hmem
      have hcp := HCP.out _ hmem
      obtain ⟨e, he⟩ : ∃ e, e = rd_T47 E i := ⟨_, rfl⟩
      rw [← he] at x0 x1 x2 x3 x4 x5 x6 x7 x8 x9 x10 x11 hl4 hC4 hst hri hcp
      have HCV := Lib.hid hcp
      have HRG := Lib.hid (fun W1 (h : Below W.heap.size W W1) => hri W1 A4 c4 (Kd.C_below hC4 h))
      unfold c47 at HRG
      have HSP := Lib.hid hst
      have HF4 := Lib.hid (k43_F hC4)
      have HLN := Lib.hid (raddP_len P e i)
      have HX := Lib.hid (show W.cell? (ad.add (i.toNat * 12)) = some (.int .i64 e.f0) ∧ W.cell? ⟨(ad.add (i.toNat * 12)).block, (ad.add (i.toNat * 12)).off + 1, none⟩ = some (.string e.f1) ∧ W.cell? ⟨(ad.add (i.toNat * 12)).block, (ad.add (i.toNat * 12)).off + 2, none⟩ = some (.string e.f2) ∧ W.cell? ⟨(ad.add (i.toNat * 12)).block, (ad.add (i.toNat * 12)).off + 3, none⟩ = some (.string e.f3) ∧ W.cell? ⟨(ad.add (i.toNat * 12)).block, (ad.add (i.toNat * 12)).off + 4, none⟩ = some (.int .i64 e.f4.f0) ∧ W.cell? ⟨(ad.add (i.toNat * 12)).block, (ad.add (i.toNat * 12)).off + 5, none⟩ = some (.int .i64 e.f4.f1) ∧ W.cell? ⟨(ad.add (i.toNat * 12)).block, (ad.add (i.toNat * 12)).off + 6, none⟩ = some (.int .i64 e.f4.f2) ∧ W.cell? ⟨(ad.add (i.toNat * 12)).block, (ad.add (i.toNat * 12)).off + 7, none⟩ = some (.string e.f4.f3) ∧ W.cell? ⟨(ad.add (i.toNat * 12)).block, (ad.add (i.toNat * 12)).off + 8, none⟩ = some (.slice A4 e.f4.f4.length c4) ∧ W.cell? ⟨(ad.add (i.toNat * 12)).block, (ad.add (i.toNat * 12)).off + 9, none⟩ = some (.int .i64 e.f5.f0) ∧ W.cell? ⟨(ad.add (i.toNat * 12)).block, (ad.add (i.toNat * 12)).off + 10, none⟩ = some (.int .i64 e.f5.f1) ∧ W.cell? ⟨(ad.add (i.toNat * 12)).block, (ad.add (i.toNat * 12)).off + 11, none⟩ = some (.int .i64 e.f5.f2) from ⟨x0, x1, x2, x3, x4, x5, x6, x7, x8, x9, x10, x11⟩)
      replace x0 := pw_cell_below HK.out.bl x0
      replace x1 := pw_cell_below HK.out.bl x1
      replace x2 := pw_cell_below HK.out.bl x2
      replace x3 := pw_cell_below HK.out.bl x3
      replace x4 := pw_cell_below HK.out.bl x4
      replace x5 := pw_cell_below HK.out.bl x5
      replace x6 := pw_cell_below HK.out.bl x6
      replace x7 := pw_cell_below HK.out.bl x7
      replace x8 := pw_cell_below HK.out.bl x8
      replace x9 := pw_cell_below HK.out.bl x9
      replace x10 := pw_cell_below HK.out.bl x10
      replace x11 := pw_cell_below HK.out.bl x11
      clear hst hmem hri hcp he hl4 hC4
      go_wp2_with fail
      refine (HRG.out _ HK.out.bl).mono ?_
      rintro r w2 ⟨rfl, hw2⟩
      have HK2 := Lib.hid (HK.out.below hw2)
      obtain ⟨f2, hf2⟩ : ∃ g, g = recol f wr.heap.size 9 := ⟨_, rfl⟩
      rw [← hf2] at HK2
      clear hf2 hw2 HRG x0 x1 x2 x3 x4 x5 x6 x7 x8 x9 x10 x11
      go_upto_region 9 with fail
      refine wp_region_last_drew (ds := [10, 11]) (S := (fun w => w.cell? ⟨W.heap.size + 1, 0, none⟩ = some (s1) ∧ w.cell? ⟨W.heap.size + 1, 1, none⟩ = some (s2) ∧ w.cell? ⟨W.heap.size + 1, 2, none⟩ = some (cv) ∧ w.cell? (ad.add (i.toNat * 12)) = some (.int .i64 e.f0) ∧ w.cell? ⟨(ad.add (i.toNat * 12)).block, (ad.add (i.toNat * 12)).off + 1, none⟩ = some (.string e.f1) ∧ w.cell? ⟨(ad.add (i.toNat * 12)).block, (ad.add (i.toNat * 12)).off + 2, none⟩ = some (.string e.f2) ∧ w.cell? ⟨(ad.add (i.toNat * 12)).block, (ad.add (i.toNat * 12)).off + 3, none⟩ = some (.string e.f3) ∧ w.cell? ⟨(ad.add (i.toNat * 12)).block, (ad.add (i.toNat * 12)).off + 4, none⟩ = some (.int .i64 e.f4.f0) ∧ w.cell? ⟨(ad.add (i.toNat * 12)).block, (ad.add (i.toNat * 12)).off + 5, none⟩ = some (.int .i64 e.f4.f1) ∧ w.cell? ⟨(ad.add (i.toNat * 12)).block, (ad.add (i.toNat * 12)).off + 6, none⟩ = some (.int .i64 e.f4.f2) ∧ w.cell? ⟨(ad.add (i.toNat * 12)).block, (ad.add (i.toNat * 12)).off + 7, none⟩ = some (.string e.f4.f3) ∧ w.cell? ⟨(ad.add (i.toNat * 12)).block, (ad.add (i.toNat * 12)).off + 8, none⟩ = some (.slice A4 e.f4.f4.length c4) ∧ w.cell? ⟨(ad.add (i.toNat * 12)).block, (ad.add (i.toNat * 12)).off + 9, none⟩ = some (.int .i64 e.f5.f0) ∧ w.cell? ⟨(ad.add (i.toNat * 12)).block, (ad.add (i.toNat * 12)).off + 10, none⟩ = some (.int .i64 e.f5.f1) ∧ w.cell? ⟨(ad.add (i.toNat * 12)).block, (ad.add (i.toNat * 12)).off + 11, none⟩ = some (.int .i64 e.f5.f2))) (by kernel_rfl) ?_ (fun hHeld => ?_)
      · exact rk_cells (w := w2.drew) HK2.out.bx (below_drew HK2.out.bl) HX.out
      refine runL 0 (v := ?vu0) rfl (by kernel_rfl) (fun _ _ _ h => h) (by assumption) (by rfl) ?yu0 ?ru0
      case yu0 => (intro w hSw; (try dsimp only at hSw); go_simp; try with_reducible rfl)
      try simp only [Act.put, List.setIfInBounds_toArray, List.set_cons_zero, List.set_cons_succ]
      refine runL 1 (v := ?vu1) rfl (by kernel_rfl) (fun _ _ _ h => h) (by assumption) (by rfl) ?yu1 ?ru1
      case yu1 => (intro w hSw; (try dsimp only at hSw); go_simp; try with_reducible rfl)
      try simp only [Act.put, List.setIfInBounds_toArray, List.set_cons_zero, List.set_cons_succ]
      refine runL 2 (v := ?vu2) rfl (by kernel_rfl) (fun _ _ _ h => h) (by assumption) (by rfl) ?yu2 ?ru2
      case yu2 => (intro w hSw; (try dsimp only at hSw); go_simp; try with_reducible rfl)
      try simp only [Act.put, List.setIfInBounds_toArray, List.set_cons_zero, List.set_cons_succ]
      refine runL 3 (v := ?vu3) rfl (by kernel_rfl) (fun _ _ _ h => h) (by assumption) (by rfl) ?yu3 ?ru3
      case yu3 => (intro w hSw; (try dsimp only at hSw); go_simp; try with_reducible rfl)
      try simp only [Act.put, List.setIfInBounds_toArray, List.set_cons_zero, List.set_cons_succ]
      refine runL 4 (v := ?vu4) rfl (by kernel_rfl) (fun _ _ _ h => h) (by assumption) (by rfl) ?yu4 ?ru4
      case yu4 => (intro w hSw; (try dsimp only at hSw); go_simp; try with_reducible rfl)
      try simp only [Act.put, List.setIfInBounds_toArray, List.set_cons_zero, List.set_cons_succ]
      refine runL 5 (v := ?vu5) rfl (by kernel_rfl) (fun _ _ _ h => h) (by assumption) (by rfl) ?yu5 ?ru5
      case yu5 => (intro w hSw; (try dsimp only at hSw); go_simp; try with_reducible rfl)
      try simp only [Act.put, List.setIfInBounds_toArray, List.set_cons_zero, List.set_cons_succ]
      refine wpAnyLast_ready (rs := [6]) (by kernel_rfl) (by simp) ?_
      refine AllReadyL.cons rfl (by decide) (fun K hK => ?_) AllReadyL.nil
      go_simp
      go_at_call 59; refine (radd_any w2.drew f2 W.heap.size s1 s2 cv P e A4 c4 i HK2.out.drew.rs (fun k hk => HK2.out.lo k (by omega)) (by omega) (by omega) (by omega) HSP.out.1 (Kd.F_below HF4.out (below_drew HK2.out.bl)) HCV.out).mono ?_; rintro r w3 ⟨t1, t2, t3, f3, rfl, hr3, hlt3, hT3⟩; obtain ⟨U1, m1, rfl⟩ := Kd.R_slice hr3.pr; obtain ⟨U2, m2, rfl⟩ := Kd.R_slice hr3.ob; obtain ⟨U3, m3, rfl⟩ := Kd.R_slice hr3.cl; obtain ⟨hk3, hx3, hb3⟩ := HK2.out.drew.add hr3 hlt3 hT3; have HK3 := Lib.hid hk3; have HX3 := Lib.hid hx3; have HB3 := Lib.hid hb3; clear hk3 hx3 hb3 hr3 hlt3 hT3
      go_wp2_with fail
      refine hK.out _ _ ?_ (fun hHeld2 => ?_)
      · exact rk_cells HX3.out HB3.out HX.out
      clear hK K hHeld
      rename _ => hHeld
      try simp only [Act.put, List.setIfInBounds_toArray, List.set_cons_zero, List.set_cons_succ]
      refine runL 7 (v := ?vv7) rfl (by kernel_rfl) (fun _ _ _ h => h) (by assumption) (by rfl) ?yv7 ?rv7
      case yv7 => (intro w hSw; (try dsimp only at hSw); go_simp; try with_reducible rfl)
      try simp only [Act.put, List.setIfInBounds_toArray, List.set_cons_zero, List.set_cons_succ]
      refine runL 8 (v := ?vv8) rfl (by kernel_rfl) (fun _ _ _ h => h) (by assumption) (by rfl) ?yv8 ?rv8
      case yv8 => (intro w hSw; (try dsimp only at hSw); go_simp; try with_reducible rfl)
      try simp only [Act.put, List.setIfInBounds_toArray, List.set_cons_zero, List.set_cons_succ]
      refine runPure 9 (v := ?vp9) rfl (by kernel_rfl) (fun _ _ _ h => h) (by rfl) ?yp9 ?rp9
      case yp9 => (intro w; go_simp; try with_reducible rfl)
      try simp only [Act.put, List.setIfInBounds_toArray, List.set_cons_zero, List.set_cons_succ]
      have q0 : w3.cell? ⟨W.heap.size + 1, 0, none⟩ = some (s1) := (blk_cell HX3.out 0).trans rfl
      have q1 : w3.cell? ⟨W.heap.size + 1, 1, none⟩ = some (s2) := (blk_cell HX3.out 1).trans rfl
      have q2 : w3.cell? ⟨W.heap.size + 1, 2, none⟩ = some (cv) := (blk_cell HX3.out 2).trans rfl
      have fz0 := blk_frozen HX3.out 0
      have fz1 := blk_frozen HX3.out 1
      have fz2 := blk_frozen HX3.out 2
      refine wpAnyLast_ready (rs := [10]) (by kernel_rfl) (by simp) ?_
      refine AllReadyL.cons_last rfl (by decide) (fun K hK => ?_) AllReadyL.nil
      go_simp
      skip
      go_wp2_with fail
      refine hK.out _ _ ?_
      clear hK K
      refine wpAnyLast_ready (rs := [11]) (by kernel_rfl) (by simp) ?_
      refine AllReadyL.cons_last rfl (by decide) (fun K hK => ?_) AllReadyL.nil
      go_simp
      skip
      go_wp2_with fail
      refine hK.out _ _ ?_
      clear hK K hHeld
      try simp only [Act.put, List.setIfInBounds_toArray, List.set_cons_zero, List.set_cons_succ]
      refine wpAnyLast_done (by kernel_rfl) ?_ _
      have hln := HLN.out
      obtain ⟨P', hP'⟩ : ∃ q, q = raddP P e i := ⟨_, rfl⟩
      rw [← hP'] at hln HK3 HSP ⊢
      have HSP2 := Lib.hid HSP.out.2
      clear hP' HSP HLN q0 q1 q2 fz0 fz1 fz2
      go_wp2
      go_roundw
      case rel => exact ⟨i + 1, f3, _, _, _, P', rfl, by omega, by omega, by omega, by omega, by omega, HSP2.out, HK3.out⟩
      case measure => simp [intOf]; omega
    · have hPF : P = F := by
        have h := HG.out
        rw [List.drop_eq_nil_of_le (by omega)] at h
        exact Option.some.inj h
      subst hPF
      have hge : (E.length : Int) ≤ i := by omega
      obtain ⟨A1, n1, hv1, _, _⟩ := Kd.R_reads HK.out.rs.pr
      obtain ⟨A2, n2, hv2, _, _⟩ := Kd.R_reads HK.out.rs.ob
      obtain ⟨A3, n3, hv3, _, _⟩ := Kd.R_reads HK.out.rs.cl
      subst hv1 hv2 hv3
      clear hlt HG
      go_wp2
      go_loopw [9] (fun jv wr => ∃ (j : Int) (f : Nat → Nat), jv = .int .i64 j ∧ 0 ≤ j ∧ j ≤ (E.length : Int) ∧ Hid (RkS f W wr (.slice A1 P.pr.length n1) (.slice A2 P.ob.length n2) (.slice A3 P.cl.length n3) P)) (fun j _ => E.length - (intOf j).toNat)
      case atStart => exact ⟨0, f, rfl, by omega, by omega, HK.out⟩
      case round =>
        clear HK
        obtain ⟨j, f, rfl, hj0, hj1, HK⟩ := hrel
        have hb := HK.out.bx
        have p0 : wr.cell? ⟨W.heap.size + 1, 0, none⟩ = some (.slice A1 P.pr.length n1) := (blk_cell hb 0).trans rfl
        have p1 : wr.cell? ⟨W.heap.size + 1, 1, none⟩ = some (.slice A2 P.ob.length n2) := (blk_cell hb 1).trans rfl
        have p2 : wr.cell? ⟨W.heap.size + 1, 2, none⟩ = some (.slice A3 P.cl.length n3) := (blk_cell hb 2).trans rfl
        by_cases hlt : j < (E.length : Int)
        · have HLA := Lib.hid (large_any wr (.slice A1 P.pr.length n1) (.slice A2 P.ob.length n2) P.cl A3 n3 j (Kd.R_reads' HK.out.rs.cl).2.2 rfl rfl (by omega) HFP.out)
          rw [HLG.out j hj0 hlt] at HLA
          clear hb
          go_wp2_with fail
          refine HLA.out.mono ?_
          rintro r w2 ⟨rfl, hw2⟩
          have HK2 := Lib.hid (HK.out.below hw2)
          clear hw2 HLA
          go_wp2
          go_roundw
          case rel => exact ⟨j + 1, _, rfl, by omega, by omega, HK2.out⟩
          case measure => simp [intOf]; omega
        · have hge2 : (E.length : Int) ≤ j := by omega
          have hr := HK.out.br
          have r0 : wr.cell? ⟨W.heap.size, 0, none⟩ = some (.slice none 0 0) := (blk_cell hr 0).trans rfl
          have r1 : wr.cell? ⟨W.heap.size, 1, none⟩ = some (.slice none 0 0) := (blk_cell hr 1).trans rfl
          have r2 : wr.cell? ⟨W.heap.size, 2, none⟩ = some (.slice none 0 0) := (blk_cell hr 2).trans rfl
          have z0 := blk_frozen hr 0
          have z1 := blk_frozen hr 1
          have z2 := blk_frozen hr 2
          have hww : W.heap.size + 1 < wr.heap.size := blk_lt hb
          clear hlt hb hr
          go_wp2
          obtain ⟨Wf, hWf⟩ : ∃ Wf, Wf = set3w W.heap.size (.slice A1 P.pr.length n1) (.slice A2 P.ob.length n2) (.slice A3 P.cl.length n3) wr := ⟨_, rfl⟩
          change bodyPost _ _ _ _ _ (set3w W.heap.size (.slice A1 P.pr.length n1) (.slice A2 P.ob.length n2) (.slice A3 P.cl.length n3) wr)
          rw [← hWf]
          have hRf : Wf.heap[W.heap.size]? = some (.cells #[.slice A1 P.pr.length n1, .slice A2 P.ob.length n2, .slice A3 P.cl.length n3] 30 (0, 0)) := by rw [hWf]; exact set3w_at _ _ _ HK.out.br
          have t0 : Wf.cell? ⟨W.heap.size, 0, none⟩ = some (.slice A1 P.pr.length n1) := (blk_cell hRf 0).trans rfl
          have t1 : Wf.cell? ⟨W.heap.size, 1, none⟩ = some (.slice A2 P.ob.length n2) := (blk_cell hRf 1).trans rfl
          have t2 : Wf.cell? ⟨W.heap.size, 2, none⟩ = some (.slice A3 P.cl.length n3) := (blk_cell hRf 2).trans rfl
          have h0 : f W.heap.size = 0 := HK.out.lo _ (by omega)
          have hrs : RsF f W.heap.size Wf (.slice A1 P.pr.length n1) (.slice A2 P.ob.length n2) (.slice A3 P.cl.length n3) P := by rw [hWf]; exact ((HK.out.rs.set0 h0 0 _).set0 h0 1 _).set0 h0 2 _
          have hBf : Below W.heap.size W Wf := by rw [hWf]; exact set3w_below HK.out.bl (Nat.le_refl _) _ _ _
          exact bodyPost_ret (v := .tuple #[.agg #[.slice A1 P.pr.length n1, .slice A2 P.ob.length n2, .slice A3 P.cl.length n3], .int .i64 0, .int .i64 0]) (by simp [results, Try.results16, go_sem, t0, t1, t2]) rfl ⟨_, _, _, rfl, Kd.R_mono hrs.pr (fun _ _ => trivial), Kd.R_mono hrs.ob (fun _ _ => trivial), Kd.R_mono hrs.cl (fun _ _ => trivial), hBf⟩
end Go.Proofs.Ytofinglgnkdflaa
end
section
namespace Go.Proofs.Ytofinglgnkdflaa
open Go.RowKit
open Go.Proofs.Ytofinglgnkdflaa.PHistoryChecks Go.Proofs.YtofinglgnkdflaaW.PrintWords Go.Proofs.YtofinglgnkdflaaW.PrintLast Go.Proofs.YtofinglgnkdflaaW.PrintMore
set_option linter.unusedVariables false
set_option linter.unusedSimpArgs false
def nilV (A : Option Addr) (c : Nat) : Value := .agg #[.int .i64 2, .int .i64 0, .int .i64 0, .string ⟨#[]⟩, .slice A 0 c]
set_option maxHeartbeats 2000000 in
theorem counted_nil (W : World) (A : Option Addr) (c : Nat) : Calls Try.prog 81 #[nilV A c, .int .i64 0, .int .i64 1] W (fun e w' => e = .returned (.int .i64 1) ∧ Below W.heap.size W w') := by
  have HX := Lib.hid (heap_alloc_new W (.cells #[.int .i64 2, .int .i64 0, .int .i64 0, .string ⟨#[]⟩, .slice A 0 c] 43))
  have HB := Lib.hid (below_alloc (Below.refl W.heap.size W) (.cells #[.int .i64 2, .int .i64 0, .int .i64 0, .string ⟨#[]⟩, .slice A 0 c] 43))
  unfold nilV
  go_enter Try.func81, Try.ntmps81
  go_wp2
  go_loopw [7, 1] (fun iv nv wr => iv = .int .i64 0 ∧ nv = .int .i64 1 ∧ Hid (wr.heap[W.heap.size]? = some (.cells #[.int .i64 2, .int .i64 0, .int .i64 0, .string ⟨#[]⟩, .slice A 0 c] 43 (0, 0))) ∧ Hid (Below W.heap.size W wr)) (fun _ _ _ => 0)
  case atStart => exact ⟨rfl, rfl, HX.out, HB.out⟩
  case round =>
    obtain ⟨rfl, rfl, HX2, HB2⟩ := hrel
    have c4 : wr.cell? ⟨W.heap.size, 4, none⟩ = some (.slice A 0 c) := (blk_cell HX2.out 4).trans rfl
    go_wp2
    go_ret
    exact ⟨rfl, HB2.out⟩
set_option maxHeartbeats 2000000 in
theorem zero_nil (W : World) (A : Option Addr) (c : Nat) : Calls Try.prog 103 #[nilV A c, .bool true, .bool false, .bool false, .bool false] W (fun e w' => e = .returned (.bool true) ∧ Below W.heap.size W w') := by
  have HB := Lib.hid (below_alloc (Below.refl W.heap.size W) (.cells #[.int .i64 2, .int .i64 0, .int .i64 0, .string ⟨#[]⟩, .slice A 0 c] 43))
  unfold nilV
  go_enter Try.func103, Try.ntmps103
  go_wp2
  go_ret
  exact ⟨rfl, HB.out⟩
set_option maxHeartbeats 2000000 in
theorem form_nil (W : World) (A : Option Addr) (c : Nat) : Calls Try.prog 82 #[nilV A c] W (fun e w' => e = .returned (.bool true) ∧ Below W.heap.size W w') := by
  have HB := Lib.hid (below_alloc (Below.refl W.heap.size W) (.cells #[.int .i64 2, .int .i64 0, .int .i64 0, .string ⟨#[]⟩, .slice A 0 c] 43))
  have HZ := Lib.hid (fun W1 => zero_nil W1 A c)
  unfold nilV at HZ ⊢
  go_enter Try.func82, Try.ntmps82
  go_wp2_with fail
  refine (HZ.out _).mono ?_
  rintro e w1 ⟨rfl, hw1⟩
  have HB1 := Lib.hid (HB.out.trans (hw1.mono HB.out.size))
  clear hw1 HZ
  go_wp2
  go_ret
  exact ⟨rfl, HB1.out⟩
set_option maxHeartbeats 2000000 in
theorem right_nil (W : World) (A : Option Addr) (c : Nat) : Calls Try.prog 53 #[nilV A c] W (fun e w' => e = .returned (.bool true) ∧ Below W.heap.size W w') := by
  have HB := Lib.hid (below_alloc (Below.refl W.heap.size W) (.cells #[.int .i64 2, .int .i64 0, .int .i64 0, .string ⟨#[]⟩, .slice A 0 c] 43))
  have HX := Lib.hid (heap_alloc_new W (.cells #[.int .i64 2, .int .i64 0, .int .i64 0, .string ⟨#[]⟩, .slice A 0 c] 43))
  have HN := Lib.hid (fun W1 => counted_nil W1 A c)
  have HF := Lib.hid (fun W1 => form_nil W1 A c)
  unfold nilV at HN HF ⊢
  go_enter Try.func53, Try.ntmps53
  go_wp2_with fail
  refine (HN.out _).mono ?_
  rintro e w1 ⟨rfl, hw1⟩
  have HB1 := Lib.hid (HB.out.trans (hw1.mono HB.out.size))
  have HX1 := Lib.hid ((hw1.block _ (blk_lt HX.out)).trans HX.out)
  have c0 : w1.cell? ⟨W.heap.size, 0, none⟩ = some (.int .i64 2) := (blk_cell HX1.out 0).trans rfl
  have c1 : w1.cell? ⟨W.heap.size, 1, none⟩ = some (.int .i64 0) := (blk_cell HX1.out 1).trans rfl
  have c2 : w1.cell? ⟨W.heap.size, 2, none⟩ = some (.int .i64 0) := (blk_cell HX1.out 2).trans rfl
  have c3 : w1.cell? ⟨W.heap.size, 3, none⟩ = some (.string ⟨#[]⟩) := (blk_cell HX1.out 3).trans rfl
  have c4 : w1.cell? ⟨W.heap.size, 4, none⟩ = some (.slice A 0 c) := (blk_cell HX1.out 4).trans rfl
  clear hw1 HN
  go_wp2_with fail
  refine (HF.out _).mono ?_
  rintro e w2 ⟨rfl, hw2⟩
  have HB2 := Lib.hid (HB1.out.trans (hw2.mono HB1.out.size))
  clear hw2 HF
  go_wp2
  go_ret
  exact ⟨rfl, HB2.out⟩
set_option maxHeartbeats 2000000 in
set_option maxRecDepth 100000 in
theorem copied_nil (W : World) (A : Option Addr) (c : Nat) : Calls Try.prog 83 #[nilV A c] W (fun e w' => e = .returned (nilV none 0) ∧ Below W.heap.size W w') := by
  have hx := heap_alloc_new W (.cells #[.int .i64 2, .int .i64 0, .int .i64 0, .string ⟨#[]⟩, .slice A 0 c] 43)
  have hz := heap_alloc_new (W.alloc (.cells #[.int .i64 2, .int .i64 0, .int .i64 0, .string ⟨#[]⟩, .slice A 0 c] 43)) (.cells #[.int .i64 0, .int .i64 0, .int .i64 0, .string ⟨#[]⟩, .slice none 0 0] 43)
  rw [alloc_size] at hz
  have HX := Lib.hid (blk_alloc hx (.cells #[.int .i64 0, .int .i64 0, .int .i64 0, .string ⟨#[]⟩, .slice none 0 0] 43))
  have HZ := Lib.hid hz
  have HB := Lib.hid (below_alloc (below_alloc (Below.refl W.heap.size W) (.cells #[.int .i64 2, .int .i64 0, .int .i64 0, .string ⟨#[]⟩, .slice A 0 c] 43)) (.cells #[.int .i64 0, .int .i64 0, .int .i64 0, .string ⟨#[]⟩, .slice none 0 0] 43))
  unfold nilV
  clear hx hz
  go_enter Try.func83, Try.ntmps83
  go_wp2
  go_loopw [4, 3] (fun iv lv wr => iv = .int .i64 0 ∧ lv = .slice none 0 0 ∧ Hid (wr.heap[W.heap.size]? = some (.cells #[.int .i64 2, .int .i64 0, .int .i64 0, .string ⟨#[]⟩, .slice A 0 c] 43 (0, 0))) ∧ Hid (wr.heap[W.heap.size + 1]? = some (.cells #[.int .i64 0, .int .i64 0, .int .i64 0, .string ⟨#[]⟩, .slice none 0 0] 43 (0, 0))) ∧ Hid (Below W.heap.size W wr)) (fun _ _ _ => 0)
  case atStart => exact ⟨rfl, rfl, HX.out, HZ.out, HB.out⟩
  case round =>
    obtain ⟨rfl, rfl, HX2, HZ2, HB2⟩ := hrel
    have hx := HX2.out
    have b0 : wr.cell? ⟨W.heap.size, 0, none⟩ = some (.int .i64 2) := (blk_cell hx 0).trans rfl
    have fb0 := blk_frozen hx 0
    have b1 : wr.cell? ⟨W.heap.size, 1, none⟩ = some (.int .i64 0) := (blk_cell hx 1).trans rfl
    have fb1 := blk_frozen hx 1
    have b2 : wr.cell? ⟨W.heap.size, 2, none⟩ = some (.int .i64 0) := (blk_cell hx 2).trans rfl
    have fb2 := blk_frozen hx 2
    have b3 : wr.cell? ⟨W.heap.size, 3, none⟩ = some (.string ⟨#[]⟩) := (blk_cell hx 3).trans rfl
    have fb3 := blk_frozen hx 3
    have b4 : wr.cell? ⟨W.heap.size, 4, none⟩ = some (.slice A 0 c) := (blk_cell hx 4).trans rfl
    have fb4 := blk_frozen hx 4
    clear hx
    go_upto_region 7 with fail
    obtain ⟨w2, hw2⟩ : ∃ w2, w2 = wr.setCell ⟨W.heap.size, 4, none⟩ (.slice none 0 0) := ⟨_, rfl⟩
    rw [← hw2]
    have hx3 : w2.heap[W.heap.size]? = some (.cells #[.int .i64 2, .int .i64 0, .int .i64 0, .string ⟨#[]⟩, .slice none 0 0] 43 (0, 0)) := by rw [hw2]; exact blk_set HX2.out 4 _
    have hz3 : w2.heap[W.heap.size + 1]? = some (.cells #[.int .i64 0, .int .i64 0, .int .i64 0, .string ⟨#[]⟩, .slice none 0 0] 43 (0, 0)) := by rw [hw2]; exact blk_far HZ2.out (by show W.heap.size + 1 ≠ W.heap.size; omega) _
    have HB3 := Lib.hid (show Below W.heap.size W w2 from by rw [hw2]; exact HB2.out.setCell (p := ⟨W.heap.size, 4, none⟩) (Nat.le_refl _) _)
    have HZ3 := Lib.hid hz3
    clear hw2 b0 fb0 b1 fb1 b2 fb2 b3 fb3 b4 fb4
    have d0 : w2.cell? ⟨W.heap.size, 0, none⟩ = some (.int .i64 2) := (blk_cell hx3 0).trans rfl
    have d1 : w2.cell? ⟨W.heap.size, 1, none⟩ = some (.int .i64 0) := (blk_cell hx3 1).trans rfl
    have d2 : w2.cell? ⟨W.heap.size, 2, none⟩ = some (.int .i64 0) := (blk_cell hx3 2).trans rfl
    have d3 : w2.cell? ⟨W.heap.size, 3, none⟩ = some (.string ⟨#[]⟩) := (blk_cell hx3 3).trans rfl
    have d4 : w2.cell? ⟨W.heap.size, 4, none⟩ = some (.slice none 0 0) := (blk_cell hx3 4).trans rfl
    have z0 : w2.cell? ⟨W.heap.size + 1, 0, none⟩ = some (.int .i64 0) := (blk_cell hz3 0).trans rfl
    have fz0 := blk_frozen hz3 0
    have z1 : w2.cell? ⟨W.heap.size + 1, 1, none⟩ = some (.int .i64 0) := (blk_cell hz3 1).trans rfl
    have fz1 := blk_frozen hz3 1
    have z2 : w2.cell? ⟨W.heap.size + 1, 2, none⟩ = some (.int .i64 0) := (blk_cell hz3 2).trans rfl
    have fz2 := blk_frozen hz3 2
    have z3 : w2.cell? ⟨W.heap.size + 1, 3, none⟩ = some (.string ⟨#[]⟩) := (blk_cell hz3 3).trans rfl
    have fz3 := blk_frozen hz3 3
    have z4 : w2.cell? ⟨W.heap.size + 1, 4, none⟩ = some (.slice none 0 0) := (blk_cell hz3 4).trans rfl
    have fz4 := blk_frozen hz3 4
    clear hx3 hz3
    go_wp2
    obtain ⟨Wf, hWf⟩ : ∃ Wf, Wf = set5w (W.heap.size + 1) 0 (.int .i64 2) (.int .i64 0) (.int .i64 0) (.string ⟨#[]⟩) (.slice none 0 0) w2 := ⟨_, rfl⟩
    change bodyPost _ _ _ _ _ (set5w (W.heap.size + 1) 0 (.int .i64 2) (.int .i64 0) (.int .i64 0) (.string ⟨#[]⟩) (.slice none 0 0) w2)
    rw [← hWf]
    have hRf : Wf.heap[W.heap.size + 1]? = some (.cells #[.int .i64 2, .int .i64 0, .int .i64 0, .string ⟨#[]⟩, .slice none 0 0] 43 (0, 0)) := by rw [hWf]; exact set5w_at _ _ _ _ _ _ _ _ _ _ HZ3.out
    have t0 : Wf.cell? ⟨W.heap.size + 1, 0, none⟩ = some (.int .i64 2) := (blk_cell hRf 0).trans rfl
    have t1 : Wf.cell? ⟨W.heap.size + 1, 1, none⟩ = some (.int .i64 0) := (blk_cell hRf 1).trans rfl
    have t2 : Wf.cell? ⟨W.heap.size + 1, 2, none⟩ = some (.int .i64 0) := (blk_cell hRf 2).trans rfl
    have t3 : Wf.cell? ⟨W.heap.size + 1, 3, none⟩ = some (.string ⟨#[]⟩) := (blk_cell hRf 3).trans rfl
    have t4 : Wf.cell? ⟨W.heap.size + 1, 4, none⟩ = some (.slice none 0 0) := (blk_cell hRf 4).trans rfl
    have hBf : Below W.heap.size W Wf := by rw [hWf]; exact set5w_below HB3.out _ _ (by omega) _ _ _ _ _
    exact bodyPost_ret (v := .agg #[.int .i64 2, .int .i64 0, .int .i64 0, .string ⟨#[]⟩, .slice none 0 0]) (by simp [results, Try.results83, go_sem, t0, t1, t2, t3, t4]) rfl ⟨rfl, hBf⟩
set_option maxHeartbeats 2000000 in
set_option maxRecDepth 100000 in
theorem copy_nil (W : World) (A : Option Addr) (c : Nat) : Calls Try.prog 54 #[nilV A c] W (fun e w' => e = .returned (nilV none 0) ∧ Below W.heap.size W w') := by
  have hx := heap_alloc_new W (.cells #[.int .i64 2, .int .i64 0, .int .i64 0, .string ⟨#[]⟩, .slice A 0 c] 43)
  have hz := heap_alloc_new (W.alloc (.cells #[.int .i64 2, .int .i64 0, .int .i64 0, .string ⟨#[]⟩, .slice A 0 c] 43)) (.cells #[.int .i64 0, .int .i64 0, .int .i64 0, .string ⟨#[]⟩, .slice none 0 0] 43)
  rw [alloc_size] at hz
  have HX := Lib.hid (blk_alloc hx (.cells #[.int .i64 0, .int .i64 0, .int .i64 0, .string ⟨#[]⟩, .slice none 0 0] 43))
  have HZ := Lib.hid hz
  have HB := Lib.hid (below_alloc (below_alloc (Below.refl W.heap.size W) (.cells #[.int .i64 2, .int .i64 0, .int .i64 0, .string ⟨#[]⟩, .slice A 0 c] 43)) (.cells #[.int .i64 0, .int .i64 0, .int .i64 0, .string ⟨#[]⟩, .slice none 0 0] 43))
  have HN := Lib.hid (fun W1 => counted_nil W1 A c)
  have HC := Lib.hid (fun W1 => copied_nil W1 A c)
  unfold nilV at HN HC ⊢
  clear hx hz
  go_enter Try.func54, Try.ntmps54
  go_wp2_with fail
  refine (HN.out _).mono ?_
  rintro e w1 ⟨rfl, hw1⟩
  have HX1 := Lib.hid ((hw1.block _ (blk_lt HX.out)).trans HX.out)
  have HZ1 := Lib.hid ((hw1.block _ (blk_lt HZ.out)).trans HZ.out)
  have HB1 := Lib.hid (HB.out.trans (hw1.mono HB.out.size))
  have hx := HX1.out
  have b0 : w1.cell? ⟨W.heap.size, 0, none⟩ = some (.int .i64 2) := (blk_cell hx 0).trans rfl
  have fb0 := blk_frozen hx 0
  have b1 : w1.cell? ⟨W.heap.size, 1, none⟩ = some (.int .i64 0) := (blk_cell hx 1).trans rfl
  have fb1 := blk_frozen hx 1
  have b2 : w1.cell? ⟨W.heap.size, 2, none⟩ = some (.int .i64 0) := (blk_cell hx 2).trans rfl
  have fb2 := blk_frozen hx 2
  have b3 : w1.cell? ⟨W.heap.size, 3, none⟩ = some (.string ⟨#[]⟩) := (blk_cell hx 3).trans rfl
  have fb3 := blk_frozen hx 3
  have b4 : w1.cell? ⟨W.heap.size, 4, none⟩ = some (.slice A 0 c) := (blk_cell hx 4).trans rfl
  have fb4 := blk_frozen hx 4
  clear hx hw1 HN
  go_wp2_with fail
  refine (HC.out _).mono ?_
  rintro e w2 ⟨rfl, hw2⟩
  have HZ2 := Lib.hid ((hw2.block _ (blk_lt HZ1.out)).trans HZ1.out)
  have HB2 := Lib.hid (HB1.out.trans (hw2.mono HB1.out.size))
  have hz := HZ2.out
  have z0 : w2.cell? ⟨W.heap.size + 1, 0, none⟩ = some (.int .i64 0) := (blk_cell hz 0).trans rfl
  have fz0 := blk_frozen hz 0
  have z1 : w2.cell? ⟨W.heap.size + 1, 1, none⟩ = some (.int .i64 0) := (blk_cell hz 1).trans rfl
  have fz1 := blk_frozen hz 1
  have z2 : w2.cell? ⟨W.heap.size + 1, 2, none⟩ = some (.int .i64 0) := (blk_cell hz 2).trans rfl
  have fz2 := blk_frozen hz 2
  have z3 : w2.cell? ⟨W.heap.size + 1, 3, none⟩ = some (.string ⟨#[]⟩) := (blk_cell hz 3).trans rfl
  have fz3 := blk_frozen hz 3
  have z4 : w2.cell? ⟨W.heap.size + 1, 4, none⟩ = some (.slice none 0 0) := (blk_cell hz 4).trans rfl
  have fz4 := blk_frozen hz 4
  clear hz hw2 HC b0 fb0 b1 fb1 b2 fb2 b3 fb3 b4 fb4
  go_wp2
  obtain ⟨Wf, hWf⟩ : ∃ Wf, Wf = set5w (W.heap.size + 1) 0 (.int .i64 2) (.int .i64 0) (.int .i64 0) (.string ⟨#[]⟩) (.slice none 0 0) w2 := ⟨_, rfl⟩
  change bodyPost _ _ _ _ _ (set5w (W.heap.size + 1) 0 (.int .i64 2) (.int .i64 0) (.int .i64 0) (.string ⟨#[]⟩) (.slice none 0 0) w2)
  rw [← hWf]
  have hRf : Wf.heap[W.heap.size + 1]? = some (.cells #[.int .i64 2, .int .i64 0, .int .i64 0, .string ⟨#[]⟩, .slice none 0 0] 43 (0, 0)) := by rw [hWf]; exact set5w_at _ _ _ _ _ _ _ _ _ _ HZ2.out
  have t0 : Wf.cell? ⟨W.heap.size + 1, 0, none⟩ = some (.int .i64 2) := (blk_cell hRf 0).trans rfl
  have t1 : Wf.cell? ⟨W.heap.size + 1, 1, none⟩ = some (.int .i64 0) := (blk_cell hRf 1).trans rfl
  have t2 : Wf.cell? ⟨W.heap.size + 1, 2, none⟩ = some (.int .i64 0) := (blk_cell hRf 2).trans rfl
  have t3 : Wf.cell? ⟨W.heap.size + 1, 3, none⟩ = some (.string ⟨#[]⟩) := (blk_cell hRf 3).trans rfl
  have t4 : Wf.cell? ⟨W.heap.size + 1, 4, none⟩ = some (.slice none 0 0) := (blk_cell hRf 4).trans rfl
  have hBf : Below W.heap.size W Wf := by rw [hWf]; exact set5w_below HB2.out _ _ (by omega) _ _ _ _ _
  exact bodyPost_ret (v := .agg #[.int .i64 2, .int .i64 0, .int .i64 0, .string ⟨#[]⟩, .slice none 0 0]) (by simp [results, Try.results54, go_sem, t0, t1, t2, t3, t4]) rfl ⟨rfl, hBf⟩
theorem copy_own (W : World) (e : S47) (A : Option Addr) (c : Nat) (he : e.f4 = ⟨2, 0, 0, ⟨#[]⟩, []⟩) : Calls Try.prog 54 #[v43 e.f4 A c] W (OwnP e.f4 W) := by
  rw [he]
  exact (copy_nil W A c).mono fun r w' h => ⟨none, 0, h.1, Kd.R_nil _ _ _ _ _, Nat.le_refl _, h.2⟩
end Go.Proofs.Ytofinglgnkdflaa
end
section
namespace Go.Proofs.Ytofinglgnkdflaa
open Go.RowKit
open Go.Proofs.Ytofinglgnkdflaa.PHistoryChecks Go.Proofs.YtofinglgnkdflaaW.PrintWords Go.Proofs.YtofinglgnkdflaaW.PrintLast Go.Proofs.YtofinglgnkdflaaW.PrintMore
set_option linter.unusedVariables false
set_option linter.unusedSimpArgs false
set_option maxHeartbeats 2000000 in
set_option maxRecDepth 100000 in
theorem one_low (W : World) (s : ByteArray) (n : Int) (hs : 0 < s.size) (hn : ((s[0]'hs).toNat : Int) = n) (h0 : 97 ≤ n) (h1 : n ≤ 122) :
    Calls Try.prog 117 #[.string s, .int .i64 0] W (fun e w' => e = .returned (.agg #[.int .i64 n, .int .i64 0, .int .i64 1]) ∧ Below W.heap.size W w') := by
  have c6 : decide (n < 128) = true := decide_eq_true (by omega)
  have HS := Lib.hid hs
  have HB := Lib.hid (below_alloc (Below.refl W.heap.size W) (.cells #[.int .i64 n, .int .i64 0, .int .i64 1] 153))
  go_enter Try.func117, Try.ntmps117
  go_upto_region 3 with fail
  go_wp2
  obtain ⟨Wf, hWf⟩ : ∃ Wf, Wf = W.alloc (.cells #[.int .i64 n, .int .i64 0, .int .i64 1] 153) := ⟨_, rfl⟩
  have ha := heap_alloc_new W (.cells #[.int .i64 n, .int .i64 0, .int .i64 1] 153)
  have hb := HB.out
  rw [← hWf] at ha hb ⊢
  have t0 : Wf.cell? ⟨W.heap.size, 0, none⟩ = some (.int .i64 n) := (blk_cell ha 0).trans rfl
  have t1 : Wf.cell? ⟨W.heap.size, 1, none⟩ = some (.int .i64 0) := (blk_cell ha 1).trans rfl
  have t2 : Wf.cell? ⟨W.heap.size, 2, none⟩ = some (.int .i64 1) := (blk_cell ha 2).trans rfl
  exact bodyPost_ret (v := .agg #[.int .i64 n, .int .i64 0, .int .i64 1]) (by simp [results, Try.results117, go_sem, t0, t1, t2]) rfl ⟨rfl, hb⟩
set_option maxHeartbeats 2000000 in
set_option maxRecDepth 100000 in
theorem runes_low (W : World) (s : ByteArray) (n : Int) (hs1 : s.size = 1) (hs : 0 < s.size) (hn : ((s[0]'hs).toNat : Int) = n) (h0 : 97 ≤ n) (h1 : n ≤ 122) :
    Calls Try.prog 107 #[.string s] W (fun e w' => ∃ v, e = .returned v ∧ Kd.R k153 153 w' W.heap.size (fun _ => True) v [(⟨n, 0, 1⟩ : S153)] ∧ Below W.heap.size W w') := by
  have HO := Lib.hid (fun W1 => one_low W1 s n hs hn h0 h1)
  have HBW := Lib.hid (Below.refl W.heap.size W)
  have HS := Lib.hid hs1
  clear hs1 hn h0 h1
  go_enter Try.func107, Try.ntmps107
  go_wp2
  go_loopw [3, 4] (fun sv iv wr => ∃ (j : Nat) (L : List S153), (j = 0 ∧ L = [] ∨ j = 1 ∧ L = [⟨n, 0, 1⟩]) ∧ iv = .int .i64 (j : Int) ∧ Hid (Kd.R k153 153 wr W.heap.size (fun _ => True) sv L) ∧ Hid (Below W.heap.size W wr)) (fun _ iv _ => (1 - intOf iv).toNat)
  case atStart => exact ⟨0, [], .inl ⟨rfl, rfl⟩, rfl, Kd.R_nil _ _ _ _ _, HBW.out⟩
  case round =>
    obtain ⟨j, L, hj, rfl, HR, HB⟩ := hrel
    rcases hj with ⟨rfl, rfl⟩ | ⟨rfl, rfl⟩
    · have c9 : decide ((0 : Int) < (s.size : Int)) = true := by rw [HS.out]; decide
      rw [show ((0 : Nat) : Int) = 0 from rfl]
      go_wp2_with fail
      refine (HO.out _).mono ?_
      rintro e w1 ⟨rfl, hw1⟩
      have ha := heap_alloc_new w1 (.cells #[.int .i64 n, .int .i64 0, .int .i64 1] 153)
      have hb1 := hw1.mono HB.out.size
      have hb2 := below_alloc (Below.refl w1.heap.size w1) (.cells #[.int .i64 n, .int .i64 0, .int .i64 1] 153)
      have HBa := Lib.hid ((HB.out.trans hb1).trans (hb2.mono (Nat.le_trans HB.out.size hw1.size)))
      have HRa := Lib.hid (Kd.R_below HR.out (hw1.trans (hb2.mono hw1.size)))
      have hw1r := Kd.R_below (Kd.R_elderB HR.out w1.heap.size hw1.size) (hw1.trans (hb2.mono hw1.size))
      clear hb1 hb2 hw1
      go_upto_region 5 with fail
      obtain ⟨w2, hw2⟩ : ∃ w2, w2 = w1.alloc (.cells #[.int .i64 n, .int .i64 0, .int .i64 1] 153) := ⟨_, rfl⟩
      rw [← hw2] at HBa HRa ha hw1r ⊢
      have d0 : w2.cell? ⟨w1.heap.size, 0, none⟩ = some (.int .i64 n) := (blk_cell ha 0).trans rfl
      have d1 : w2.cell? ⟨w1.heap.size, 1, none⟩ = some (.int .i64 0) := (blk_cell ha 1).trans rfl
      have d2 : w2.cell? ⟨w1.heap.size, 2, none⟩ = some (.int .i64 1) := (blk_cell ha 2).trans rfl
      have HGE := Lib.hid HB.out.size
      have HRR := Lib.hid hw1r
      have HA := Lib.hid ha
      clear hw2 ha
      go_wp2_with (at_builtin; (refine Kd.R_append (w0 := W) k153 W.heap.size rfl _ _ 149 153 _ 24 rfl Try.underlying149 info153 rfl (by decide) (by decide) u3 [] (⟨n, 0, 1⟩ : S153) [.int .i64 n, .int .i64 0, .int .i64 1] (fun k => True ∧ k ≠ w1.heap.size) (fun _ => False) rfl rfl (k153_mkM _ _ _ (⟨n, 0, 1⟩ : S153)) (fun _ h => h.elim) (fun k hk => ⟨trivial, Kd.freshB HA.out k hk⟩) HRR.out HBa.out HBa.out.size (by decide) ?_; intro v1 w8 hR8 hb8 hg8 hat8; have HG8 := Lib.hid hg8; have HR8 := Lib.hid hR8; have HB8 := Lib.hid hb8; clear hR8 hb8 hg8 hat8; have HA8 := Lib.hid (blk_grown (g := w1.heap.size) (o := .cells #[.int .i64 n, .int .i64 0, .int .i64 1] 153 (0, 0)) HA.out HG8.out (Kd.R_away HRR.out (fun _ hk => hk.2))); have d8 : w8.cell? ⟨w1.heap.size, 2, none⟩ = some (.int .i64 1) := (blk_cell HA8.out 2).trans rfl))
      go_roundw
      case rel => exact ⟨1, _, .inr ⟨rfl, rfl⟩, rfl, Kd.R_mono HR8.out (fun _ _ => trivial), HB8.out⟩
      case measure => simp [intOf]
    · have c9 : decide ((1 : Int) < (s.size : Int)) = false := by rw [HS.out]; decide
      rw [show ((1 : Nat) : Int) = 1 from rfl]
      go_wp2
      go_ret
      exact ⟨_, rfl, HR.out, HB.out⟩
set_option maxHeartbeats 2000000 in
set_option maxRecDepth 100000 in
theorem letter_low (W : World) (n : Int) (h0 : 97 ≤ n) (h1 : n ≤ 122) : Calls Try.prog 108 #[.int .i64 n] W (fun e w' => e = .returned (.bool true) ∧ Below W.heap.size W w') := by
  have c5 : decide (97 ≤ n) = true := decide_eq_true h0
  have c8 : decide (n ≤ 122) = true := decide_eq_true h1
  have HB := Lib.hid (Below.refl W.heap.size W)
  go_enter Try.func108, Try.ntmps108
  go_wp2
  go_ret
  exact ⟨rfl, HB.out⟩
set_option maxHeartbeats 2000000 in
set_option maxRecDepth 100000 in
theorem name_low (W : World) (s : ByteArray) (n : Int) (hs1 : s.size = 1) (hs : 0 < s.size) (hn : ((s[0]'hs).toNat : Int) = n) (h0 : 97 ≤ n) (h1 : n ≤ 122) :
    Calls Try.prog 87 #[.string s] W (fun e w' => e = .returned (.bool true) ∧ Below W.heap.size W w') := by
  have HO := Lib.hid (fun W1 => runes_low W1 s n hs1 hs hn h0 h1)
  have HL := Lib.hid (fun W1 => letter_low W1 n h0 h1)
  clear hs1 hn h0 h1 hs
  go_enter Try.func87, Try.ntmps87
  go_wp2_with fail
  refine (HO.out _).mono ?_
  rintro e w1 ⟨v, rfl, hR, hb⟩
  have HB1 := Lib.hid hb
  obtain ⟨A, cap, hv⟩ := Kd.R_slice hR
  have hv' : v = .slice A 1 cap := hv
  subst hv'
  obtain ⟨ad, hA, hx0, hx1, hx2⟩ := at_T153 (Kd.R_reads' hR).2.2 0 (by omega) (by exact Int.zero_lt_one)
  subst hA
  replace hx0 : w1.cell? (ad.add (0 * 3)) = some (.int .i64 n) := hx0
  rw [show 0 * 3 = 0 from rfl, Addr.add_zero'] at hx0
  clear hx1 hx2 hv hb hR
  go_wp2_with fail
  refine (HL.out _).mono ?_
  rintro e w2 ⟨rfl, hw2⟩
  have HB2 := Lib.hid (HB1.out.trans (hw2.mono HB1.out.size))
  clear hw2 HL HO hx0
  go_wp2
  go_loopw [4] (fun iv wr => iv = .int .i64 1 ∧ Hid (Below W.heap.size W wr)) (fun _ _ => 0)
  case atStart => exact ⟨rfl, HB2.out⟩
  case round =>
    obtain ⟨rfl, HB3⟩ := hrel
    go_wp2
    go_ret
    exact ⟨rfl, HB3.out⟩
def val0 : S43 := ⟨2, 0, 0, ⟨#[]⟩, []⟩
def evI (p : ByteArray) : S47 := ⟨1, p, ⟨#[120]⟩, ⟨#[102]⟩, val0, ⟨0, 0, 0⟩⟩
def evR (p : ByteArray) : S47 := ⟨2, p, ⟨#[]⟩, ⟨#[]⟩, val0, ⟨0, 0, 0⟩⟩
def low (p : ByteArray) : Prop := p.size = 1 ∧ ∃ (hs : 0 < p.size) (n : Int), ((p[0]'hs).toNat : Int) = n ∧ 97 ≤ n ∧ n ≤ 122
theorem low_name (W : World) (p : ByteArray) (h : low p) : Calls Try.prog 87 #[.string p] W (fun e w' => e = .returned (.bool true) ∧ Below W.heap.size W w') := by
  obtain ⟨h1, hs, n, hn, h0, h2⟩ := h
  exact name_low W p n h1 hs hn h0 h2
theorem low_p : low ⟨#[112]⟩ := ⟨rfl, by decide, 112, rfl, by decide, by decide⟩
theorem low_q : low ⟨#[113]⟩ := ⟨rfl, by decide, 113, rfl, by decide, by decide⟩
theorem low_x : low ⟨#[120]⟩ := ⟨rfl, by decide, 120, rfl, by decide, by decide⟩
theorem low_f : low ⟨#[102]⟩ := ⟨rfl, by decide, 102, rfl, by decide, by decide⟩
set_option maxHeartbeats 2000000 in
set_option maxRecDepth 100000 in
theorem right_inv (W : World) (p : ByteArray) (hp : low p) (ht : (p.toList == [116, 114, 117, 101]) = false) (hf : (p.toList == [102, 97, 108, 115, 101]) = false) (A : Option Addr) (c : Nat) :
    Calls Try.prog 58 #[.agg (c47 (evI p) A c)] W (fun r w' => r = .returned (.bool true) ∧ Below W.heap.size W w') := by
  have H1 := Lib.hid (fun W1 => low_name W1 p hp)
  have H2 := Lib.hid (fun W1 => right_nil W1 A c)
  have H3 := Lib.hid (fun W1 => low_name W1 _ low_x)
  have H4 := Lib.hid (fun W1 => low_name W1 _ low_f)
  have ht2 : ¬ p.toList = [116, 114, 117, 101] := by simpa using ht
  have hf2 : ¬ p.toList = [102, 97, 108, 115, 101] := by simpa using hf
  unfold nilV at H2
  unfold c47 evI val0
  clear hp
  obtain ⟨W2, hW2⟩ : ∃ W2, W2 = W.alloc (.cells #[.int .i64 1, .string p, .string ⟨#[120]⟩, .string ⟨#[102]⟩, .int .i64 2, .int .i64 0, .int .i64 0, .string ⟨#[]⟩, .slice A 0 c, .int .i64 0, .int .i64 0, .int .i64 0] 47) := ⟨_, rfl⟩
  have hA2 : W2.heap[W.heap.size]? = some (.cells #[.int .i64 1, .string p, .string ⟨#[120]⟩, .string ⟨#[102]⟩, .int .i64 2, .int .i64 0, .int .i64 0, .string ⟨#[]⟩, .slice A 0 c, .int .i64 0, .int .i64 0, .int .i64 0] 47 (0, 0)) := by rw [hW2]; exact heap_alloc_new _ _
  have hb2 : Below W.heap.size W W2 := by rw [hW2]; exact below_alloc (Below.refl _ _) _
  have hsz2 : W.heap.size < W2.heap.size := blk_lt hA2
  have HCell := Lib.hid (fun (w : World) (h : Below W2.heap.size W2 w) (i : Nat) => (blk_cell ((h.block _ hsz2).trans hA2) i))
  have HB2 := Lib.hid (fun (w : World) (h : Below W2.heap.size W2 w) => hb2.trans (h.mono hb2.size))
  go_enter Try.func58, Try.ntmps58
  go_wp2_with fail
  rw [← hW2]
  clear hW2 hA2 hb2 hsz2
  refine (H1.out _).mono ?_
  rintro r w1 ⟨rfl, hw1⟩
  have hb1 : Below W2.heap.size W2 w1 := hw1
  have p1_0 : w1.cell? ⟨W.heap.size, 0, none⟩ = some (.int .i64 1) := HCell.out w1 hb1 0
  have p1_1 : w1.cell? ⟨W.heap.size, 1, none⟩ = some (.string p) := HCell.out w1 hb1 1
  have p1_2 : w1.cell? ⟨W.heap.size, 2, none⟩ = some (.string ⟨#[120]⟩) := HCell.out w1 hb1 2
  have p1_3 : w1.cell? ⟨W.heap.size, 3, none⟩ = some (.string ⟨#[102]⟩) := HCell.out w1 hb1 3
  have p1_4 : w1.cell? ⟨W.heap.size, 4, none⟩ = some (.int .i64 2) := HCell.out w1 hb1 4
  have p1_5 : w1.cell? ⟨W.heap.size, 5, none⟩ = some (.int .i64 0) := HCell.out w1 hb1 5
  have p1_6 : w1.cell? ⟨W.heap.size, 6, none⟩ = some (.int .i64 0) := HCell.out w1 hb1 6
  have p1_7 : w1.cell? ⟨W.heap.size, 7, none⟩ = some (.string ⟨#[]⟩) := HCell.out w1 hb1 7
  have p1_8 : w1.cell? ⟨W.heap.size, 8, none⟩ = some (.slice A 0 c) := HCell.out w1 hb1 8
  have p1_9 : w1.cell? ⟨W.heap.size, 9, none⟩ = some (.int .i64 0) := HCell.out w1 hb1 9
  have p1_10 : w1.cell? ⟨W.heap.size, 10, none⟩ = some (.int .i64 0) := HCell.out w1 hb1 10
  have p1_11 : w1.cell? ⟨W.heap.size, 11, none⟩ = some (.int .i64 0) := HCell.out w1 hb1 11
  have HW1 := Lib.hid hb1
  clear hb1 hw1
  go_wp2_with fail
  refine (H2.out _).mono ?_
  rintro r w2 ⟨rfl, hw2⟩
  have hb2 : Below W2.heap.size W2 w2 := HW1.out.trans (hw2.mono HW1.out.size)
  have p2_0 : w2.cell? ⟨W.heap.size, 0, none⟩ = some (.int .i64 1) := HCell.out w2 hb2 0
  have p2_1 : w2.cell? ⟨W.heap.size, 1, none⟩ = some (.string p) := HCell.out w2 hb2 1
  have p2_2 : w2.cell? ⟨W.heap.size, 2, none⟩ = some (.string ⟨#[120]⟩) := HCell.out w2 hb2 2
  have p2_3 : w2.cell? ⟨W.heap.size, 3, none⟩ = some (.string ⟨#[102]⟩) := HCell.out w2 hb2 3
  have p2_4 : w2.cell? ⟨W.heap.size, 4, none⟩ = some (.int .i64 2) := HCell.out w2 hb2 4
  have p2_5 : w2.cell? ⟨W.heap.size, 5, none⟩ = some (.int .i64 0) := HCell.out w2 hb2 5
  have p2_6 : w2.cell? ⟨W.heap.size, 6, none⟩ = some (.int .i64 0) := HCell.out w2 hb2 6
  have p2_7 : w2.cell? ⟨W.heap.size, 7, none⟩ = some (.string ⟨#[]⟩) := HCell.out w2 hb2 7
  have p2_8 : w2.cell? ⟨W.heap.size, 8, none⟩ = some (.slice A 0 c) := HCell.out w2 hb2 8
  have p2_9 : w2.cell? ⟨W.heap.size, 9, none⟩ = some (.int .i64 0) := HCell.out w2 hb2 9
  have p2_10 : w2.cell? ⟨W.heap.size, 10, none⟩ = some (.int .i64 0) := HCell.out w2 hb2 10
  have p2_11 : w2.cell? ⟨W.heap.size, 11, none⟩ = some (.int .i64 0) := HCell.out w2 hb2 11
  clear p1_0 p1_1 p1_2 p1_3 p1_4 p1_5 p1_6 p1_7 p1_8 p1_9 p1_10 p1_11
  have HW2 := Lib.hid hb2
  clear hb2 hw2
  go_wp2_with fail
  refine (H3.out _).mono ?_
  rintro r w3 ⟨rfl, hw3⟩
  have hb3 : Below W2.heap.size W2 w3 := HW2.out.trans (hw3.mono HW2.out.size)
  have p3_0 : w3.cell? ⟨W.heap.size, 0, none⟩ = some (.int .i64 1) := HCell.out w3 hb3 0
  have p3_1 : w3.cell? ⟨W.heap.size, 1, none⟩ = some (.string p) := HCell.out w3 hb3 1
  have p3_2 : w3.cell? ⟨W.heap.size, 2, none⟩ = some (.string ⟨#[120]⟩) := HCell.out w3 hb3 2
  have p3_3 : w3.cell? ⟨W.heap.size, 3, none⟩ = some (.string ⟨#[102]⟩) := HCell.out w3 hb3 3
  have p3_4 : w3.cell? ⟨W.heap.size, 4, none⟩ = some (.int .i64 2) := HCell.out w3 hb3 4
  have p3_5 : w3.cell? ⟨W.heap.size, 5, none⟩ = some (.int .i64 0) := HCell.out w3 hb3 5
  have p3_6 : w3.cell? ⟨W.heap.size, 6, none⟩ = some (.int .i64 0) := HCell.out w3 hb3 6
  have p3_7 : w3.cell? ⟨W.heap.size, 7, none⟩ = some (.string ⟨#[]⟩) := HCell.out w3 hb3 7
  have p3_8 : w3.cell? ⟨W.heap.size, 8, none⟩ = some (.slice A 0 c) := HCell.out w3 hb3 8
  have p3_9 : w3.cell? ⟨W.heap.size, 9, none⟩ = some (.int .i64 0) := HCell.out w3 hb3 9
  have p3_10 : w3.cell? ⟨W.heap.size, 10, none⟩ = some (.int .i64 0) := HCell.out w3 hb3 10
  have p3_11 : w3.cell? ⟨W.heap.size, 11, none⟩ = some (.int .i64 0) := HCell.out w3 hb3 11
  clear p2_0 p2_1 p2_2 p2_3 p2_4 p2_5 p2_6 p2_7 p2_8 p2_9 p2_10 p2_11
  have HW3 := Lib.hid hb3
  clear hb3 hw3
  go_wp2_with fail
  refine (H4.out _).mono ?_
  rintro r w4 ⟨rfl, hw4⟩
  have hb4 : Below W2.heap.size W2 w4 := HW3.out.trans (hw4.mono HW3.out.size)
  have p4_0 : w4.cell? ⟨W.heap.size, 0, none⟩ = some (.int .i64 1) := HCell.out w4 hb4 0
  have p4_1 : w4.cell? ⟨W.heap.size, 1, none⟩ = some (.string p) := HCell.out w4 hb4 1
  have p4_2 : w4.cell? ⟨W.heap.size, 2, none⟩ = some (.string ⟨#[120]⟩) := HCell.out w4 hb4 2
  have p4_3 : w4.cell? ⟨W.heap.size, 3, none⟩ = some (.string ⟨#[102]⟩) := HCell.out w4 hb4 3
  have p4_4 : w4.cell? ⟨W.heap.size, 4, none⟩ = some (.int .i64 2) := HCell.out w4 hb4 4
  have p4_5 : w4.cell? ⟨W.heap.size, 5, none⟩ = some (.int .i64 0) := HCell.out w4 hb4 5
  have p4_6 : w4.cell? ⟨W.heap.size, 6, none⟩ = some (.int .i64 0) := HCell.out w4 hb4 6
  have p4_7 : w4.cell? ⟨W.heap.size, 7, none⟩ = some (.string ⟨#[]⟩) := HCell.out w4 hb4 7
  have p4_8 : w4.cell? ⟨W.heap.size, 8, none⟩ = some (.slice A 0 c) := HCell.out w4 hb4 8
  have p4_9 : w4.cell? ⟨W.heap.size, 9, none⟩ = some (.int .i64 0) := HCell.out w4 hb4 9
  have p4_10 : w4.cell? ⟨W.heap.size, 10, none⟩ = some (.int .i64 0) := HCell.out w4 hb4 10
  have p4_11 : w4.cell? ⟨W.heap.size, 11, none⟩ = some (.int .i64 0) := HCell.out w4 hb4 11
  clear p3_0 p3_1 p3_2 p3_3 p3_4 p3_5 p3_6 p3_7 p3_8 p3_9 p3_10 p3_11
  have HW4 := Lib.hid hb4
  clear hb4 hw4
  go_wp2
  go_ret
  exact ⟨rfl, HB2.out _ HW4.out⟩
set_option maxHeartbeats 2000000 in
set_option maxRecDepth 100000 in
theorem right_res (W : World) (p : ByteArray) (hp : low p) (ht : (p.toList == [116, 114, 117, 101]) = false) (hf : (p.toList == [102, 97, 108, 115, 101]) = false) (A : Option Addr) (c : Nat) :
    Calls Try.prog 58 #[.agg (c47 (evR p) A c)] W (fun r w' => r = .returned (.bool true) ∧ Below W.heap.size W w') := by
  have H1 := Lib.hid (fun W1 => low_name W1 p hp)
  have H2 := Lib.hid (fun W1 => right_nil W1 A c)
  have H3 := Lib.hid (fun W1 => low_name W1 _ low_x)
  have H4 := Lib.hid (fun W1 => low_name W1 _ low_f)
  have ht2 : ¬ p.toList = [116, 114, 117, 101] := by simpa using ht
  have hf2 : ¬ p.toList = [102, 97, 108, 115, 101] := by simpa using hf
  unfold nilV at H2
  unfold c47 evR val0
  clear hp
  obtain ⟨W2, hW2⟩ : ∃ W2, W2 = W.alloc (.cells #[.int .i64 2, .string p, .string ⟨#[]⟩, .string ⟨#[]⟩, .int .i64 2, .int .i64 0, .int .i64 0, .string ⟨#[]⟩, .slice A 0 c, .int .i64 0, .int .i64 0, .int .i64 0] 47) := ⟨_, rfl⟩
  have hA2 : W2.heap[W.heap.size]? = some (.cells #[.int .i64 2, .string p, .string ⟨#[]⟩, .string ⟨#[]⟩, .int .i64 2, .int .i64 0, .int .i64 0, .string ⟨#[]⟩, .slice A 0 c, .int .i64 0, .int .i64 0, .int .i64 0] 47 (0, 0)) := by rw [hW2]; exact heap_alloc_new _ _
  have hb2 : Below W.heap.size W W2 := by rw [hW2]; exact below_alloc (Below.refl _ _) _
  have hsz2 : W.heap.size < W2.heap.size := blk_lt hA2
  have HCell := Lib.hid (fun (w : World) (h : Below W2.heap.size W2 w) (i : Nat) => (blk_cell ((h.block _ hsz2).trans hA2) i))
  have HB2 := Lib.hid (fun (w : World) (h : Below W2.heap.size W2 w) => hb2.trans (h.mono hb2.size))
  go_enter Try.func58, Try.ntmps58
  go_wp2_with fail
  rw [← hW2]
  clear hW2 hA2 hb2 hsz2
  refine (H1.out _).mono ?_
  rintro r w1 ⟨rfl, hw1⟩
  have hb1 : Below W2.heap.size W2 w1 := hw1
  have p1_0 : w1.cell? ⟨W.heap.size, 0, none⟩ = some (.int .i64 2) := HCell.out w1 hb1 0
  have p1_1 : w1.cell? ⟨W.heap.size, 1, none⟩ = some (.string p) := HCell.out w1 hb1 1
  have p1_2 : w1.cell? ⟨W.heap.size, 2, none⟩ = some (.string ⟨#[]⟩) := HCell.out w1 hb1 2
  have p1_3 : w1.cell? ⟨W.heap.size, 3, none⟩ = some (.string ⟨#[]⟩) := HCell.out w1 hb1 3
  have p1_4 : w1.cell? ⟨W.heap.size, 4, none⟩ = some (.int .i64 2) := HCell.out w1 hb1 4
  have p1_5 : w1.cell? ⟨W.heap.size, 5, none⟩ = some (.int .i64 0) := HCell.out w1 hb1 5
  have p1_6 : w1.cell? ⟨W.heap.size, 6, none⟩ = some (.int .i64 0) := HCell.out w1 hb1 6
  have p1_7 : w1.cell? ⟨W.heap.size, 7, none⟩ = some (.string ⟨#[]⟩) := HCell.out w1 hb1 7
  have p1_8 : w1.cell? ⟨W.heap.size, 8, none⟩ = some (.slice A 0 c) := HCell.out w1 hb1 8
  have p1_9 : w1.cell? ⟨W.heap.size, 9, none⟩ = some (.int .i64 0) := HCell.out w1 hb1 9
  have p1_10 : w1.cell? ⟨W.heap.size, 10, none⟩ = some (.int .i64 0) := HCell.out w1 hb1 10
  have p1_11 : w1.cell? ⟨W.heap.size, 11, none⟩ = some (.int .i64 0) := HCell.out w1 hb1 11
  have HW1 := Lib.hid hb1
  clear hb1 hw1
  go_wp2_with fail
  refine (H2.out _).mono ?_
  rintro r w2 ⟨rfl, hw2⟩
  have hb2 : Below W2.heap.size W2 w2 := HW1.out.trans (hw2.mono HW1.out.size)
  have p2_0 : w2.cell? ⟨W.heap.size, 0, none⟩ = some (.int .i64 2) := HCell.out w2 hb2 0
  have p2_1 : w2.cell? ⟨W.heap.size, 1, none⟩ = some (.string p) := HCell.out w2 hb2 1
  have p2_2 : w2.cell? ⟨W.heap.size, 2, none⟩ = some (.string ⟨#[]⟩) := HCell.out w2 hb2 2
  have p2_3 : w2.cell? ⟨W.heap.size, 3, none⟩ = some (.string ⟨#[]⟩) := HCell.out w2 hb2 3
  have p2_4 : w2.cell? ⟨W.heap.size, 4, none⟩ = some (.int .i64 2) := HCell.out w2 hb2 4
  have p2_5 : w2.cell? ⟨W.heap.size, 5, none⟩ = some (.int .i64 0) := HCell.out w2 hb2 5
  have p2_6 : w2.cell? ⟨W.heap.size, 6, none⟩ = some (.int .i64 0) := HCell.out w2 hb2 6
  have p2_7 : w2.cell? ⟨W.heap.size, 7, none⟩ = some (.string ⟨#[]⟩) := HCell.out w2 hb2 7
  have p2_8 : w2.cell? ⟨W.heap.size, 8, none⟩ = some (.slice A 0 c) := HCell.out w2 hb2 8
  have p2_9 : w2.cell? ⟨W.heap.size, 9, none⟩ = some (.int .i64 0) := HCell.out w2 hb2 9
  have p2_10 : w2.cell? ⟨W.heap.size, 10, none⟩ = some (.int .i64 0) := HCell.out w2 hb2 10
  have p2_11 : w2.cell? ⟨W.heap.size, 11, none⟩ = some (.int .i64 0) := HCell.out w2 hb2 11
  clear p1_0 p1_1 p1_2 p1_3 p1_4 p1_5 p1_6 p1_7 p1_8 p1_9 p1_10 p1_11
  have HW2 := Lib.hid hb2
  clear hb2 hw2
  go_wp2
  go_ret
  exact ⟨rfl, HB2.out _ HW2.out⟩
end Go.Proofs.Ytofinglgnkdflaa
end
section
namespace Go.Proofs.Ytofinglgnkdflaa
open Go.RowKit
open Go.Proofs.Ytofinglgnkdflaa.PHistoryChecks Go.Proofs.YtofinglgnkdflaaW.PrintWords Go.Proofs.YtofinglgnkdflaaW.PrintLast Go.Proofs.YtofinglgnkdflaaW.PrintMore
set_option linter.unusedVariables false
set_option linter.unusedSimpArgs false
end Go.Proofs.Ytofinglgnkdflaa
end
