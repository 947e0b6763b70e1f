/- Opening: a past that came in; the sizes that the reference asks. -/
import Derived.Test.YtofinglgnkdflaaKTp
import Derived.Test.YtofinglgnkdflaaKQj
namespace Go.Proofs.Ytofinglgnkdflaa
open Go.RowKit Go.ChangeShapes Go.WideShapes
open Go.Proofs.Ytofinglgnkdflaa.PHistoryChecks Go.Proofs.YtofinglgnkdflaaW.PrintWords
set_option linter.unusedVariables false
set_option linter.unusedSimpArgs false
theorem okTL2_of (l : List S43) (h : ∀ x ∈ l, okT2 x) : okTL2 l := by
  induction l with
  | nil => trivial
  | cons x l ih => exact ⟨h x (List.mem_cons_self ..), ih fun y hy => h y (List.mem_cons_of_mem _ hy)⟩
mutual
theorem okT2_okT : ∀ v : S43, okT2 v → okT v
  | ⟨_, _, _, t, l⟩, h => ⟨Nat.le_trans h.1 (by decide), okTL2_okTL l h.2⟩
theorem okTL2_okTL : ∀ l : List S43, okTL2 l → okTL l
  | [], _ => trivial
  | x :: l, h => ⟨okT2_okT x h.1, okTL2_okTL l h.2⟩
end
theorem okE2_okE {e : S47} (h : okE2 e) : okE e := ⟨Nat.le_trans h.1 (by decide), Nat.le_trans h.2.1 (by decide), Nat.le_trans h.2.2.1 (by decide), okT2_okT _ h.2.2.2⟩
section
variable {H : Type} {enc : TypeId × Value → H} {w : World} {sp : Nat → Bool} {held : Bool}
theorem trod_v43b2 (k : Nat) : ∀ (fuel : Nat) (cs : List Value) (x : DataW H × List MemPlace), DataW.trod enc Try.prog w 0 sp held fuel 43 cs = some x → Rows.uptoBulk x.1 ≤ k → k ≤ 1000000000 →
    ∃ (v : S43) (A : Option Addr) (c : Nat), cs = [.int .i64 v.f0, .int .i64 v.f1, .int .i64 v.f2, .string v.f3, .slice A v.f4.length c] ∧ v.f4.length ≤ c ∧ Kd.C k43 w A v.f4.length v.f4 ∧ okT2 v ∧ 2 * nd v ≤ Rows.uptoBulk x.1 := by
  induction k with
  | zero => intro fuel cs x h hb; have := bulk_pos x.1; omega
  | succ k ih =>
    intro fuel cs x h hb hk
    obtain ⟨xs, n, _, hx, hl, hlen, hg⟩ := DataW.trod_struct Try.underlying43 h
    rw [cells43] at hl
    obtain ⟨c0, c1, c2, c3, c4, rfl⟩ := list5 hl
    obtain ⟨y0, y1, y2, y3, y4, rfl⟩ := list5 (show xs.length = 5 from hlen)
    have g0 : DataW.trod enc Try.prog w 0 sp held n 40 (List.take (Try.prog.cellsOf 40) [c0, c1, c2, c3, c4]) = some y0 := hg 0 _ rfl
    rw [cells40] at g0
    change DataW.trod enc Try.prog w 0 sp held n 40 [c0] = some y0 at g0
    have g1 : DataW.trod enc Try.prog w 0 sp held n 2 (List.take (Try.prog.cellsOf 2) [c1, c2, c3, c4]) = some y1 := hg 1 _ rfl
    rw [cells2] at g1
    change DataW.trod enc Try.prog w 0 sp held n 2 [c1] = some y1 at g1
    have g2 : DataW.trod enc Try.prog w 0 sp held n 2 (List.take (Try.prog.cellsOf 2) [c2, c3, c4]) = some y2 := hg 2 _ rfl
    rw [cells2] at g2
    change DataW.trod enc Try.prog w 0 sp held n 2 [c2] = some y2 at g2
    have g3 : DataW.trod enc Try.prog w 0 sp held n 9 (List.take (Try.prog.cellsOf 9) [c3, c4]) = some y3 := hg 3 _ rfl
    rw [cells9] at g3
    change DataW.trod enc Try.prog w 0 sp held n 9 [c3] = some y3 at g3
    have g4 : DataW.trod enc Try.prog w 0 sp held n 41 (List.take (Try.prog.cellsOf 41) [c4]) = some y4 := hg 4 _ rfl
    rw [cells41] at g4
    change DataW.trod enc Try.prog w 0 sp held n 41 [c4] = some y4 at g4
    obtain ⟨n0, e0, z0, _⟩ := DataW.trod_int Try.underlying40 g0
    obtain ⟨n1, e1, z1, _⟩ := DataW.trod_int Try.underlying2 g1
    obtain ⟨n2, e2, z2, _⟩ := DataW.trod_int Try.underlying2 g2
    obtain ⟨s, e3, z3, _⟩ := DataW.trod_string Try.underlying9 g3
    simp only [List.cons.injEq, and_true] at e0 e1 e2 e3
    subst e0 e1 e2 e3
    subst hx
    simp only [List.map_cons, List.map_nil, Rows.uptoBulk, Rows.uptoBulkAll] at hb ⊢
    have hs : s.size ≤ 1000000000 := by
      subst z3
      simp only [Rows.uptoBulk, Array.length_toList] at hb
      have : s.data.size = s.size := rfl
      omega
    rcases Go.Deep.open_slice Try.underlying41 g4 with ⟨e4, z4⟩ | ⟨a, len, cap, m, n', D, Pl, e4, _, hlc, hm, hmm, z4, hel⟩
    · cases e4
      refine ⟨⟨n0, n1, n2, s, []⟩, none, 0, rfl, Nat.le_refl _, Kd.C_nil _ _, ⟨hs, trivial⟩, ?_⟩
      have b0 := bulk_pos y0.1; have b1 := bulk_pos y1.1; have b2 := bulk_pos y2.1
      simp only [nd_eq, ndL]; omega
    · cases e4
      have hlm : len ≤ m := by rw [hmm]; split <;> omega
      subst z4
      have hb' : Rows.uptoBulk (DataW.slice (List.map D (List.range len)) (List.map (fun j => D (len + j)) (List.range (m - len)))) ≤ k := by
        have h9 : Rows.uptoBulk (DataW.slice (List.map D (List.range len)) (List.map (fun j => D (len + j)) (List.range (m - len))), MemPlace.row a (m * Try.prog.cellsOf 43) ++ List.flatMap Pl (List.range m)).fst = Rows.uptoBulk (DataW.slice (List.map D (List.range len)) (List.map (fun j => D (len + j)) (List.range (m - len)))) := rfl
        rw [h9] at hb
        have := bulk_pos y0.1
        omega
      obtain ⟨l, hll, hp⟩ := list_of (n := len) (p := fun i v => 2 * nd v ≤ Rows.uptoBulk (D i) ∧ okT2 v ∧ ∃ cs, w.cells? 0 (a.add (i * 5)) 5 = some cs ∧ k43.K w v cs) (fun i hi => by
        obtain ⟨cs', hc, ht⟩ := hel i (by omega)
        rw [cells43] at hc
        have hbi := bulk_slice D (fun j => D (len + j)) len (m - len) i hi
        obtain ⟨v, A, c, rfl, hvc, hC, hok, hnd⟩ := ih _ _ _ ht (by show Rows.uptoBulk (D i) ≤ k; omega) (by omega)
        exact ⟨v, hnd, hok, _, hc, k43_mk w v hvc hC⟩)
      subst hll
      refine ⟨⟨n0, n1, n2, s, l⟩, some a, cap, rfl, hlc, row_of_cells (d := k43) rfl (Nat.le_trans hlc hm) (fun i x hx => (hp i x hx).2.2), ⟨hs, okTL2_of l (fun x hx => ?_)⟩, ?_⟩
      · obtain ⟨i, hi⟩ := List.mem_iff_getElem?.1 hx
        exact (hp i x hi).2.1
      · have := bulk_sum2 l D (fun i x hx => (hp i x hx).1)
        have b0 := bulk_pos y0.1; have b1 := bulk_pos y1.1; have b2 := bulk_pos y2.1
        simp only [nd_eq, Rows.uptoBulk] at hb ⊢
        omega
end
end Go.Proofs.Ytofinglgnkdflaa
