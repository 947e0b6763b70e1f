/- Opening: a past that came in; the sizes that the reference asks. -/
import Derived.Test.YtofinglgnkdflaaLTp
import Derived.Test.YtofinglgnkdflaaLQj
namespace Go.Proofs.Ytofinglgnkdflaa
open Go.RowKit Go.ChangeShapes Go.WideShapes
open Go.Proofs.Ytofinglgnkdflaa.PHistoryChecks Go.Proofs.YtofinglgnkdflaaW.PrintWords
set_option linter.unusedVariables false
set_option linter.unusedSimpArgs false
theorem okTL2_of (l : List S43) (h : ∀ x ∈ l, okT2 x) : okTL2 l := by
  induction l with
  | nil => trivial
  | cons x l ih => exact ⟨h x (List.mem_cons_self ..), ih fun y hy => h y (List.mem_cons_of_mem _ hy)⟩
mutual
theorem okT2_okT : ∀ v : S43, okT2 v → okT v
  | ⟨_, _, _, t, l⟩, h => ⟨Nat.le_trans h.1 (by decide), okTL2_okTL l h.2⟩
theorem okTL2_okTL : ∀ l : List S43, okTL2 l → okTL l
  | [], _ => trivial
  | x :: l, h => ⟨okT2_okT x h.1, okTL2_okTL l h.2⟩
end
theorem okE2_okE {e : S47} (h : okE2 e) : okE e := ⟨Nat.le_trans h.1 (by decide), Nat.le_trans h.2.1 (by decide), Nat.le_trans h.2.2.1 (by decide), okT2_okT _ h.2.2.2⟩
section
variable {H : Type} {enc : TypeId × Value → H} {w : World} {sp : Nat → Bool} {held : Bool}
theorem trod_v43b2 (k : Nat) : ∀ (fuel : Nat) (cs : List Value) (x : DataW H × List MemPlace), DataW.trod enc Try.prog w 0 sp held fuel 43 cs = some x → Rows.uptoBulk x.1 ≤ k → k ≤ 1000000000 →
    ∃ (v : S43) (A : Option Addr) (c : Nat), cs = [.int .i64 v.f0, .int .i64 v.f1, .int .i64 v.f2, .string v.f3, .slice A v.f4.length c] ∧ v.f4.length ≤ c ∧ Kd.C k43 w A v.f4.length v.f4 ∧ okT2 v ∧ 2 * nd v ≤ Rows.uptoBulk x.1 := by
  induction k with
  | zero => intro fuel cs x h hb; have := bulk_pos x.1; omega
  | succ k ih =>
    intro fuel cs x h hb hk
    obtain ⟨xs, n, _, hx, hl, hlen, hg⟩ := DataW.trod_struct Try.underlying43 h
    rw [cells43] at hl
    obtain ⟨c0, c1, c2, c3, c4, rfl⟩ := list5 hl
    obtain ⟨y0, y1, y2, y3, y4, rfl⟩ := list5 (show xs.length = 5 from hlen)
    have g0 : DataW.trod enc Try.prog w 0 sp held n 40 (List.take (Try.prog.cellsOf 40) [c0, c1, c2, c3, c4]) = some y0 := hg 0 _ rfl
    rw [cells40] at g0
    change DataW.trod enc Try.prog w 0 sp held n 40 [c0] = some y0 at g0
    have g1 : DataW.trod enc Try.prog w 0 sp held n 2 (List.take (Try.prog.cellsOf 2) [c1, c2, c3, c4]) = some y1 := hg 1 _ rfl
    rw [cells2] at g1
    change DataW.trod enc Try.prog w 0 sp held n 2 [c1] = some y1 at g1
    have g2 : DataW.trod enc Try.prog w 0 sp held n 2 (List.take (Try.prog.cellsOf 2) [c2, c3, c4]) = some y2 := hg 2 _ rfl
    rw [cells2] at g2
    change DataW.trod enc Try.prog w 0 sp held n 2 [c2] = some y2 at g2
    have g3 : DataW.trod enc Try.prog w 0 sp held n 9 (List.take (Try.prog.cellsOf 9) [c3, c4]) = some y3 := hg 3 _ rfl
    rw [cells9] at g3
    change DataW.trod enc Try.prog w 0 sp held n 9 [c3] = some y3 at g3
    have g4 : DataW.trod enc Try.prog w 0 sp held n 41 (List.take (Try.prog.cellsOf 41) [c4]) = some y4 := hg 4 _ rfl
    rw [cells41] at g4
    change DataW.trod enc Try.prog w 0 sp held n 41 [c4] = some y4 at g4
    obtain ⟨n0, e0, z0, _⟩ := DataW.trod_int Try.underlying40 g0
    obtain ⟨n1, e1, z1, _⟩ := DataW.trod_int Try.underlying2 g1
    obtain ⟨n2, e2, z2, _⟩ := DataW.trod_int Try.underlying2 g2
    obtain ⟨s, e3, z3, _⟩ := DataW.trod_string Try.underlying9 g3
    simp only [List.cons.injEq, and_true] at e0 e1 e2 e3
    subst e0 e1 e2 e3
    subst hx
    simp only [List.map_cons, List.map_nil, Rows.uptoBulk, Rows.uptoBulkAll] at hb ⊢
    have hs : s.size ≤ 1000000000 := by
      subst z3
      simp only [Rows.uptoBulk, Array.length_toList] at hb
      have : s.data.size = s.size := rfl
      omega
    rcases Go.Deep.open_slice Try.underlying41 g4 with ⟨e4, z4⟩ | ⟨a, len, cap, m, n', D, Pl, e4, _, hlc, hm, hmm, z4, hel⟩
    · cases e4
      refine ⟨⟨n0, n1, n2, s, []⟩, none, 0, rfl, Nat.le_refl _, Kd.C_nil _ _, ⟨hs, trivial⟩, ?_⟩
      have b0 := bulk_pos y0.1; have b1 := bulk_pos y1.1; have b2 := bulk_pos y2.1
      simp only [nd_eq, ndL]; omega
    · cases e4
      have hlm : len ≤ m := by rw [hmm]; split <;> omega
      subst z4
      have hb' : Rows.uptoBulk (DataW.slice (List.map D (List.range len)) (List.map (fun j => D (len + j)) (List.range (m - len)))) ≤ k := by
        have h9 : Rows.uptoBulk (DataW.slice (List.map D (List.range len)) (List.map (fun j => D (len + j)) (List.range (m - len))), MemPlace.row a (m * Try.prog.cellsOf 43) ++ List.flatMap Pl (List.range m)).fst = Rows.uptoBulk (DataW.slice (List.map D (List.range len)) (List.map (fun j => D (len + j)) (List.range (m - len)))) := rfl
        rw [h9] at hb
        have := bulk_pos y0.1
        omega
      obtain ⟨l, hll, hp⟩ := list_of (n := len) (p := fun i v => 2 * nd v ≤ Rows.uptoBulk (D i) ∧ okT2 v ∧ ∃ cs, w.cells? 0 (a.add (i * 5)) 5 = some cs ∧ k43.K w v cs) (fun i hi => by
        obtain ⟨cs', hc, ht⟩ := hel i (by omega)
        rw [cells43] at hc
        have hbi := bulk_slice D (fun j => D (len + j)) len (m - len) i hi
        obtain ⟨v, A, c, rfl, hvc, hC, hok, hnd⟩ := ih _ _ _ ht (by show Rows.uptoBulk (D i) ≤ k; omega) (by omega)
        exact ⟨v, hnd, hok, _, hc, k43_mk w v hvc hC⟩)
      subst hll
      refine ⟨⟨n0, n1, n2, s, l⟩, some a, cap, rfl, hlc, row_of_cells (d := k43) rfl (Nat.le_trans hlc hm) (fun i x hx => (hp i x hx).2.2), ⟨hs, okTL2_of l (fun x hx => ?_)⟩, ?_⟩
      · obtain ⟨i, hi⟩ := List.mem_iff_getElem?.1 hx
        exact (hp i x hi).2.1
      · have := bulk_sum2 l D (fun i x hx => (hp i x hx).1)
        have b0 := bulk_pos y0.1; have b1 := bulk_pos y1.1; have b2 := bulk_pos y2.1
        simp only [nd_eq, Rows.uptoBulk] at hb ⊢
        omega
def okC2 (c : S50) : Prop := c.f2.size ≤ 1000000000 ∧ okT2 c.f3 ∧ okT2 c.f6 ∧ nd c.f3 ≤ 1000000 ∧ nd c.f6 ≤ 1000000
theorem trod_v502 {fuel : Nat} {cs : List Value} {x : DataW H × List MemPlace} (h : DataW.trod enc Try.prog w 0 sp held fuel 50 cs = some x) (hk : Rows.uptoBulk x.1 ≤ 1048576) :
    ∃ e : S50, k50.K w e cs ∧ okC2 e ∧ 8 ≤ Rows.uptoBulk x.1 := by
  obtain ⟨xs, n, _, hx, hl, hlen, hg⟩ := DataW.trod_struct Try.underlying50 h
  rw [cells50] at hl
  obtain ⟨c0, c1, c2, c3, c4, c5, c6, c7, c8, c9, c10, c11, c12, c13, c14, rfl⟩ := list15 hl
  obtain ⟨y0, y1, y2, y3, y4, y5, y6, rfl⟩ := list7 (show xs.length = 7 from hlen)
  have g0 : DataW.trod enc Try.prog w 0 sp held n 3 (List.take (Try.prog.cellsOf 3) [c0, c1, c2, c3, c4, c5, c6, c7, c8, c9, c10, c11, c12, c13, c14]) = some y0 := hg 0 _ rfl
  rw [cells3] at g0
  change DataW.trod enc Try.prog w 0 sp held n 3 [c0] = some y0 at g0
  have g1 : DataW.trod enc Try.prog w 0 sp held n 3 (List.take (Try.prog.cellsOf 3) [c1, c2, c3, c4, c5, c6, c7, c8, c9, c10, c11, c12, c13, c14]) = some y1 := hg 1 _ rfl
  rw [cells3] at g1
  change DataW.trod enc Try.prog w 0 sp held n 3 [c1] = some y1 at g1
  have g2 : DataW.trod enc Try.prog w 0 sp held n 9 (List.take (Try.prog.cellsOf 9) [c2, c3, c4, c5, c6, c7, c8, c9, c10, c11, c12, c13, c14]) = some y2 := hg 2 _ rfl
  rw [cells9] at g2
  change DataW.trod enc Try.prog w 0 sp held n 9 [c2] = some y2 at g2
  have g3 : DataW.trod enc Try.prog w 0 sp held n 43 (List.take (Try.prog.cellsOf 43) [c3, c4, c5, c6, c7, c8, c9, c10, c11, c12, c13, c14]) = some y3 := hg 3 _ rfl
  rw [cells43] at g3
  change DataW.trod enc Try.prog w 0 sp held n 43 [c3, c4, c5, c6, c7] = some y3 at g3
  have g4 : DataW.trod enc Try.prog w 0 sp held n 3 (List.take (Try.prog.cellsOf 3) [c8, c9, c10, c11, c12, c13, c14]) = some y4 := hg 4 _ rfl
  rw [cells3] at g4
  change DataW.trod enc Try.prog w 0 sp held n 3 [c8] = some y4 at g4
  have g5 : DataW.trod enc Try.prog w 0 sp held n 3 (List.take (Try.prog.cellsOf 3) [c9, c10, c11, c12, c13, c14]) = some y5 := hg 5 _ rfl
  rw [cells3] at g5
  change DataW.trod enc Try.prog w 0 sp held n 3 [c9] = some y5 at g5
  have g6 : DataW.trod enc Try.prog w 0 sp held n 43 (List.take (Try.prog.cellsOf 43) [c10, c11, c12, c13, c14]) = some y6 := hg 6 _ rfl
  rw [cells43] at g6
  change DataW.trod enc Try.prog w 0 sp held n 43 [c10, c11, c12, c13, c14] = some y6 at g6
  obtain ⟨n0, e0, z0, _⟩ := DataW.trod_int Try.underlying3 g0
  obtain ⟨n1, e1, z1, _⟩ := DataW.trod_int Try.underlying3 g1
  obtain ⟨s2, e2, z2, _⟩ := DataW.trod_string Try.underlying9 g2
  obtain ⟨n4, e4, z4, _⟩ := DataW.trod_int Try.underlying3 g4
  obtain ⟨n5, e5, z5, _⟩ := DataW.trod_int Try.underlying3 g5
  simp only [List.cons.injEq, and_true] at e0 e1 e2 e4 e5
  subst e0 e1 e2 e4 e5
  subst hx
  simp only [List.map_cons, List.map_nil, Rows.uptoBulk, Rows.uptoBulkAll] at hk ⊢
  obtain ⟨v3, A3, k3, e3, hvc3, hC3, hok3, hnd3⟩ := trod_v43b2 _ _ _ _ g3 (Nat.le_refl _) (by omega)
  obtain ⟨v6, A6, k6, e6, hvc6, hC6, hok6, hnd6⟩ := trod_v43b2 _ _ _ _ g6 (Nat.le_refl _) (by omega)
  cases e3; cases e6
  have b0 := bulk_pos y0.1; have b1 := bulk_pos y1.1; have b2 := bulk_pos y2.1; have b3 := bulk_pos y3.1; have b4 := bulk_pos y4.1; have b5 := bulk_pos y5.1; have b6 := bulk_pos y6.1
  have hs : s2.size ≤ 1000000000 := by
    subst z2
    simp only [Rows.uptoBulk, Array.length_toList] at hk
    have : s2.data.size = s2.size := rfl
    omega
  refine ⟨⟨n0, n1, s2, v3, n4, n5, v6⟩, k50_mk w ⟨n0, n1, s2, v3, n4, n5, v6⟩ hvc3 hC3 hvc6 hC6, ⟨hs, hok3, hok6, ?_, ?_⟩, ?_⟩
  · show nd v3 ≤ 1000000; omega
  · show nd v6 ≤ 1000000; omega
  · omega
theorem trod_strs2 {fuel : Nat} {c : Value} {x : DataW H × List MemPlace} (hf : DataW.trod enc Try.prog w 0 sp held fuel 27 [c] = some x) (hk : Rows.uptoBulk x.1 ≤ 1048576) :
    ∃ (E : List ByteArray) (A : Option Addr) (cap : Nat), c = .slice A E.length cap ∧ E.length ≤ cap ∧ Kd.string.C w A E.length E ∧ (∀ e ∈ E, e.size ≤ 1000000000) := by
  rcases Go.Deep.open_slice Try.underlying27 hf with ⟨e4, z4⟩ | ⟨a, len, cap, m, n', D, Pl, e4, _, hl, hm, hmm, z4, hel⟩
  · cases e4
    exact ⟨[], none, 0, rfl, Nat.le_refl _, Kd.C_nil _ _, fun e he => absurd he (by simp)⟩
  · cases e4
    have hlm : len ≤ m := by rw [hmm]; split <;> omega
    subst z4
    obtain ⟨E, hll, hp⟩ := list_of (n := len) (p := fun i (s : ByteArray) => s.size ≤ 1000000000 ∧ ∃ cs, w.cells? 0 (a.add (i * 1)) 1 = some cs ∧ Kd.string.K w s cs) (fun i hi => by
      obtain ⟨cs', hc, ht⟩ := hel i (by omega)
      rw [cells9] at hc
      have hbi := bulk_slice D (fun j => D (len + j)) len (m - len) i hi
      have hbk : Rows.uptoBulk (D i) ≤ 1048576 := by
        have h9 : Rows.uptoBulk (DataW.slice (List.map D (List.range len)) (List.map (fun j => D (len + j)) (List.range (m - len)))) ≤ 1048576 := hk
        omega
      obtain ⟨s, e, z, _⟩ := DataW.trod_string Try.underlying9 ht
      subst e
      refine ⟨s, ?_, _, hc, rfl⟩
      rw [(Prod.mk.inj z).1] at hbk
      simp only [Rows.uptoBulk, Array.length_toList] at hbk
      have : s.data.size = s.size := rfl
      omega)
    subst hll
    refine ⟨E, some a, cap, rfl, hl, row_of_cells (d := Kd.string) rfl (Nat.le_trans hl hm) (fun i x hx => (hp i x hx).2), fun e he => ?_⟩
    obtain ⟨i, hi⟩ := List.mem_iff_getElem?.1 he
    exact (hp i e hi).1
theorem trod_calls2 {fuel : Nat} {c : Value} {x : DataW H × List MemPlace} (hf : DataW.trod enc Try.prog w 0 sp held fuel 28 [c] = some x) (hk : Rows.uptoBulk x.1 ≤ 1048576) :
    ∃ (E : List S50) (A : Option Addr) (cap : Nat), c = .slice A E.length cap ∧ E.length ≤ cap ∧ Kd.C k50 w A E.length E ∧ (∀ e ∈ E, okC2 e) ∧ 8 * E.length ≤ Rows.uptoBulk x.1 := by
  rcases Go.Deep.open_slice Try.underlying28 hf with ⟨e4, z4⟩ | ⟨a, len, cap, m, n', D, Pl, e4, _, hl, hm, hmm, z4, hel⟩
  · cases e4
    exact ⟨[], none, 0, rfl, Nat.le_refl _, Kd.C_nil _ _, (fun e he => absurd he (by simp)), Nat.zero_le _⟩
  · cases e4
    have hlm : len ≤ m := by rw [hmm]; split <;> omega
    subst z4
    have hk9 : Rows.uptoBulk (DataW.slice (List.map D (List.range len)) (List.map (fun j => D (len + j)) (List.range (m - len)))) ≤ 1048576 := hk
    obtain ⟨E, hll, hp⟩ := list_of (n := len) (p := fun i e => okC2 e ∧ (i < len ∧ 8 ≤ Rows.uptoBulk (D i)) ∧ ∃ cs, w.cells? 0 (a.add (i * 15)) 15 = some cs ∧ k50.K w e cs) (fun i hi => by
      obtain ⟨cs', hc, ht⟩ := hel i (by omega)
      rw [cells50] at hc
      have hbi := bulk_slice D (fun j => D (len + j)) len (m - len) i hi
      obtain ⟨e, hK, hok, h8⟩ := trod_v502 ht (by show Rows.uptoBulk (D i) ≤ _; omega)
      exact ⟨e, hok, ⟨hi, h8⟩, _, hc, hK⟩)
    subst hll
    refine ⟨E, some a, cap, rfl, hl, row_of_cells (d := k50) rfl (Nat.le_trans hl hm) (fun i x hx => (hp i x hx).2.2), fun e he => ?_, ?_⟩
    · obtain ⟨i, hi⟩ := List.mem_iff_getElem?.1 he
      exact (hp i e hi).1
    · show 8 * E.length ≤ Rows.uptoBulk (DataW.slice (List.map D (List.range E.length)) (List.map (fun j => D (E.length + j)) (List.range (m - E.length))))
      simp only [Rows.uptoBulk]
      have := bulk_len2 8 ((List.range E.length).map D) (fun d hd => by
        obtain ⟨i, hi, rfl⟩ := List.mem_map.1 hd
        have hi2 : i < E.length := List.mem_range.1 hi
        exact (hp i _ (List.getElem?_eq_getElem hi2)).2.1.2)
      simp only [List.length_map, List.length_range] at this
      omega
theorem trod_past2 {cs : Array Value} {d : DataW H} {ps : List MemPlace} (h : DataW.Trod enc Try.prog w 0 sp held 30 (.agg cs) d ps) (hk : Rows.uptoBulk d ≤ 1048576) :
    ∃ (P : PastL) (R : Rw3), cs = cP P R ∧ RdP w P R ∧ P.cl.length ≤ 250000 ∧ (∀ e ∈ P.pr, e.size ≤ 1000000000) ∧ (∀ e ∈ P.ob, e.size ≤ 1000000000) ∧ ∀ e ∈ P.cl, okC2 e := by
  obtain ⟨fuel, hf⟩ := h
  obtain ⟨xs, n, _, hx, hl, hlen, hg⟩ := DataW.trod_struct Try.underlying30 hf
  rw [cells30] at hl
  obtain ⟨c0, c1, c2, hcs⟩ := list3 hl
  obtain ⟨y0, y1, y2, rfl⟩ := list3 (show xs.length = 3 from hlen)
  have hcs2 : cs = #[c0, c1, c2] := by
    cases cs with
    | mk l => exact congrArg Array.mk hcs
  subst hcs2
  have g0 : DataW.trod enc Try.prog w 0 sp held n 27 (List.take (Try.prog.cellsOf 27) [c0, c1, c2]) = some y0 := hg 0 _ rfl
  rw [cells27] at g0
  change DataW.trod enc Try.prog w 0 sp held n 27 [c0] = some y0 at g0
  have g1 : DataW.trod enc Try.prog w 0 sp held n 27 (List.take (Try.prog.cellsOf 27) [c1, c2]) = some y1 := hg 1 _ rfl
  rw [cells27] at g1
  change DataW.trod enc Try.prog w 0 sp held n 27 [c1] = some y1 at g1
  have g2 : DataW.trod enc Try.prog w 0 sp held n 28 (List.take (Try.prog.cellsOf 28) [c2]) = some y2 := hg 2 _ rfl
  rw [cells28] at g2
  change DataW.trod enc Try.prog w 0 sp held n 28 [c2] = some y2 at g2
  obtain ⟨rfl, _⟩ := Prod.mk.inj hx
  simp only [List.map_cons, List.map_nil, Rows.uptoBulk, Rows.uptoBulkAll] at hk
  obtain ⟨E0, A0, k0, rfl, hc0, hC0, hs0⟩ := trod_strs2 g0 (by omega)
  obtain ⟨E1, A1, k1, rfl, hc1, hC1, hs1⟩ := trod_strs2 g1 (by omega)
  obtain ⟨E2, A2, k2, rfl, hc2, hC2, hs2, hb2⟩ := trod_calls2 g2 (by omega)
  exact ⟨⟨E0, E1, E2⟩, ⟨A0, k0, A1, k1, A2, k2⟩, rfl, ⟨hC0, hc0, hC1, hc1, hC2, hc2⟩, by show E2.length ≤ _; omega, hs0, hs1, hs2⟩
end
theorem ev_ok2 {P : PastL} (hpr : ∀ e ∈ P.pr, e.size ≤ 1000000000) (hob : ∀ e ∈ P.ob, e.size ≤ 1000000000) (cs : List S50) (hcs : ∀ e ∈ cs, okC2 e) :
    ∀ {xs ys : List S47}, (∀ e ∈ xs, okE2 e ∧ nd e.f4 ≤ 1000000) → evFrom P xs cs = some ys → ∀ e ∈ ys, okE2 e ∧ nd e.f4 ≤ 1000000 := by
  have hrd : ∀ (l : List ByteArray) (i : Int), (∀ e ∈ l, e.size ≤ 1000000000) → (rdB l i).size ≤ 1000000000 := fun l i h => by
    unfold rdB YtofinglgnkdflaaW.PrintWords.rdOf
    rw [List.getD_eq_getElem?_getD]
    rcases hx : l[i.toNat]? with _ | x
    · exact Nat.zero_le _
    · exact h x (List.mem_of_getElem? hx)
  have hput : ∀ (xs : List S47) (a : Int) (e : S47), (∀ e ∈ xs, okE2 e ∧ nd e.f4 ≤ 1000000) → (okE2 e ∧ nd e.f4 ≤ 1000000) → ∀ y ∈ putL xs a e, okE2 y ∧ nd y.f4 ≤ 1000000 := fun xs a e h he y hy => by
    unfold putL at hy
    split at hy
    · rcases List.mem_or_eq_of_mem_set hy with h1 | h1
      · exact h y h1
      · rw [h1]; exact he
    · exact h y hy
  induction cs with
  | nil => intro xs ys h he; cases he; exact h
  | cons c cs ih =>
    intro xs ys h he
    simp only [evFrom] at he
    rcases hs : evStep P xs c with _ | zs
    · rw [hs] at he; cases he
    · rw [hs] at he
      refine ih (fun e he => hcs e (List.mem_cons_of_mem _ he)) (xs := zs) ?_ he
      have hc := hcs c (List.mem_cons_self ..)
      have h1 : okE2 (evCall P c) ∧ nd (evCall P c).f4 ≤ 1000000 := ⟨⟨hrd _ _ hpr, hrd _ _ hob, hc.1, hc.2.1⟩, hc.2.2.2.1⟩
      have h2 : okE2 (evRet P c) ∧ nd (evRet P c).f4 ≤ 1000000 := ⟨⟨hrd _ _ hpr, Nat.zero_le _, Nat.zero_le _, hc.2.2.1⟩, hc.2.2.2.2⟩
      unfold evStep at hs
      split at hs
      · split at hs
        · split at hs
          · split at hs
            · cases hs; exact hput (putL xs c.f4 (evCall P c)) _ _ (hput xs _ _ h h1) h2
            · cases hs
          · cases hs; exact hput xs _ _ h h1
        · cases hs
      · cases hs
theorem past_ev2 {P : PastL} (hpr : ∀ e ∈ P.pr, e.size ≤ 1000000000) (hob : ∀ e ∈ P.ob, e.size ≤ 1000000000) (hcs : ∀ e ∈ P.cl, okC2 e) :
    ∀ xs, eventsL P = some xs → ∀ e ∈ xs, okE2 e ∧ nd e.f4 ≤ 1000000 := fun xs h => by
  unfold eventsL at h
  refine ev_ok2 hpr hob P.cl hcs (fun e he => ?_) h
  rw [List.eq_of_mem_replicate he]
  exact ⟨⟨Nat.zero_le _, Nat.zero_le _, Nat.zero_le _, ⟨Nat.zero_le _, trivial⟩⟩, by decide⟩
end Go.Proofs.Ytofinglgnkdflaa
