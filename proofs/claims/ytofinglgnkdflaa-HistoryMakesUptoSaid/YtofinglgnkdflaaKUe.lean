/- Opening: events that came in; the sizes that the reference asks. -/
import Derived.Test.YtofinglgnkdflaaKQu
namespace Go.Proofs.Ytofinglgnkdflaa
open Go.RowKit Go.ChangeShapes Go.WideShapes
open Go.Proofs.Ytofinglgnkdflaa.PHistoryChecks Go.Proofs.YtofinglgnkdflaaW.PrintWords
set_option linter.unusedVariables false
set_option linter.unusedSimpArgs false
section
variable {H : Type} {enc : TypeId × Value → H} {w : World} {sp : Nat → Bool} {held : Bool}
theorem trod_v472 {fuel : Nat} {cs : List Value} {x : DataW H × List MemPlace} (h : DataW.trod enc Try.prog w 0 sp held fuel 47 cs = some x) (hk : Rows.uptoBulk x.1 ≤ 1000000000) :
    ∃ e : S47, k47.K w e cs ∧ okE2 e ∧ 2 * nd e.f4 ≤ Rows.uptoBulk x.1 ∧ 7 ≤ Rows.uptoBulk x.1 := by
  obtain ⟨xs, n, _, hx, hl, hlen, hg⟩ := DataW.trod_struct Try.underlying47 h
  rw [cells47] at hl
  obtain ⟨c0, c1, c2, c3, c4, c5, c6, c7, c8, c9, c10, c11, rfl⟩ := list12 hl
  obtain ⟨y0, y1, y2, y3, y4, y5, rfl⟩ := list6 (show xs.length = 6 from hlen)
  have g0 : DataW.trod enc Try.prog w 0 sp held n 39 (List.take (Try.prog.cellsOf 39) [c0, c1, c2, c3, c4, c5, c6, c7, c8, c9, c10, c11]) = some y0 := hg 0 _ rfl
  rw [cells39] at g0
  change DataW.trod enc Try.prog w 0 sp held n 39 [c0] = some y0 at g0
  have g1 : DataW.trod enc Try.prog w 0 sp held n 9 (List.take (Try.prog.cellsOf 9) [c1, c2, c3, c4, c5, c6, c7, c8, c9, c10, c11]) = some y1 := hg 1 _ rfl
  rw [cells9] at g1
  change DataW.trod enc Try.prog w 0 sp held n 9 [c1] = some y1 at g1
  have g2 : DataW.trod enc Try.prog w 0 sp held n 9 (List.take (Try.prog.cellsOf 9) [c2, c3, c4, c5, c6, c7, c8, c9, c10, c11]) = some y2 := hg 2 _ rfl
  rw [cells9] at g2
  change DataW.trod enc Try.prog w 0 sp held n 9 [c2] = some y2 at g2
  have g3 : DataW.trod enc Try.prog w 0 sp held n 9 (List.take (Try.prog.cellsOf 9) [c3, c4, c5, c6, c7, c8, c9, c10, c11]) = some y3 := hg 3 _ rfl
  rw [cells9] at g3
  change DataW.trod enc Try.prog w 0 sp held n 9 [c3] = some y3 at g3
  have g4 : DataW.trod enc Try.prog w 0 sp held n 43 (List.take (Try.prog.cellsOf 43) [c4, c5, c6, c7, c8, c9, c10, c11]) = some y4 := hg 4 _ rfl
  rw [cells43] at g4
  change DataW.trod enc Try.prog w 0 sp held n 43 [c4, c5, c6, c7, c8] = some y4 at g4
  have g5 : DataW.trod enc Try.prog w 0 sp held n 45 (List.take (Try.prog.cellsOf 45) [c9, c10, c11]) = some y5 := hg 5 _ rfl
  rw [cells45] at g5
  change DataW.trod enc Try.prog w 0 sp held n 45 [c9, c10, c11] = some y5 at g5
  obtain ⟨n0, e0, z0, _⟩ := DataW.trod_int Try.underlying39 g0
  obtain ⟨s1, e1, z1, _⟩ := DataW.trod_string Try.underlying9 g1
  obtain ⟨s2, e2, z2, _⟩ := DataW.trod_string Try.underlying9 g2
  obtain ⟨s3, e3, z3, _⟩ := DataW.trod_string Try.underlying9 g3
  simp only [List.cons.injEq, and_true] at e0 e1 e2 e3
  subst e0 e1 e2 e3
  subst hx
  simp only [List.map_cons, List.map_nil, Rows.uptoBulk, Rows.uptoBulkAll] at hk ⊢
  obtain ⟨v, A, c, e4, hvc, hC, hok, hnd⟩ := trod_v43b2 _ _ _ _ g4 (Nat.le_refl _) (by omega)
  cases e4
  obtain ⟨xs5, n5, _, hx5, _, hlen5, hg5⟩ := DataW.trod_struct Try.underlying45 g5
  obtain ⟨u0, u1, u2, rfl⟩ := list3 (show xs5.length = 3 from hlen5)
  have q0 : DataW.trod enc Try.prog w 0 sp held n5 3 (List.take (Try.prog.cellsOf 3) [c9, c10, c11]) = some u0 := hg5 0 _ rfl
  rw [cells3] at q0
  change DataW.trod enc Try.prog w 0 sp held n5 3 [c9] = some u0 at q0
  have q1 : DataW.trod enc Try.prog w 0 sp held n5 3 (List.take (Try.prog.cellsOf 3) [c10, c11]) = some u1 := hg5 1 _ rfl
  rw [cells3] at q1
  change DataW.trod enc Try.prog w 0 sp held n5 3 [c10] = some u1 at q1
  have q2 : DataW.trod enc Try.prog w 0 sp held n5 3 (List.take (Try.prog.cellsOf 3) [c11]) = some u2 := hg5 2 _ rfl
  rw [cells3] at q2
  change DataW.trod enc Try.prog w 0 sp held n5 3 [c11] = some u2 at q2
  obtain ⟨p0, r0, _, _⟩ := DataW.trod_int Try.underlying3 q0
  obtain ⟨p1, r1, _, _⟩ := DataW.trod_int Try.underlying3 q1
  obtain ⟨p2, r2, _, _⟩ := DataW.trod_int Try.underlying3 q2
  cases r0; cases r1; cases r2
  have sz : ∀ s : ByteArray, s.data.toList.length = s.size := fun s => by rw [Array.length_toList]; rfl
  subst z1 z2 z3
  simp only [Rows.uptoBulk, sz] at hk
  exact ⟨⟨n0, s1, s2, s3, v, ⟨p0, p1, p2⟩⟩, k47_mk w ⟨n0, s1, s2, s3, v, ⟨p0, p1, p2⟩⟩ hvc hC, ⟨by show s1.size ≤ _; omega, by show s2.size ≤ _; omega, by show s3.size ≤ _; omega, hok⟩, by show 2 * nd v ≤ _; omega, by have := bulk_pos y0.1; have := bulk_pos y4.1; have := bulk_pos y5.1; have := bulk_pos (DataW.lit (Lit.string s1.data.toList) : DataW H); have := bulk_pos (DataW.lit (Lit.string s2.data.toList) : DataW H); have := bulk_pos (DataW.lit (Lit.string s3.data.toList) : DataW H); exact (by omega : ∀ a b c d e f : Nat, 1 ≤ a → 1 ≤ b → 1 ≤ c → 1 ≤ d → 1 ≤ e → 1 ≤ f → 7 ≤ a + (b + (c + (d + (e + (f + 0))))) + 1) _ _ _ _ _ _ (by assumption) (by assumption) (by assumption) (by assumption) (by assumption) (by assumption)⟩
theorem trod_events2 {A : Option Addr} {len cap : Nat} {d : DataW H} {ps : List MemPlace} (h : DataW.Trod enc Try.prog w 0 sp held 25 (.slice A len cap) d ps) (hk : Rows.uptoBulk d ≤ 1000000000) :
    ∃ E : List S47, E.length = len ∧ len ≤ cap ∧ Kd.C k47 w A E.length E ∧ (∀ e ∈ E, okE2 e ∧ 2 * nd e.f4 ≤ Rows.uptoBulk d) ∧ 7 * E.length ≤ Rows.uptoBulk d := by
  obtain ⟨fuel, hf⟩ := h
  rcases Go.Deep.open_slice Try.underlying25 hf with ⟨e4, z4⟩ | ⟨a, len', cap', m, n', D, Pl, e4, _, hl, hm, hmm, z4, hel⟩
  · simp [Value.cells] at e4
    obtain ⟨rfl, rfl, rfl⟩ := e4
    exact ⟨[], rfl, Nat.le_refl _, Kd.C_nil _ _, (fun e he => absurd he (by simp)), Nat.zero_le _⟩
  · simp [Value.cells] at e4
    obtain ⟨rfl, rfl, rfl⟩ := e4
    have hlm : len ≤ m := by rw [hmm]; split <;> omega
    obtain ⟨rfl, _⟩ := Prod.mk.inj z4
    obtain ⟨E, hll, hp⟩ := list_of (n := len) (p := fun i e => okE2 e ∧ 2 * nd e.f4 ≤ Rows.uptoBulk (D i) ∧ (i < len ∧ 7 ≤ Rows.uptoBulk (D i)) ∧ ∃ cs, w.cells? 0 (a.add (i * 12)) 12 = some cs ∧ k47.K w e cs) (fun i hi => by
      obtain ⟨cs', hc, ht⟩ := hel i (by omega)
      rw [cells47] at hc
      have hbi := bulk_slice D (fun j => D (len + j)) len (m - len) i hi
      obtain ⟨e, hK, hok, hnd, h7⟩ := trod_v472 ht (by show Rows.uptoBulk (D i) ≤ _; omega)
      exact ⟨e, hok, hnd, ⟨hi, h7⟩, _, hc, hK⟩)
    subst hll
    refine ⟨E, rfl, hl, row_of_cells (d := k47) rfl (Nat.le_trans hl hm) (fun i x hx => (hp i x hx).2.2.2), fun e he => ?_, ?_⟩
    · obtain ⟨i, hi⟩ := List.mem_iff_getElem?.1 he
      have hbi := bulk_slice D (fun j => D (E.length + j)) E.length (m - E.length) i (hp i e hi).2.2.1.1
      exact ⟨(hp i e hi).1, by have := (hp i e hi).2.1; omega⟩
    · simp only [Rows.uptoBulk]
      have := bulk_len2 7 ((List.range E.length).map D) (fun d hd => by
        obtain ⟨i, hi, rfl⟩ := List.mem_map.1 hd
        have hi2 : i < E.length := List.mem_range.1 hi
        exact (hp i _ (List.getElem?_eq_getElem hi2)).2.2.1.2)
      simp only [List.length_map, List.length_range] at this
      omega
end
end Go.Proofs.Ytofinglgnkdflaa
