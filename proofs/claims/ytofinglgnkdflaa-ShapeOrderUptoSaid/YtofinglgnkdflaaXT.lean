/- Opening: whole numbers and values that came in. -/
import Derived.Test.YtofinglgnkdflaaXC
import Derived.Test.YtofinglgnkdflaaRows
import Derived.Deep.Slices
section
namespace Go.Proofs.Ytofinglgnkdflaa
open Go.RowKit Go.ChangeShapes Go.WideShapes
open Go.Proofs.Ytofinglgnkdflaa.PHistoryChecks Go.Proofs.YtofinglgnkdflaaW.PrintWords
set_option linter.unusedVariables false
set_option linter.unusedSimpArgs false

theorem cells43 : Try.prog.cellsOf 43 = 5 := by kernel_rfl
theorem cells45 : Try.prog.cellsOf 45 = 3 := by kernel_rfl
theorem cells47 : Try.prog.cellsOf 47 = 12 := by kernel_rfl
theorem cells41 : Try.prog.cellsOf 41 = 1 := by kernel_rfl
theorem cells40 : Try.prog.cellsOf 40 = 1 := by kernel_rfl
theorem cells39 : Try.prog.cellsOf 39 = 1 := by kernel_rfl
theorem cells9 : Try.prog.cellsOf 9 = 1 := by kernel_rfl
theorem cells2 : Try.prog.cellsOf 2 = 1 := by kernel_rfl
theorem cells3 : Try.prog.cellsOf 3 = 1 := by kernel_rfl
theorem list3 {α : Type} {l : List α} (h : l.length = 3) : ∃ c0 c1 c2, l = [c0, c1, c2] := by
  match l, h with
  | [c0, c1, c2], _ => exact ⟨c0, c1, c2, rfl⟩
theorem list5 {α : Type} {l : List α} (h : l.length = 5) : ∃ c0 c1 c2 c3 c4, l = [c0, c1, c2, c3, c4] := by
  match l, h with
  | [c0, c1, c2, c3, c4], _ => exact ⟨c0, c1, c2, c3, c4, rfl⟩
theorem list6 {α : Type} {l : List α} (h : l.length = 6) : ∃ c0 c1 c2 c3 c4 c5, l = [c0, c1, c2, c3, c4, c5] := by
  match l, h with
  | [c0, c1, c2, c3, c4, c5], _ => exact ⟨c0, c1, c2, c3, c4, c5, rfl⟩
theorem list12 {α : Type} {l : List α} (h : l.length = 12) : ∃ c0 c1 c2 c3 c4 c5 c6 c7 c8 c9 c10 c11, l = [c0, c1, c2, c3, c4, c5, c6, c7, c8, c9, c10, c11] := by
  match l, h with
  | [c0, c1, c2, c3, c4, c5, c6, c7, c8, c9, c10, c11], _ => exact ⟨c0, c1, c2, c3, c4, c5, c6, c7, c8, c9, c10, c11, rfl⟩
theorem list_of {α : Type} {n : Nat} {p : Nat → α → Prop} (h : ∀ i, i < n → ∃ x, p i x) : ∃ l : List α, l.length = n ∧ ∀ i x, l[i]? = some x → p i x := by
  induction n with
  | zero => exact ⟨[], rfl, fun i x hx => by simp at hx⟩
  | succ n ih =>
    obtain ⟨l, hl, hp⟩ := ih (fun i hi => h i (Nat.lt_succ_of_lt hi))
    obtain ⟨y, hy⟩ := h n (Nat.lt_succ_self n)
    refine ⟨l ++ [y], by simp [hl], fun i x hx => ?_⟩
    by_cases hi : i < n
    · rw [List.getElem?_append_left (by omega)] at hx; exact hp i x hx
    · by_cases hi2 : i = n
      · subst hi2
        rw [List.getElem?_append_right (by omega), hl, Nat.sub_self] at hx
        simp at hx; subst hx; exact hy
      · rw [List.getElem?_eq_none (by simp [hl]; omega)] at hx; cases hx
theorem okTL_of (l : List S43) (h : ∀ x ∈ l, okT x) : okTL l := by
  induction l with
  | nil => trivial
  | cons x l ih => exact ⟨h x (List.mem_cons_self ..), ih (fun y hy => h y (List.mem_cons_of_mem _ hy))⟩
section
variable {H : Type} {enc : TypeId × Value → H} {w : World} {sp : Nat → Bool} {held : Bool}
theorem bulk_pos (d : DataW H) : 1 ≤ Rows.uptoBulk d := by
  cases d with
  | lit l => cases l <;> simp [Rows.uptoBulk]
  | _ => simp [Rows.uptoBulk]
theorem bulk_app (l m : List (DataW H)) : Rows.uptoBulkAll (l ++ m) = Rows.uptoBulkAll l + Rows.uptoBulkAll m := by
  induction l with
  | nil => simp [Rows.uptoBulkAll]
  | cons x l ih => simp only [List.cons_append, Rows.uptoBulkAll, ih]; omega
theorem bulk_mem (l : List (DataW H)) (d : DataW H) (h : d ∈ l) : Rows.uptoBulk d ≤ Rows.uptoBulkAll l := by
  induction l with
  | nil => cases h
  | cons x l ih =>
    simp only [Rows.uptoBulkAll]
    rcases List.mem_cons.1 h with rfl | h
    · omega
    · have := ih h; omega
theorem bulk_len (l : List (DataW H)) : l.length ≤ Rows.uptoBulkAll l := by
  induction l with
  | nil => exact Nat.zero_le _
  | cons x l ih => simp only [List.length_cons, Rows.uptoBulkAll]; have := bulk_pos x; omega
theorem bulk_len2 (n : Nat) (l : List (DataW H)) (h : ∀ d ∈ l, n ≤ Rows.uptoBulk d) : n * l.length ≤ Rows.uptoBulkAll l := by
  induction l with
  | nil => exact Nat.zero_le _
  | cons x l ih =>
    have h1 := h x (List.mem_cons_self ..)
    have h2 := ih (fun d hd => h d (List.mem_cons_of_mem _ hd))
    simp only [List.length_cons, Rows.uptoBulkAll, Nat.mul_add, Nat.mul_one]; omega
theorem bulk_sum : ∀ (l : List S43) (D : Nat → DataW H), (∀ i x, l[i]? = some x → nd x ≤ Rows.uptoBulk (D i)) → ndL l ≤ Rows.uptoBulkAll ((List.range l.length).map D)
  | [], _, _ => Nat.zero_le _
  | x :: l, D, h => by
    have h0 := h 0 x rfl
    have h1 := bulk_sum l (fun i => D (i + 1)) (fun i y hy => h (i + 1) y hy)
    rw [List.length_cons, List.range_succ_eq_map, List.map_cons, List.map_map]
    simp only [ndL, Rows.uptoBulkAll]
    have h2 : List.map (D ∘ Nat.succ) (List.range l.length) = (List.range l.length).map (fun i => D (i + 1)) := rfl
    rw [h2]
    omega
theorem bulk_slice (D D' : Nat → DataW H) (n m i : Nat) (h : i < n) : Rows.uptoBulk (D i) + 1 ≤ Rows.uptoBulk (.slice ((List.range n).map D) ((List.range m).map D')) := by
  simp only [Rows.uptoBulk]
  have := bulk_mem ((List.range n).map D) (D i) (List.mem_map.2 ⟨i, List.mem_range.2 h, rfl⟩)
  omega
theorem row_of_cells {α : Type} {d : Kd α} {a : Addr} {l : List α} {len : Nat} (hl : l.length = len) (hm : len ≤ maxLen)
    (h : ∀ i x, l[i]? = some x → ∃ cs, w.cells? 0 (a.add (i * d.sz)) d.sz = some cs ∧ d.K w x cs) : Kd.C d w (some a) l.length l := by
  refine ⟨rfl, by unfold maxLen at hm; omega, fun _ => ⟨a, rfl, fun j p hj => ?_⟩⟩
  obtain ⟨cs, hc, hK⟩ := h j p hj
  obtain ⟨_, hlen, hcell⟩ := World.cells?_some hc
  refine ⟨cs, hlen, hK, fun i u hu => ?_⟩
  have hi : i < d.sz := by rw [← hlen]; exact (List.getElem?_eq_some_iff.1 hu).1
  have := hcell i hi
  rw [Go.Deep.add_add] at this
  exact this.trans hu
theorem trod_v43 (k : Nat) : ∀ (fuel : Nat) (cs : List Value) (x : DataW H × List MemPlace), DataW.trod enc Try.prog w 0 sp held fuel 43 cs = some x → Rows.uptoBulk x.1 ≤ k → k ≤ 140737488351232 →
    ∃ (v : S43) (A : Option Addr) (c : Nat), cs = [.int .i64 v.f0, .int .i64 v.f1, .int .i64 v.f2, .string v.f3, .slice A v.f4.length c] ∧ v.f4.length ≤ c ∧ Kd.C k43 w A v.f4.length v.f4 ∧ okT v ∧ nd v ≤ Rows.uptoBulk x.1 := by
  induction k with
  | zero => intro fuel cs x h hb; have := bulk_pos x.1; omega
  | succ k ih =>
    intro fuel cs x h hb hk
    obtain ⟨xs, n, _, hx, hl, hlen, hg⟩ := DataW.trod_struct Try.underlying43 h
    rw [cells43] at hl
    obtain ⟨c0, c1, c2, c3, c4, rfl⟩ := list5 hl
    obtain ⟨y0, y1, y2, y3, y4, rfl⟩ := list5 (show xs.length = 5 from hlen)
    have g0 : DataW.trod enc Try.prog w 0 sp held n 40 (List.take (Try.prog.cellsOf 40) [c0, c1, c2, c3, c4]) = some y0 := hg 0 _ rfl
    rw [cells40] at g0
    change DataW.trod enc Try.prog w 0 sp held n 40 [c0] = some y0 at g0
    have g1 : DataW.trod enc Try.prog w 0 sp held n 2 (List.take (Try.prog.cellsOf 2) [c1, c2, c3, c4]) = some y1 := hg 1 _ rfl
    rw [cells2] at g1
    change DataW.trod enc Try.prog w 0 sp held n 2 [c1] = some y1 at g1
    have g2 : DataW.trod enc Try.prog w 0 sp held n 2 (List.take (Try.prog.cellsOf 2) [c2, c3, c4]) = some y2 := hg 2 _ rfl
    rw [cells2] at g2
    change DataW.trod enc Try.prog w 0 sp held n 2 [c2] = some y2 at g2
    have g3 : DataW.trod enc Try.prog w 0 sp held n 9 (List.take (Try.prog.cellsOf 9) [c3, c4]) = some y3 := hg 3 _ rfl
    rw [cells9] at g3
    change DataW.trod enc Try.prog w 0 sp held n 9 [c3] = some y3 at g3
    have g4 : DataW.trod enc Try.prog w 0 sp held n 41 (List.take (Try.prog.cellsOf 41) [c4]) = some y4 := hg 4 _ rfl
    rw [cells41] at g4
    change DataW.trod enc Try.prog w 0 sp held n 41 [c4] = some y4 at g4
    obtain ⟨n0, e0, z0, _⟩ := DataW.trod_int Try.underlying40 g0
    obtain ⟨n1, e1, z1, _⟩ := DataW.trod_int Try.underlying2 g1
    obtain ⟨n2, e2, z2, _⟩ := DataW.trod_int Try.underlying2 g2
    obtain ⟨s, e3, z3, _⟩ := DataW.trod_string Try.underlying9 g3
    simp only [List.cons.injEq, and_true] at e0 e1 e2 e3
    subst e0 e1 e2 e3
    subst hx
    simp only [List.map_cons, List.map_nil, Rows.uptoBulk, Rows.uptoBulkAll] at hb ⊢
    have hs : s.size ≤ 140737488351232 := by
      subst z3
      simp only [Rows.uptoBulk, Array.length_toList] at hb
      have : s.data.size = s.size := rfl
      omega
    rcases Go.Deep.open_slice Try.underlying41 g4 with ⟨e4, z4⟩ | ⟨a, len, cap, m, n', D, Pl, e4, _, hlc, hm, hmm, z4, hel⟩
    · cases e4
      refine ⟨⟨n0, n1, n2, s, []⟩, none, 0, rfl, Nat.le_refl _, Kd.C_nil _ _, ⟨hs, trivial⟩, ?_⟩
      simp only [nd_eq, ndL]; omega
    · cases e4
      have hlm : len ≤ m := by rw [hmm]; split <;> omega
      subst z4
      have hb' : Rows.uptoBulk (DataW.slice (List.map D (List.range len)) (List.map (fun j => D (len + j)) (List.range (m - len)))) ≤ k := by
        have h9 : Rows.uptoBulk (DataW.slice (List.map D (List.range len)) (List.map (fun j => D (len + j)) (List.range (m - len))), MemPlace.row a (m * Try.prog.cellsOf 43) ++ List.flatMap Pl (List.range m)).fst = Rows.uptoBulk (DataW.slice (List.map D (List.range len)) (List.map (fun j => D (len + j)) (List.range (m - len)))) := rfl
        rw [h9] at hb
        have := bulk_pos y0.1
        omega
      obtain ⟨l, hll, hp⟩ := list_of (n := len) (p := fun i v => nd v ≤ Rows.uptoBulk (D i) ∧ okT v ∧ ∃ cs, w.cells? 0 (a.add (i * 5)) 5 = some cs ∧ k43.K w v cs) (fun i hi => by
        obtain ⟨cs', hc, ht⟩ := hel i (by omega)
        rw [cells43] at hc
        have hbi := bulk_slice D (fun j => D (len + j)) len (m - len) i hi
        obtain ⟨v, A, c, rfl, hvc, hC, hok, hnd⟩ := ih _ _ _ ht (by show Rows.uptoBulk (D i) ≤ k; omega) (by omega)
        exact ⟨v, hnd, hok, _, hc, k43_mk w v hvc hC⟩)
      subst hll
      refine ⟨⟨n0, n1, n2, s, l⟩, some a, cap, rfl, hlc, row_of_cells (d := k43) rfl (Nat.le_trans hlc hm) (fun i x hx => (hp i x hx).2.2), ⟨hs, okTL_of l (fun x hx => ?_)⟩, ?_⟩
      · obtain ⟨i, hi⟩ := List.mem_iff_getElem?.1 hx
        exact (hp i x hi).2.1
      · have := bulk_sum l D (fun i x hx => (hp i x hx).1)
        simp only [nd_eq, Rows.uptoBulk] at hb ⊢
        omega
theorem trod_v47 {fuel : Nat} {cs : List Value} {x : DataW H × List MemPlace} (h : DataW.trod enc Try.prog w 0 sp held fuel 47 cs = some x) (hk : Rows.uptoBulk x.1 ≤ 140737488351232) :
    ∃ e : S47, k47.K w e cs ∧ okE e ∧ nd e.f4 ≤ Rows.uptoBulk x.1 ∧ 7 ≤ Rows.uptoBulk x.1 := by
  obtain ⟨xs, n, _, hx, hl, hlen, hg⟩ := DataW.trod_struct Try.underlying47 h
  rw [cells47] at hl
  obtain ⟨c0, c1, c2, c3, c4, c5, c6, c7, c8, c9, c10, c11, rfl⟩ := list12 hl
  obtain ⟨y0, y1, y2, y3, y4, y5, rfl⟩ := list6 (show xs.length = 6 from hlen)
  have g0 : DataW.trod enc Try.prog w 0 sp held n 39 (List.take (Try.prog.cellsOf 39) [c0, c1, c2, c3, c4, c5, c6, c7, c8, c9, c10, c11]) = some y0 := hg 0 _ rfl
  rw [cells39] at g0
  change DataW.trod enc Try.prog w 0 sp held n 39 [c0] = some y0 at g0
  have g1 : DataW.trod enc Try.prog w 0 sp held n 9 (List.take (Try.prog.cellsOf 9) [c1, c2, c3, c4, c5, c6, c7, c8, c9, c10, c11]) = some y1 := hg 1 _ rfl
  rw [cells9] at g1
  change DataW.trod enc Try.prog w 0 sp held n 9 [c1] = some y1 at g1
  have g2 : DataW.trod enc Try.prog w 0 sp held n 9 (List.take (Try.prog.cellsOf 9) [c2, c3, c4, c5, c6, c7, c8, c9, c10, c11]) = some y2 := hg 2 _ rfl
  rw [cells9] at g2
  change DataW.trod enc Try.prog w 0 sp held n 9 [c2] = some y2 at g2
  have g3 : DataW.trod enc Try.prog w 0 sp held n 9 (List.take (Try.prog.cellsOf 9) [c3, c4, c5, c6, c7, c8, c9, c10, c11]) = some y3 := hg 3 _ rfl
  rw [cells9] at g3
  change DataW.trod enc Try.prog w 0 sp held n 9 [c3] = some y3 at g3
  have g4 : DataW.trod enc Try.prog w 0 sp held n 43 (List.take (Try.prog.cellsOf 43) [c4, c5, c6, c7, c8, c9, c10, c11]) = some y4 := hg 4 _ rfl
  rw [cells43] at g4
  change DataW.trod enc Try.prog w 0 sp held n 43 [c4, c5, c6, c7, c8] = some y4 at g4
  have g5 : DataW.trod enc Try.prog w 0 sp held n 45 (List.take (Try.prog.cellsOf 45) [c9, c10, c11]) = some y5 := hg 5 _ rfl
  rw [cells45] at g5
  change DataW.trod enc Try.prog w 0 sp held n 45 [c9, c10, c11] = some y5 at g5
  obtain ⟨n0, e0, z0, _⟩ := DataW.trod_int Try.underlying39 g0
  obtain ⟨s1, e1, z1, _⟩ := DataW.trod_string Try.underlying9 g1
  obtain ⟨s2, e2, z2, _⟩ := DataW.trod_string Try.underlying9 g2
  obtain ⟨s3, e3, z3, _⟩ := DataW.trod_string Try.underlying9 g3
  simp only [List.cons.injEq, and_true] at e0 e1 e2 e3
  subst e0 e1 e2 e3
  subst hx
  simp only [List.map_cons, List.map_nil, Rows.uptoBulk, Rows.uptoBulkAll] at hk ⊢
  obtain ⟨v, A, c, e4, hvc, hC, hok, hnd⟩ := trod_v43 _ _ _ _ g4 (Nat.le_refl _) (by omega)
  cases e4
  obtain ⟨xs5, n5, _, hx5, _, hlen5, hg5⟩ := DataW.trod_struct Try.underlying45 g5
  obtain ⟨u0, u1, u2, rfl⟩ := list3 (show xs5.length = 3 from hlen5)
  have q0 : DataW.trod enc Try.prog w 0 sp held n5 3 (List.take (Try.prog.cellsOf 3) [c9, c10, c11]) = some u0 := hg5 0 _ rfl
  rw [cells3] at q0
  change DataW.trod enc Try.prog w 0 sp held n5 3 [c9] = some u0 at q0
  have q1 : DataW.trod enc Try.prog w 0 sp held n5 3 (List.take (Try.prog.cellsOf 3) [c10, c11]) = some u1 := hg5 1 _ rfl
  rw [cells3] at q1
  change DataW.trod enc Try.prog w 0 sp held n5 3 [c10] = some u1 at q1
  have q2 : DataW.trod enc Try.prog w 0 sp held n5 3 (List.take (Try.prog.cellsOf 3) [c11]) = some u2 := hg5 2 _ rfl
  rw [cells3] at q2
  change DataW.trod enc Try.prog w 0 sp held n5 3 [c11] = some u2 at q2
  obtain ⟨p0, r0, _, _⟩ := DataW.trod_int Try.underlying3 q0
  obtain ⟨p1, r1, _, _⟩ := DataW.trod_int Try.underlying3 q1
  obtain ⟨p2, r2, _, _⟩ := DataW.trod_int Try.underlying3 q2
  cases r0; cases r1; cases r2
  have sz : ∀ s : ByteArray, s.data.toList.length = s.size := fun s => by rw [Array.length_toList]; rfl
  subst z1 z2 z3
  simp only [Rows.uptoBulk, sz] at hk
  exact ⟨⟨n0, s1, s2, s3, v, ⟨p0, p1, p2⟩⟩, k47_mk w ⟨n0, s1, s2, s3, v, ⟨p0, p1, p2⟩⟩ hvc hC, ⟨by show s1.size ≤ _; omega, by show s2.size ≤ _; omega, by show s3.size ≤ _; omega, hok⟩, by show nd v ≤ _; omega, by have := bulk_pos y0.1; have := bulk_pos y4.1; have := bulk_pos y5.1; have := bulk_pos (DataW.lit (Lit.string s1.data.toList) : DataW H); have := bulk_pos (DataW.lit (Lit.string s2.data.toList) : DataW H); have := bulk_pos (DataW.lit (Lit.string s3.data.toList) : DataW H); exact (by omega : ∀ a b c d e f : Nat, 1 ≤ a → 1 ≤ b → 1 ≤ c → 1 ≤ d → 1 ≤ e → 1 ≤ f → 7 ≤ a + (b + (c + (d + (e + (f + 0))))) + 1) _ _ _ _ _ _ (by assumption) (by assumption) (by assumption) (by assumption) (by assumption) (by assumption)⟩
/-- Events that came in. -/
theorem trod_events {A : Option Addr} {len cap : Nat} {d : DataW H} {ps : List MemPlace} (h : DataW.Trod enc Try.prog w 0 sp held 25 (.slice A len cap) d ps) (hk : Rows.uptoBulk d ≤ 140737488351232) :
    ∃ E : List S47, E.length = len ∧ len ≤ cap ∧ Kd.C k47 w A E.length E ∧ (∀ e ∈ E, okE e ∧ nd e.f4 ≤ Rows.uptoBulk d) ∧ 7 * E.length ≤ Rows.uptoBulk d := by
  obtain ⟨fuel, hf⟩ := h
  rcases Go.Deep.open_slice Try.underlying25 hf with ⟨e4, z4⟩ | ⟨a, len', cap', m, n', D, Pl, e4, _, hl, hm, hmm, z4, hel⟩
  · simp [Value.cells] at e4
    obtain ⟨rfl, rfl, rfl⟩ := e4
    exact ⟨[], rfl, Nat.le_refl _, Kd.C_nil _ _, (fun e he => absurd he (by simp)), Nat.zero_le _⟩
  · simp [Value.cells] at e4
    obtain ⟨rfl, rfl, rfl⟩ := e4
    have hlm : len ≤ m := by rw [hmm]; split <;> omega
    obtain ⟨rfl, _⟩ := Prod.mk.inj z4
    obtain ⟨E, hll, hp⟩ := list_of (n := len) (p := fun i e => okE e ∧ nd e.f4 ≤ Rows.uptoBulk (D i) ∧ (i < len ∧ 7 ≤ Rows.uptoBulk (D i)) ∧ ∃ cs, w.cells? 0 (a.add (i * 12)) 12 = some cs ∧ k47.K w e cs) (fun i hi => by
      obtain ⟨cs', hc, ht⟩ := hel i (by omega)
      rw [cells47] at hc
      have hbi := bulk_slice D (fun j => D (len + j)) len (m - len) i hi
      obtain ⟨e, hK, hok, hnd, h7⟩ := trod_v47 ht (by show Rows.uptoBulk (D i) ≤ _; omega)
      exact ⟨e, hok, hnd, ⟨hi, h7⟩, _, hc, hK⟩)
    subst hll
    refine ⟨E, rfl, hl, row_of_cells (d := k47) rfl (Nat.le_trans hl hm) (fun i x hx => (hp i x hx).2.2.2), fun e he => ?_, ?_⟩
    · obtain ⟨i, hi⟩ := List.mem_iff_getElem?.1 he
      have hbi := bulk_slice D (fun j => D (E.length + j)) E.length (m - E.length) i (hp i e hi).2.2.1.1
      exact ⟨(hp i e hi).1, by have := (hp i e hi).2.1; omega⟩
    · simp only [Rows.uptoBulk]
      have := bulk_len2 7 ((List.range E.length).map D) (fun d hd => by
        obtain ⟨i, hi, rfl⟩ := List.mem_map.1 hd
        have hi2 : i < E.length := List.mem_range.1 hi
        exact (hp i _ (List.getElem?_eq_getElem hi2)).2.2.1.2)
      simp only [List.length_map, List.length_range] at this
      omega
end
end Go.Proofs.Ytofinglgnkdflaa
end

section
namespace Go.Proofs.Ytofinglgnkdflaa
open Go.RowKit Go.ChangeShapes Go.WideShapes
open Go.Proofs.Ytofinglgnkdflaa.PHistoryChecks Go.Proofs.YtofinglgnkdflaaW.PrintWords
set_option linter.unusedVariables false
set_option linter.unusedSimpArgs false
section
variable {H : Type} {enc : TypeId × Value → H} {w : World} {sp : Nat → Bool}
/-- Whole numbers that came in. -/
theorem trod_ints {A : Option Addr} {len cap : Nat} {d : DataW H} {ps : List MemPlace} (h : DataW.Trod enc Try.prog w 0 sp true 68 (.slice A len cap) d ps) :
    ∃ c : List Int, c.length = len ∧ len ≤ cap ∧ (Kd.int .i64).C w A c.length c := by
  obtain ⟨fuel, hf⟩ := h
  rcases open_ints Try.underlying68 Try.underlying3 cells3 hf with ⟨hcs, hx⟩ | ⟨a, len', cap', zs, hcs, _, hl, hm, hz, hx, hcell, hwz⟩
  · simp [Value.cells] at hcs
    obtain ⟨rfl, rfl, rfl⟩ := hcs
    exact ⟨[], rfl, by omega, Kd.C_nil _ _⟩
  · simp [Value.cells] at hcs
    obtain ⟨rfl, rfl, rfl⟩ := hcs
    have hz2 : len ≤ zs.length := by rw [hz]; split <;> omega
    have hl1 : (zs.take len).length = len := by simp; omega
    refine ⟨zs.take len, hl1, hl, rfl, by unfold maxLen at hm; omega, fun _ => ⟨a, rfl, fun j p hj => ⟨[.int .i64 p], rfl, rfl, fun i u hu => ?_⟩⟩⟩
    have hjl : j < len := by
      have := (List.getElem?_eq_some_iff.1 hj).1; omega
    cases i with
    | zero =>
      simp at hu; subst hu
      show w.cell? (a.add (j * 1 + 0)) = _
      rw [Nat.mul_one, Nat.add_zero, hcell j (by omega)]
      rw [List.getElem?_take_of_lt hjl] at hj
      simp [List.getD_eq_getElem?_getD, hj]
    | succ i => simp at hu
/-- Values that came in. -/
theorem trod_vals {A : Option Addr} {len cap : Nat} {d : DataW H} {ps : List MemPlace} {held : Bool} (h : DataW.Trod enc Try.prog w 0 sp held 41 (.slice A len cap) d ps) (hk : Rows.uptoBulk d ≤ 140737488351232) :
    ∃ l : List S43, l.length = len ∧ len ≤ cap ∧ Kd.C k43 w A l.length l ∧ ∀ x ∈ l, okT x ∧ nd x ≤ Rows.uptoBulk d := by
  obtain ⟨fuel, hf⟩ := h
  rcases Go.Deep.open_slice Try.underlying41 hf with ⟨e4, z4⟩ | ⟨a, len', cap', m, n', D, Pl, e4, _, hl, hm, hmm, z4, hel⟩
  · simp [Value.cells] at e4
    obtain ⟨rfl, rfl, rfl⟩ := e4
    exact ⟨[], rfl, Nat.le_refl _, Kd.C_nil _ _, fun e he => absurd he (by simp)⟩
  · simp [Value.cells] at e4
    obtain ⟨rfl, rfl, rfl⟩ := e4
    have hlm : len ≤ m := by rw [hmm]; split <;> omega
    obtain ⟨rfl, _⟩ := Prod.mk.inj z4
    obtain ⟨E, hll, hp⟩ := list_of (n := len) (p := fun i e => okT e ∧ nd e ≤ Rows.uptoBulk (D i) ∧ i < len ∧ ∃ cs, w.cells? 0 (a.add (i * 5)) 5 = some cs ∧ k43.K w e cs) (fun i hi => by
      obtain ⟨cs', hc, ht⟩ := hel i (by omega)
      rw [cells43] at hc
      have hbi := bulk_slice D (fun j => D (len + j)) len (m - len) i hi
      obtain ⟨e, A4, c4, rfl, hlc, hC, hok, hnd⟩ := trod_v43 _ _ _ _ ht (Nat.le_refl _) (by show Rows.uptoBulk (D i) ≤ _; omega)
      exact ⟨e, hok, hnd, hi, _, hc, k43_mk w e hlc hC⟩)
    subst hll
    refine ⟨E, rfl, hl, row_of_cells (d := k43) rfl (Nat.le_trans hl hm) (fun i x hx => (hp i x hx).2.2.2), fun e he => ?_⟩
    obtain ⟨i, hi⟩ := List.mem_iff_getElem?.1 he
    have hbi := bulk_slice D (fun j => D (E.length + j)) E.length (m - E.length) i (hp i e hi).2.2.1
    exact ⟨(hp i e hi).1, by have := (hp i e hi).2.1; omega⟩
end
end Go.Proofs.Ytofinglgnkdflaa
end
