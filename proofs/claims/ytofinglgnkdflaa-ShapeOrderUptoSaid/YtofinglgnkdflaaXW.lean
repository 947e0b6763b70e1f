/- ShapeOrder: the law returns true for every past of bulk at most 1048576; its argument reads as before. -/
import Derived.Test.YtofinglgnkdflaaXH
import Derived.Test.YtofinglgnkdflaaXT
import Derived.Test.YtofinglgnkdflaaXG
import Derived.Test.YtofinglgnkdflaaXN
import Derived.Test.YtofinglgnkdflaaXR
import Derived.BigQuiet
import Derived.Test.YtofinglgnkdflaaRows
import Derived.WalkKit
import Derived.ProofKit
import Derived.OpenShut
import Derived.Deep.DeepHandedRow
import Derived.Lib.LaidTab
import Derived.JoinedCond
section
namespace Go.Proofs.Ytofinglgnkdflaa
open Go.RowKit
open Go.Proofs.Ytofinglgnkdflaa.PHistoryChecks
set_option linter.unusedVariables false

structure Inv (s : St) (t : Int) : Prop where
  t0 : 0 ≤ t
  a : ∀ (i : Nat) c, s.cl[i]? = some c → 0 ≤ c.f4 ∧ c.f4 < t ∧ (c.f5 = -1 ∨ (c.f4 < c.f5 ∧ c.f5 < t))
  b : ∀ (i j : Nat) c d, i < j → s.cl[i]? = some c → s.cl[j]? = some d → c.f4 < d.f4 ∧ (c.f0 = d.f0 → 0 ≤ c.f5 ∧ c.f5 < d.f4)
  c : ∀ n k, s.op n = some k → ∃ c, 0 ≤ k ∧ s.cl[k.toNat]? = some c ∧ c.f5 = -1 ∧ idxS s.pr n = some c.f0
  d : ∀ (i : Nat) c, s.cl[i]? = some c → c.f5 = -1 → ∃ n, idxS s.pr n = some c.f0 ∧ s.op n = some (i : Int)
theorem inv0 : Inv st0 0 := ⟨Int.le_refl _, fun i c h => by simp [st0] at h, fun i j c d _ h => by simp [st0] at h, fun n k h => by simp [st0] at h, fun i c h => by simp [st0] at h⟩
theorem idxF_at (s : ByteArray) : ∀ (L : List ByteArray) (n k : Int), idxF s n L = some k → n ≤ k ∧ k < n + L.length ∧ L[(k - n).toNat]? = some s
  | [], n, k, h => by simp [idxF] at h
  | x :: L, n, k, h => by
    simp only [idxF] at h
    by_cases e : x = s
    · rw [if_pos e] at h
      cases h
      exact ⟨Int.le_refl _, by simp only [List.length_cons]; omega, by rw [show (n - n).toNat = 0 by omega, e]; rfl⟩
    · rw [if_neg e] at h
      obtain ⟨h1, h2, h3⟩ := idxF_at s L (n + 1) k h
      refine ⟨by omega, by simp only [List.length_cons]; omega, ?_⟩
      rw [show (k - n).toNat = (k - (n + 1)).toNat + 1 by omega]; exact h3
theorem idxS_lt {L : List ByteArray} {s : ByteArray} {k : Int} (h : idxS L s = some k) : 0 ≤ k ∧ k < (L.length : Int) := by
  obtain ⟨h1, h2, _⟩ := idxF_at s L 0 k h; omega
theorem idxS_inj {L : List ByteArray} {s t : ByteArray} {k : Int} (h : idxS L s = some k) (h2 : idxS L t = some k) : s = t := by
  have h3 := (idxF_at s L 0 k h).2.2
  rw [(idxF_at t L 0 k h2).2.2] at h3
  cases h3; rfl
theorem numL_keep {L : List ByteArray} {k n : ByteArray} {v : Int} (h : idxS L n = some v) : idxS (numL L k) n = some v := by
  unfold numL
  split
  · exact h
  · unfold idxS at h ⊢
    rw [idxF_app, h]
theorem numL_self (L : List ByteArray) (k : ByteArray) : idxS (numL L k) k = some (numI L k) := by
  unfold numL numI
  rcases h : idxS L k with _ | v
  · simp only [Option.isSome_none, Bool.false_eq_true, if_false]
    rw [idxS_snoc h]; simp
  · simp [h]
theorem numI_eq {L : List ByteArray} {k n : ByteArray} {v : Int} (h : idxS L n = some v) (he : v = numI L k) : n = k := by
  unfold numI at he
  rcases hk : idxS L k with _ | u
  · rw [hk] at he
    have := idxS_lt h
    simp at he; omega
  · rw [hk] at he
    simp at he
    subst he
    exact idxS_inj h hk
theorem snoc_get {l : List S50} {x c : S50} {i : Nat} (h : (l ++ [x])[i]? = some c) : l[i]? = some c ∨ (i = l.length ∧ c = x) := by
  rcases Nat.lt_trichotomy i l.length with h1 | h1 | h1
  · rw [List.getElem?_append_left h1] at h; exact .inl h
  · subst h1; rw [List.getElem?_append_right (Nat.le_refl _)] at h; simp at h; exact .inr ⟨rfl, h.symm⟩
  · rw [List.getElem?_append_right (by omega), List.getElem?_eq_none (by simp; omega)] at h; cases h
theorem inv_inv {s : St} {t : Int} {e : S47} (h : Inv s t) (ho : s.op e.f1 = none) : Inv (stInv s t e) (t + 1) := by
  refine ⟨by have := h.t0; omega, fun i c hc => ?_, fun i j c d hij hc hd => ?_, fun n k hk => ?_, fun i c hc h5 => ?_⟩
  · rcases snoc_get hc with h1 | ⟨_, rfl⟩
    · have := h.a i c h1; omega
    · have := h.t0; exact ⟨h.t0, by show t < t + 1; omega, .inl rfl⟩
  · rcases snoc_get hd with h1 | ⟨h1, rfl⟩
    · rcases snoc_get hc with h2 | ⟨h2, _⟩
      · exact h.b i j c d hij h2 h1
      · have := (List.getElem?_eq_some_iff.1 h1).1; omega
    · rcases snoc_get hc with h2 | ⟨h2, _⟩
      · have ha := h.a i c h2
        refine ⟨ha.2.1, fun he => ?_⟩
        rcases ha.2.2 with h5 | h5
        · obtain ⟨n, hn, hop⟩ := h.d i c h2 h5
          have := numI_eq hn he
          subst this
          rw [ho] at hop; cases hop
        · exact ⟨by omega, h5.2⟩
      · omega
  · simp only [stInv] at hk ⊢
    by_cases hn : n = e.f1
    · rw [if_pos hn] at hk
      cases hk
      refine ⟨newCall s t e, by omega, ?_, rfl, ?_⟩
      · rw [Int.toNat_natCast, List.getElem?_append_right (Nat.le_refl _)]; simp
      · rw [hn]; exact numL_self _ _
    · rw [if_neg hn] at hk
      obtain ⟨c, h1, h2, h3, h4⟩ := h.c n k hk
      exact ⟨c, h1, by rw [List.getElem?_append_left (List.getElem?_eq_some_iff.1 h2).1]; exact h2, h3, numL_keep h4⟩
  · rcases snoc_get hc with h1 | ⟨rfl, rfl⟩
    · obtain ⟨n, hn, hop⟩ := h.d i c h1 h5
      refine ⟨n, numL_keep hn, ?_⟩
      show (if n = e.f1 then _ else s.op n) = _
      rw [if_neg (fun hh => by rw [hh, ho] at hop; cases hop)]; exact hop
    · exact ⟨e.f1, numL_self _ _, by simp [stInv]⟩
theorem set_get {l : List S50} {x c : S50} {i k : Nat} (hk : k < l.length) (h : (l.set k x)[i]? = some c) : (i = k ∧ c = x) ∨ (i ≠ k ∧ l[i]? = some c) := by
  rw [List.getElem?_set] at h
  by_cases e : k = i
  · rw [if_pos e, if_pos (by omega)] at h; cases h; exact .inl ⟨e.symm, rfl⟩
  · rw [if_neg e] at h; exact .inr ⟨fun hh => e hh.symm, h⟩
theorem inv_res {s : St} {t : Int} {e : S47} {k : Int} (h : Inv s t) (ho : s.op e.f1 = some k) : Inv (stRes s t e k) (t + 1) := by
  obtain ⟨c0, hk0, hk, h5, hi⟩ := h.c e.f1 k ho
  have hkl : k.toNat < s.cl.length := (List.getElem?_eq_some_iff.1 hk).1
  have hrd : rd_T50 s.cl k = c0 := by unfold rd_T50; rw [List.getD_eq_getElem?_getD, hk]; rfl
  have hcl : (stRes s t e k).cl = s.cl.set k.toNat { c0 with f5 := t, f6 := e.f4 } := by show setRes s.cl k t e.f4 = _; unfold setRes; rw [hrd]
  have ht := h.t0
  refine ⟨by omega, fun i c hc => ?_, fun i j c d hij hc hd => ?_, fun n m hm => ?_, fun i c hc hc5 => ?_⟩
  · rw [hcl] at hc
    rcases set_get hkl hc with ⟨_, rfl⟩ | ⟨_, h1⟩
    · have := h.a _ c0 hk
      exact ⟨this.1, by show c0.f4 < t + 1; omega, .inr ⟨this.2.1, by show t < t + 1; omega⟩⟩
    · have := h.a i c h1; omega
  · rw [hcl] at hc hd
    rcases set_get hkl hc with ⟨e1, rfl⟩ | ⟨e1, h1⟩
    · rcases set_get hkl hd with ⟨e2, _⟩ | ⟨e2, h2⟩
      · omega
      · have hb := h.b k.toNat j c0 d (by omega) hk h2
        exact ⟨hb.1, fun he => by have := (hb.2 he).1; omega⟩
    · rcases set_get hkl hd with ⟨e2, rfl⟩ | ⟨e2, h2⟩
      · exact h.b i k.toNat c c0 (by omega) h1 hk
      · exact h.b i j c d hij h1 h2
  · have hm2 : (if n = e.f1 then none else s.op n) = some m := hm
    by_cases hn : n = e.f1
    · rw [if_pos hn] at hm2; cases hm2
    · rw [if_neg hn] at hm2
      obtain ⟨c, h1, h2, h3, h4⟩ := h.c n m hm2
      refine ⟨c, h1, ?_, h3, h4⟩
      rw [hcl, List.getElem?_set, if_neg]
      · exact h2
      · intro hh
        rw [← hh, hk] at h2
        cases h2
        exact hn (idxS_inj h4 hi)
  · rw [hcl] at hc
    rcases set_get hkl hc with ⟨_, rfl⟩ | ⟨e1, h1⟩
    · have : t = -1 := hc5
      omega
    · obtain ⟨n, hn, hop⟩ := h.d i c h1 hc5
      refine ⟨n, hn, ?_⟩
      show (if n = e.f1 then none else s.op n) = _
      rw [if_neg (fun hh => by rw [hh, ho] at hop; injection hop with hop; exact e1 (by omega))]
      exact hop
theorem inv_go (l : List S47) : ∀ (t : Int) (s r : St), Inv s t → mkGo l t s = .go r → ∃ u, Inv r u := by
  induction l with
  | nil => intro t s r h hg; simp only [mkGo] at hg; cases hg; exact ⟨t, h⟩
  | cons e l ih =>
    intro t s r h hg
    simp only [mkGo] at hg
    rcases hs : mkStep s t e with ⟨a, c⟩ | s2
    · rw [hs] at hg; cases hg
    · rw [hs] at hg
      refine ih (t + 1) s2 r ?_ hg
      unfold mkStep at hs
      split at hs
      · cases hs
      · rcases ho : s.op e.f1 with _ | k
        · rw [ho] at hs
          simp only at hs
          split at hs
          · cases hs
          · cases hs; exact inv_inv h ho
        · rw [ho] at hs
          simp only at hs
          split at hs
          · cases hs
          · cases hs; exact inv_res h ho
/-- What holds of the calls of a past that Make made. -/
theorem make_calls (E : List S47) (hc : (makeF E).2.2 = 0) (hl : (makeF E).1.cl ≠ []) :
    ∃ t, (∀ (i : Nat) c, (makeF E).1.cl[i]? = some c → 0 ≤ c.f4 ∧ c.f4 < t ∧ (c.f5 = -1 ∨ (c.f4 < c.f5 ∧ c.f5 < t))) ∧ (∀ (i j : Nat) c d, i < j → (makeF E).1.cl[i]? = some c → (makeF E).1.cl[j]? = some d → c.f4 < d.f4 ∧ (c.f0 = d.f0 → 0 ≤ c.f5 ∧ c.f5 < d.f4)) := by
  unfold makeF at hc hl ⊢
  rcases hg : mkGo E 0 st0 with ⟨a, c⟩ | r
  · rw [hg] at hl; exact absurd rfl hl
  · rw [hg] at hl
    obtain ⟨u, hI⟩ := inv_go E 0 st0 r inv0 hg
    simp only [mkEnd] at hl ⊢
    split at hl
    · exact absurd rfl hl
    · rename_i hlg
      rw [if_neg hlg]
      exact ⟨u, hI.a, hI.b⟩
end Go.Proofs.Ytofinglgnkdflaa
end

section
namespace Go.Proofs.Ytofinglgnkdflaa
open Go.RowKit Go.ChangeShapes Go.WideShapes
open Go.Proofs.Ytofinglgnkdflaa.PHistoryChecks Go.Proofs.YtofinglgnkdflaaW.PrintWords
set_option linter.unusedVariables false
set_option linter.unusedSimpArgs false
theorem cells50 : Try.prog.cellsOf 50 = 15 := by kernel_rfl
theorem cells30 : Try.prog.cellsOf 30 = 3 := by kernel_rfl
theorem cells27 : Try.prog.cellsOf 27 = 1 := by kernel_rfl
theorem cells28 : Try.prog.cellsOf 28 = 1 := by kernel_rfl
theorem list7 {α : Type} {l : List α} (h : l.length = 7) : ∃ c0 c1 c2 c3 c4 c5 c6, l = [c0, c1, c2, c3, c4, c5, c6] := by
  match l, h with
  | [a, b, c, d, e, f, g], _ => exact ⟨a, b, c, d, e, f, g, rfl⟩
theorem list15 {α : Type} {l : List α} (h : l.length = 15) : ∃ c0 c1 c2 c3 c4 c5 c6 c7 c8 c9 c10 c11 c12 c13 c14, l = [c0, c1, c2, c3, c4, c5, c6, c7, c8, c9, c10, c11, c12, c13, c14] := by
  match l, h with
  | [a, b, c, d, e, f, g, h, i, j, k, l, m, n, o], _ => exact ⟨a, b, c, d, e, f, g, h, i, j, k, l, m, n, o, rfl⟩
section
variable {H : Type} {enc : TypeId × Value → H} {w : World} {sp : Nat → Bool} {held : Bool}
theorem bulk_sum2 : ∀ (l : List S43) (D : Nat → DataW H), (∀ i x, l[i]? = some x → 2 * nd x ≤ Rows.uptoBulk (D i)) → 2 * ndL l ≤ Rows.uptoBulkAll ((List.range l.length).map D)
  | [], _, _ => by simp [ndL]
  | x :: l, D, h => by
    have h0 := h 0 x rfl
    have h1 := bulk_sum2 l (fun i => D (i + 1)) (fun i y hy => h (i + 1) y hy)
    rw [List.length_cons, List.range_succ_eq_map, List.map_cons, List.map_map]
    simp only [ndL, Rows.uptoBulkAll]
    have h2 : List.map (D ∘ Nat.succ) (List.range l.length) = (List.range l.length).map (fun i => D (i + 1)) := rfl
    rw [h2]
    omega
theorem trod_v43b (k : Nat) : ∀ (fuel : Nat) (cs : List Value) (x : DataW H × List MemPlace), DataW.trod enc Try.prog w 0 sp held fuel 43 cs = some x → Rows.uptoBulk x.1 ≤ k → k ≤ 140737488351232 →
    ∃ (v : S43) (A : Option Addr) (c : Nat), cs = [.int .i64 v.f0, .int .i64 v.f1, .int .i64 v.f2, .string v.f3, .slice A v.f4.length c] ∧ v.f4.length ≤ c ∧ Kd.C k43 w A v.f4.length v.f4 ∧ okT v ∧ 2 * nd v ≤ Rows.uptoBulk x.1 := by
  induction k with
  | zero => intro fuel cs x h hb; have := bulk_pos x.1; omega
  | succ k ih =>
    intro fuel cs x h hb hk
    obtain ⟨xs, n, _, hx, hl, hlen, hg⟩ := DataW.trod_struct Try.underlying43 h
    rw [cells43] at hl
    obtain ⟨c0, c1, c2, c3, c4, rfl⟩ := list5 hl
    obtain ⟨y0, y1, y2, y3, y4, rfl⟩ := list5 (show xs.length = 5 from hlen)
    have g0 : DataW.trod enc Try.prog w 0 sp held n 40 (List.take (Try.prog.cellsOf 40) [c0, c1, c2, c3, c4]) = some y0 := hg 0 _ rfl
    rw [cells40] at g0
    change DataW.trod enc Try.prog w 0 sp held n 40 [c0] = some y0 at g0
    have g1 : DataW.trod enc Try.prog w 0 sp held n 2 (List.take (Try.prog.cellsOf 2) [c1, c2, c3, c4]) = some y1 := hg 1 _ rfl
    rw [cells2] at g1
    change DataW.trod enc Try.prog w 0 sp held n 2 [c1] = some y1 at g1
    have g2 : DataW.trod enc Try.prog w 0 sp held n 2 (List.take (Try.prog.cellsOf 2) [c2, c3, c4]) = some y2 := hg 2 _ rfl
    rw [cells2] at g2
    change DataW.trod enc Try.prog w 0 sp held n 2 [c2] = some y2 at g2
    have g3 : DataW.trod enc Try.prog w 0 sp held n 9 (List.take (Try.prog.cellsOf 9) [c3, c4]) = some y3 := hg 3 _ rfl
    rw [cells9] at g3
    change DataW.trod enc Try.prog w 0 sp held n 9 [c3] = some y3 at g3
    have g4 : DataW.trod enc Try.prog w 0 sp held n 41 (List.take (Try.prog.cellsOf 41) [c4]) = some y4 := hg 4 _ rfl
    rw [cells41] at g4
    change DataW.trod enc Try.prog w 0 sp held n 41 [c4] = some y4 at g4
    obtain ⟨n0, e0, z0, _⟩ := DataW.trod_int Try.underlying40 g0
    obtain ⟨n1, e1, z1, _⟩ := DataW.trod_int Try.underlying2 g1
    obtain ⟨n2, e2, z2, _⟩ := DataW.trod_int Try.underlying2 g2
    obtain ⟨s, e3, z3, _⟩ := DataW.trod_string Try.underlying9 g3
    simp only [List.cons.injEq, and_true] at e0 e1 e2 e3
    subst e0 e1 e2 e3
    subst hx
    simp only [List.map_cons, List.map_nil, Rows.uptoBulk, Rows.uptoBulkAll] at hb ⊢
    have hs : s.size ≤ 140737488351232 := by
      subst z3
      simp only [Rows.uptoBulk, Array.length_toList] at hb
      have : s.data.size = s.size := rfl
      omega
    rcases Go.Deep.open_slice Try.underlying41 g4 with ⟨e4, z4⟩ | ⟨a, len, cap, m, n', D, Pl, e4, _, hlc, hm, hmm, z4, hel⟩
    · cases e4
      refine ⟨⟨n0, n1, n2, s, []⟩, none, 0, rfl, Nat.le_refl _, Kd.C_nil _ _, ⟨hs, trivial⟩, ?_⟩
      have b0 := bulk_pos y0.1; have b1 := bulk_pos y1.1; have b2 := bulk_pos y2.1
      simp only [nd_eq, ndL]; omega
    · cases e4
      have hlm : len ≤ m := by rw [hmm]; split <;> omega
      subst z4
      have hb' : Rows.uptoBulk (DataW.slice (List.map D (List.range len)) (List.map (fun j => D (len + j)) (List.range (m - len)))) ≤ k := by
        have h9 : Rows.uptoBulk (DataW.slice (List.map D (List.range len)) (List.map (fun j => D (len + j)) (List.range (m - len))), MemPlace.row a (m * Try.prog.cellsOf 43) ++ List.flatMap Pl (List.range m)).fst = Rows.uptoBulk (DataW.slice (List.map D (List.range len)) (List.map (fun j => D (len + j)) (List.range (m - len)))) := rfl
        rw [h9] at hb
        have := bulk_pos y0.1
        omega
      obtain ⟨l, hll, hp⟩ := list_of (n := len) (p := fun i v => 2 * nd v ≤ Rows.uptoBulk (D i) ∧ okT v ∧ ∃ cs, w.cells? 0 (a.add (i * 5)) 5 = some cs ∧ k43.K w v cs) (fun i hi => by
        obtain ⟨cs', hc, ht⟩ := hel i (by omega)
        rw [cells43] at hc
        have hbi := bulk_slice D (fun j => D (len + j)) len (m - len) i hi
        obtain ⟨v, A, c, rfl, hvc, hC, hok, hnd⟩ := ih _ _ _ ht (by show Rows.uptoBulk (D i) ≤ k; omega) (by omega)
        exact ⟨v, hnd, hok, _, hc, k43_mk w v hvc hC⟩)
      subst hll
      refine ⟨⟨n0, n1, n2, s, l⟩, some a, cap, rfl, hlc, row_of_cells (d := k43) rfl (Nat.le_trans hlc hm) (fun i x hx => (hp i x hx).2.2), ⟨hs, okTL_of l (fun x hx => ?_)⟩, ?_⟩
      · obtain ⟨i, hi⟩ := List.mem_iff_getElem?.1 hx
        exact (hp i x hi).2.1
      · have := bulk_sum2 l D (fun i x hx => (hp i x hx).1)
        have b0 := bulk_pos y0.1; have b1 := bulk_pos y1.1; have b2 := bulk_pos y2.1
        simp only [nd_eq, Rows.uptoBulk] at hb ⊢
        omega
/-- What a call holds, as its events ask it. -/
def okC (c : S50) : Prop := c.f2.size ≤ 140737488351232 ∧ okT c.f3 ∧ okT c.f6 ∧ nd c.f3 ≤ 1000000 ∧ nd c.f6 ≤ 1000000
theorem trod_v50 {fuel : Nat} {cs : List Value} {x : DataW H × List MemPlace} (h : DataW.trod enc Try.prog w 0 sp held fuel 50 cs = some x) (hk : Rows.uptoBulk x.1 ≤ 1048576) :
    ∃ e : S50, k50.K w e cs ∧ okC e ∧ 8 ≤ Rows.uptoBulk x.1 := by
  obtain ⟨xs, n, _, hx, hl, hlen, hg⟩ := DataW.trod_struct Try.underlying50 h
  rw [cells50] at hl
  obtain ⟨c0, c1, c2, c3, c4, c5, c6, c7, c8, c9, c10, c11, c12, c13, c14, rfl⟩ := list15 hl
  obtain ⟨y0, y1, y2, y3, y4, y5, y6, rfl⟩ := list7 (show xs.length = 7 from hlen)
  have g0 : DataW.trod enc Try.prog w 0 sp held n 3 (List.take (Try.prog.cellsOf 3) [c0, c1, c2, c3, c4, c5, c6, c7, c8, c9, c10, c11, c12, c13, c14]) = some y0 := hg 0 _ rfl
  rw [cells3] at g0
  change DataW.trod enc Try.prog w 0 sp held n 3 [c0] = some y0 at g0
  have g1 : DataW.trod enc Try.prog w 0 sp held n 3 (List.take (Try.prog.cellsOf 3) [c1, c2, c3, c4, c5, c6, c7, c8, c9, c10, c11, c12, c13, c14]) = some y1 := hg 1 _ rfl
  rw [cells3] at g1
  change DataW.trod enc Try.prog w 0 sp held n 3 [c1] = some y1 at g1
  have g2 : DataW.trod enc Try.prog w 0 sp held n 9 (List.take (Try.prog.cellsOf 9) [c2, c3, c4, c5, c6, c7, c8, c9, c10, c11, c12, c13, c14]) = some y2 := hg 2 _ rfl
  rw [cells9] at g2
  change DataW.trod enc Try.prog w 0 sp held n 9 [c2] = some y2 at g2
  have g3 : DataW.trod enc Try.prog w 0 sp held n 43 (List.take (Try.prog.cellsOf 43) [c3, c4, c5, c6, c7, c8, c9, c10, c11, c12, c13, c14]) = some y3 := hg 3 _ rfl
  rw [cells43] at g3
  change DataW.trod enc Try.prog w 0 sp held n 43 [c3, c4, c5, c6, c7] = some y3 at g3
  have g4 : DataW.trod enc Try.prog w 0 sp held n 3 (List.take (Try.prog.cellsOf 3) [c8, c9, c10, c11, c12, c13, c14]) = some y4 := hg 4 _ rfl
  rw [cells3] at g4
  change DataW.trod enc Try.prog w 0 sp held n 3 [c8] = some y4 at g4
  have g5 : DataW.trod enc Try.prog w 0 sp held n 3 (List.take (Try.prog.cellsOf 3) [c9, c10, c11, c12, c13, c14]) = some y5 := hg 5 _ rfl
  rw [cells3] at g5
  change DataW.trod enc Try.prog w 0 sp held n 3 [c9] = some y5 at g5
  have g6 : DataW.trod enc Try.prog w 0 sp held n 43 (List.take (Try.prog.cellsOf 43) [c10, c11, c12, c13, c14]) = some y6 := hg 6 _ rfl
  rw [cells43] at g6
  change DataW.trod enc Try.prog w 0 sp held n 43 [c10, c11, c12, c13, c14] = some y6 at g6
  obtain ⟨n0, e0, z0, _⟩ := DataW.trod_int Try.underlying3 g0
  obtain ⟨n1, e1, z1, _⟩ := DataW.trod_int Try.underlying3 g1
  obtain ⟨s2, e2, z2, _⟩ := DataW.trod_string Try.underlying9 g2
  obtain ⟨n4, e4, z4, _⟩ := DataW.trod_int Try.underlying3 g4
  obtain ⟨n5, e5, z5, _⟩ := DataW.trod_int Try.underlying3 g5
  simp only [List.cons.injEq, and_true] at e0 e1 e2 e4 e5
  subst e0 e1 e2 e4 e5
  subst hx
  simp only [List.map_cons, List.map_nil, Rows.uptoBulk, Rows.uptoBulkAll] at hk ⊢
  obtain ⟨v3, A3, k3, e3, hvc3, hC3, hok3, hnd3⟩ := trod_v43b _ _ _ _ g3 (Nat.le_refl _) (by omega)
  obtain ⟨v6, A6, k6, e6, hvc6, hC6, hok6, hnd6⟩ := trod_v43b _ _ _ _ g6 (Nat.le_refl _) (by omega)
  cases e3; cases e6
  have b0 := bulk_pos y0.1; have b1 := bulk_pos y1.1; have b2 := bulk_pos y2.1; have b3 := bulk_pos y3.1; have b4 := bulk_pos y4.1; have b5 := bulk_pos y5.1; have b6 := bulk_pos y6.1
  have hs : s2.size ≤ 140737488351232 := by
    subst z2
    simp only [Rows.uptoBulk, Array.length_toList] at hk
    have : s2.data.size = s2.size := rfl
    omega
  refine ⟨⟨n0, n1, s2, v3, n4, n5, v6⟩, k50_mk w ⟨n0, n1, s2, v3, n4, n5, v6⟩ hvc3 hC3 hvc6 hC6, ⟨hs, hok3, hok6, ?_, ?_⟩, ?_⟩
  · show nd v3 ≤ 1000000; omega
  · show nd v6 ≤ 1000000; omega
  · omega
/-- Texts that came in. -/
theorem trod_strs {fuel : Nat} {c : Value} {x : DataW H × List MemPlace} (hf : DataW.trod enc Try.prog w 0 sp held fuel 27 [c] = some x) (hk : Rows.uptoBulk x.1 ≤ 1048576) :
    ∃ (E : List ByteArray) (A : Option Addr) (cap : Nat), c = .slice A E.length cap ∧ E.length ≤ cap ∧ Kd.string.C w A E.length E ∧ (∀ e ∈ E, e.size ≤ 140737488351232) := by
  rcases Go.Deep.open_slice Try.underlying27 hf with ⟨e4, z4⟩ | ⟨a, len, cap, m, n', D, Pl, e4, _, hl, hm, hmm, z4, hel⟩
  · cases e4
    exact ⟨[], none, 0, rfl, Nat.le_refl _, Kd.C_nil _ _, fun e he => absurd he (by simp)⟩
  · cases e4
    have hlm : len ≤ m := by rw [hmm]; split <;> omega
    subst z4
    obtain ⟨E, hll, hp⟩ := list_of (n := len) (p := fun i (s : ByteArray) => s.size ≤ 140737488351232 ∧ ∃ cs, w.cells? 0 (a.add (i * 1)) 1 = some cs ∧ Kd.string.K w s cs) (fun i hi => by
      obtain ⟨cs', hc, ht⟩ := hel i (by omega)
      rw [cells9] at hc
      have hbi := bulk_slice D (fun j => D (len + j)) len (m - len) i hi
      have hbk : Rows.uptoBulk (D i) ≤ 1048576 := by
        have h9 : Rows.uptoBulk (DataW.slice (List.map D (List.range len)) (List.map (fun j => D (len + j)) (List.range (m - len)))) ≤ 1048576 := hk
        omega
      obtain ⟨s, e, z, _⟩ := DataW.trod_string Try.underlying9 ht
      subst e
      refine ⟨s, ?_, _, hc, rfl⟩
      rw [(Prod.mk.inj z).1] at hbk
      simp only [Rows.uptoBulk, Array.length_toList] at hbk
      have : s.data.size = s.size := rfl
      omega)
    subst hll
    refine ⟨E, some a, cap, rfl, hl, row_of_cells (d := Kd.string) rfl (Nat.le_trans hl hm) (fun i x hx => (hp i x hx).2), fun e he => ?_⟩
    obtain ⟨i, hi⟩ := List.mem_iff_getElem?.1 he
    exact (hp i e hi).1
/-- Calls that came in. -/
theorem trod_calls {fuel : Nat} {c : Value} {x : DataW H × List MemPlace} (hf : DataW.trod enc Try.prog w 0 sp held fuel 28 [c] = some x) (hk : Rows.uptoBulk x.1 ≤ 1048576) :
    ∃ (E : List S50) (A : Option Addr) (cap : Nat), c = .slice A E.length cap ∧ E.length ≤ cap ∧ Kd.C k50 w A E.length E ∧ (∀ e ∈ E, okC e) ∧ 8 * E.length ≤ Rows.uptoBulk x.1 := by
  rcases Go.Deep.open_slice Try.underlying28 hf with ⟨e4, z4⟩ | ⟨a, len, cap, m, n', D, Pl, e4, _, hl, hm, hmm, z4, hel⟩
  · cases e4
    exact ⟨[], none, 0, rfl, Nat.le_refl _, Kd.C_nil _ _, (fun e he => absurd he (by simp)), Nat.zero_le _⟩
  · cases e4
    have hlm : len ≤ m := by rw [hmm]; split <;> omega
    subst z4
    have hk9 : Rows.uptoBulk (DataW.slice (List.map D (List.range len)) (List.map (fun j => D (len + j)) (List.range (m - len)))) ≤ 1048576 := hk
    obtain ⟨E, hll, hp⟩ := list_of (n := len) (p := fun i e => okC e ∧ (i < len ∧ 8 ≤ Rows.uptoBulk (D i)) ∧ ∃ cs, w.cells? 0 (a.add (i * 15)) 15 = some cs ∧ k50.K w e cs) (fun i hi => by
      obtain ⟨cs', hc, ht⟩ := hel i (by omega)
      rw [cells50] at hc
      have hbi := bulk_slice D (fun j => D (len + j)) len (m - len) i hi
      obtain ⟨e, hK, hok, h8⟩ := trod_v50 ht (by show Rows.uptoBulk (D i) ≤ _; omega)
      exact ⟨e, hok, ⟨hi, h8⟩, _, hc, hK⟩)
    subst hll
    refine ⟨E, some a, cap, rfl, hl, row_of_cells (d := k50) rfl (Nat.le_trans hl hm) (fun i x hx => (hp i x hx).2.2), fun e he => ?_, ?_⟩
    · obtain ⟨i, hi⟩ := List.mem_iff_getElem?.1 he
      exact (hp i e hi).1
    · show 8 * E.length ≤ Rows.uptoBulk (DataW.slice (List.map D (List.range E.length)) (List.map (fun j => D (E.length + j)) (List.range (m - E.length))))
      simp only [Rows.uptoBulk]
      have := bulk_len2 8 ((List.range E.length).map D) (fun d hd => by
        obtain ⟨i, hi, rfl⟩ := List.mem_map.1 hd
        have hi2 : i < E.length := List.mem_range.1 hi
        exact (hp i _ (List.getElem?_eq_getElem hi2)).2.1.2)
      simp only [List.length_map, List.length_range] at this
      omega
/-- A past that came in. -/
theorem trod_past {cs : Array Value} {d : DataW H} {ps : List MemPlace} (h : DataW.Trod enc Try.prog w 0 sp held 30 (.agg cs) d ps) (hk : Rows.uptoBulk d ≤ 1048576) :
    ∃ (P : PastL) (R : Rw3), cs = cP P R ∧ RdP w P R ∧ P.cl.length ≤ 500000 ∧ (∀ e ∈ P.pr, e.size ≤ 140737488351232) ∧ (∀ e ∈ P.ob, e.size ≤ 140737488351232) ∧ ∀ e ∈ P.cl, okC e := by
  obtain ⟨fuel, hf⟩ := h
  obtain ⟨xs, n, _, hx, hl, hlen, hg⟩ := DataW.trod_struct Try.underlying30 hf
  rw [cells30] at hl
  obtain ⟨c0, c1, c2, hcs⟩ := list3 hl
  obtain ⟨y0, y1, y2, rfl⟩ := list3 (show xs.length = 3 from hlen)
  have hcs2 : cs = #[c0, c1, c2] := by
    cases cs with
    | mk l => exact congrArg Array.mk hcs
  subst hcs2
  have g0 : DataW.trod enc Try.prog w 0 sp held n 27 (List.take (Try.prog.cellsOf 27) [c0, c1, c2]) = some y0 := hg 0 _ rfl
  rw [cells27] at g0
  change DataW.trod enc Try.prog w 0 sp held n 27 [c0] = some y0 at g0
  have g1 : DataW.trod enc Try.prog w 0 sp held n 27 (List.take (Try.prog.cellsOf 27) [c1, c2]) = some y1 := hg 1 _ rfl
  rw [cells27] at g1
  change DataW.trod enc Try.prog w 0 sp held n 27 [c1] = some y1 at g1
  have g2 : DataW.trod enc Try.prog w 0 sp held n 28 (List.take (Try.prog.cellsOf 28) [c2]) = some y2 := hg 2 _ rfl
  rw [cells28] at g2
  change DataW.trod enc Try.prog w 0 sp held n 28 [c2] = some y2 at g2
  obtain ⟨rfl, _⟩ := Prod.mk.inj hx
  simp only [List.map_cons, List.map_nil, Rows.uptoBulk, Rows.uptoBulkAll] at hk
  obtain ⟨E0, A0, k0, rfl, hc0, hC0, hs0⟩ := trod_strs g0 (by omega)
  obtain ⟨E1, A1, k1, rfl, hc1, hC1, hs1⟩ := trod_strs g1 (by omega)
  obtain ⟨E2, A2, k2, rfl, hc2, hC2, hs2, hb2⟩ := trod_calls g2 (by omega)
  exact ⟨⟨E0, E1, E2⟩, ⟨A0, k0, A1, k1, A2, k2⟩, rfl, ⟨hC0, hc0, hC1, hc1, hC2, hc2⟩, by show E2.length ≤ _; omega, hs0, hs1, hs2⟩
end
/-- The events of such a past. -/
theorem ev_ok {P : PastL} (hpr : ∀ e ∈ P.pr, e.size ≤ 140737488351232) (hob : ∀ e ∈ P.ob, e.size ≤ 140737488351232) (cs : List S50) (hcs : ∀ e ∈ cs, okC e) :
    ∀ {xs ys : List S47}, (∀ e ∈ xs, okE e ∧ nd e.f4 ≤ 1000000) → evFrom P xs cs = some ys → ∀ e ∈ ys, okE e ∧ nd e.f4 ≤ 1000000 := by
  have hrd : ∀ (l : List ByteArray) (i : Int), (∀ e ∈ l, e.size ≤ 140737488351232) → (rdB l i).size ≤ 140737488351232 := fun l i h => by
    unfold rdB YtofinglgnkdflaaW.PrintWords.rdOf
    rw [List.getD_eq_getElem?_getD]
    rcases hx : l[i.toNat]? with _ | x
    · exact Nat.zero_le _
    · exact h x (List.mem_of_getElem? hx)
  have hput : ∀ (xs : List S47) (a : Int) (e : S47), (∀ e ∈ xs, okE e ∧ nd e.f4 ≤ 1000000) → (okE e ∧ nd e.f4 ≤ 1000000) → ∀ y ∈ putL xs a e, okE y ∧ nd y.f4 ≤ 1000000 := fun xs a e h he y hy => by
    unfold putL at hy
    split at hy
    · rcases List.mem_or_eq_of_mem_set hy with h1 | h1
      · exact h y h1
      · rw [h1]; exact he
    · exact h y hy
  induction cs with
  | nil => intro xs ys h he; cases he; exact h
  | cons c cs ih =>
    intro xs ys h he
    simp only [evFrom] at he
    rcases hs : evStep P xs c with _ | zs
    · rw [hs] at he; cases he
    · rw [hs] at he
      refine ih (fun e he => hcs e (List.mem_cons_of_mem _ he)) (xs := zs) ?_ he
      have hc := hcs c (List.mem_cons_self ..)
      have h1 : okE (evCall P c) ∧ nd (evCall P c).f4 ≤ 1000000 := ⟨⟨hrd _ _ hpr, hrd _ _ hob, hc.1, hc.2.1⟩, hc.2.2.2.1⟩
      have h2 : okE (evRet P c) ∧ nd (evRet P c).f4 ≤ 1000000 := ⟨⟨hrd _ _ hpr, Nat.zero_le _, Nat.zero_le _, hc.2.2.1⟩, hc.2.2.2.2⟩
      unfold evStep at hs
      split at hs
      · split at hs
        · split at hs
          · split at hs
            · cases hs; exact hput (putL xs c.f4 (evCall P c)) _ _ (hput xs _ _ h h1) h2
            · cases hs
          · cases hs; exact hput xs _ _ h h1
        · cases hs
      · cases hs
theorem past_ev {P : PastL} (hpr : ∀ e ∈ P.pr, e.size ≤ 140737488351232) (hob : ∀ e ∈ P.ob, e.size ≤ 140737488351232) (hcs : ∀ e ∈ P.cl, okC e) :
    ∀ xs, eventsL P = some xs → ∀ e ∈ xs, okE e ∧ nd e.f4 ≤ 1000000 := fun xs h => by
  unfold eventsL at h
  refine ev_ok hpr hob P.cl hcs (fun e he => ?_) h
  rw [List.eq_of_mem_replicate he]
  exact ⟨⟨Nat.zero_le _, Nat.zero_le _, Nat.zero_le _, ⟨Nat.zero_le _, trivial⟩⟩, by decide⟩
end Go.Proofs.Ytofinglgnkdflaa
end

section
namespace Go.Proofs.Ytofinglgnkdflaa
open Go.RowKit
open Go.Proofs.Ytofinglgnkdflaa.PHistoryChecks Go.Proofs.YtofinglgnkdflaaW.PrintWords Go.Proofs.YtofinglgnkdflaaW.PrintLast Go.Proofs.YtofinglgnkdflaaW.PrintMore
set_option linter.unusedVariables false
set_option linter.unusedSimpArgs false

/-! Sums. -/
def sumN (f : Nat → Int) : Nat → Int
  | 0 => 0
  | n + 1 => sumN f n + f n
theorem sumN_congr {f g : Nat → Int} : ∀ n : Nat, (∀ i, i < n → f i = g i) → sumN f n = sumN g n
  | 0, _ => rfl
  | n + 1, h => by simp only [sumN]; rw [sumN_congr n (fun i hi => h i (by omega)), h n (by omega)]
theorem sumN_le {f g : Nat → Int} : ∀ n : Nat, (∀ i, i < n → f i ≤ g i) → sumN f n ≤ sumN g n
  | 0, _ => Int.le_refl _
  | n + 1, h => by
    simp only [sumN]
    have h1 := sumN_le n (fun i hi => h i (by omega))
    have h2 := h n (by omega)
    omega
theorem sumN_add (f g : Nat → Int) : ∀ n : Nat, sumN (fun i => f i + g i) n = sumN f n + sumN g n
  | 0 => rfl
  | n + 1 => by simp only [sumN]; rw [sumN_add f g n]; omega
theorem sumN_zero : ∀ n : Nat, sumN (fun _ => 0) n = 0
  | 0 => rfl
  | n + 1 => by simp only [sumN]; rw [sumN_zero n]; rfl
theorem sumN_comm (f : Nat → Nat → Int) (m : Nat) : ∀ n : Nat, sumN (fun i => sumN (fun j => f i j) m) n = sumN (fun j => sumN (fun i => f i j) n) m
  | 0 => by simp only [sumN]; exact (sumN_zero m).symm
  | n + 1 => by
    simp only [sumN]
    rw [sumN_comm f m n, ← sumN_add]
theorem sumN_const (c : Int) : ∀ n : Nat, sumN (fun _ => c) n = (n : Int) * c
  | 0 => by simp [sumN]
  | n + 1 => by simp only [sumN]; rw [sumN_const c n, Int.natCast_add, Int.add_mul]; simp
theorem sumN_shift (f : Nat → Int) : ∀ n : Nat, sumN f (n + 1) = f 0 + sumN (fun i => f (i + 1)) n
  | 0 => by simp [sumN]
  | n + 1 => by
    rw [show sumN f (n + 1 + 1) = sumN f (n + 1) + f (n + 1) from rfl, sumN_shift f n]
    simp only [sumN]; omega
theorem sumN_one (f : Nat → Int) (k : Nat) : ∀ n : Nat, (∀ i, i < n → f i = if i = k then 1 else 0) → sumN f n = if k < n then 1 else 0
  | 0, _ => by simp [sumN]
  | n + 1, h => by
    simp only [sumN]
    rw [sumN_one f k n (fun i hi => h i (by omega)), h n (by omega)]
    by_cases h1 : k < n
    · rw [if_pos h1, if_neg (by omega), if_pos (by omega)]; rfl
    · by_cases h2 : n = k
      · rw [if_neg h1, if_pos h2, if_pos (by omega)]; rfl
      · rw [if_neg h1, if_neg h2, if_neg (by omega)]; rfl
theorem sumN_nat : ∀ n : Nat, 2 * sumN (fun i => (i : Int)) n = (n : Int) * ((n : Int) - 1)
  | 0 => by simp [sumN]
  | n + 1 => by
    simp only [sumN]
    have h := sumN_nat n
    rw [Int.mul_add, h, Int.natCast_add]
    generalize (n : Int) = x
    show x * (x - 1) + 2 * x = (x + 1) * (x + 1 - 1)
    rw [show x + 1 - 1 = x by omega, Int.add_mul, Int.mul_sub]; omega
/-- The last place where something holds. -/
theorem last_of (p : Nat → Prop) [DecidablePred p] : ∀ n : Nat, (∀ a, a < n → ¬ p a) ∨ ∃ b, b < n ∧ p b ∧ ∀ a, a < n → p a → a ≤ b
  | 0 => .inl fun a h => absurd h (Nat.not_lt_zero _)
  | n + 1 => by
    by_cases hn : p n
    · exact .inr ⟨n, by omega, hn, fun a h _ => by omega⟩
    · rcases last_of p n with h | ⟨b, hb, hp, hm⟩
      · refine .inl fun a ha => ?_
        by_cases e : a = n
        · rw [e]; exact hn
        · exact h a (by omega)
      · refine .inr ⟨b, by omega, hp, fun a ha hpa => ?_⟩
        by_cases e : a = n
        · rw [e] at hpa; exact absurd hpa hn
        · exact hm a (by omega) hpa

/-! Widths: the sums of the events' signs. -/
def psum (l : List Int) : Nat → Int
  | 0 => 0
  | t + 1 => psum l t + rd l (t : Int)
theorem psum_set (l : List Int) (i : Nat) (v : Int) (hi : i < l.length) (h0 : rd l (i : Int) = 0) : ∀ t : Nat, psum (l.set i v) t = psum l t + if i < t then v else 0
  | 0 => by simp [psum]
  | t + 1 => by
    simp only [psum]
    rw [psum_set l i v hi h0 t, rd_set']
    by_cases h1 : i < t
    · rw [if_pos h1, if_neg (by omega), if_pos (by omega)]; omega
    · by_cases h2 : i = t
      · subst h2
        rw [if_neg h1, if_pos ⟨rfl, hi⟩, if_pos (Nat.lt_succ_self _), h0]
      · rw [if_neg h1, if_neg (show ¬ (i = t ∧ t < l.length) from fun h => h2 h.1), if_neg (show ¬ i < t + 1 by omega)]; omega
theorem preGo_psum (l0 : List Int) (k : Nat) : ∀ (l : List Int) (i : Nat) (n : Int), l.length = l0.length → i + k ≤ l0.length → n = psum l0 i → (∀ j : Nat, i ≤ j → rd l (j : Int) = rd l0 (j : Int)) → (∀ j : Nat, j < i → rd l (j : Int) = psum l0 (j + 1)) → ∀ j : Nat, j < i + k → rd (preGo k l i n) (j : Int) = psum l0 (j + 1) := by
  induction k with
  | zero => intro l i n _ _ _ _ h j hj; exact h j (by omega)
  | succ k ih =>
    intro l i n hl hik hn hge hlt j hj
    simp only [preGo]
    have e : n + rd l (i : Int) = psum l0 (i + 1) := by rw [hn, hge i (Nat.le_refl _)]; rfl
    refine ih _ (i + 1) _ (by rw [List.length_set]; exact hl) (by omega) e (fun j hj => ?_) (fun j hj => ?_) j (by omega)
    · rw [rd_set', if_neg (by omega)]; exact hge j (by omega)
    · rw [rd_set']
      by_cases h : i = j
      · subst h; rw [if_pos ⟨rfl, by omega⟩, e]
      · rw [if_neg (by omega)]; exact hlt j (by omega)
def sgn (e : S47) : Int := if e.f0 = 1 then 1 else if e.f0 = 2 then -1 else 0
def Sg (xs : List S47) (l : List Int) : Prop := l.length = xs.length ∧ ∀ j : Nat, j < xs.length → rd l (j : Int) = sgn (rd_T47 xs (j : Int))
theorem rd47_set (xs : List S47) (i j : Nat) (v : S47) (hj : j < xs.length) : rd_T47 (xs.set i v) (j : Int) = if i = j then v else rd_T47 xs (j : Int) := by
  unfold rd_T47
  rw [Int.toNat_natCast, List.getD_eq_getElem?_getD, List.getD_eq_getElem?_getD, List.getElem?_set]
  by_cases e : i = j
  · rw [if_pos e, if_pos e, if_pos (by omega)]; rfl
  · rw [if_neg e, if_neg e]
theorem putB_iff {xs : List S47} {a : Int} (h : putB xs a = true) : 0 ≤ a ∧ a.toNat < xs.length ∧ (rd_T47 xs (a.toNat : Int)).f0 = 0 := by
  unfold putB at h
  simp only [Bool.and_eq_true, decide_eq_true_eq] at h
  rw [Int.toNat_of_nonneg h.1]
  exact ⟨h.1, by omega, h.2.2⟩
theorem Sg.put {xs : List S47} {l : List Int} (h : Sg xs l) {a : Int} (hp : putB xs a = true) (e : S47) (v : Int) (hv : sgn e = v) :
    Sg (putL xs a e) (l.set a.toNat v) ∧ rd l (a.toNat : Int) = 0 ∧ a.toNat < l.length := by
  obtain ⟨h0, h1, h2⟩ := putB_iff hp
  unfold putL
  rw [if_pos hp]
  refine ⟨⟨by rw [List.length_set, List.length_set]; exact h.1, fun j hj => ?_⟩, ?_, by rw [h.1]; exact h1⟩
  · rw [List.length_set] at hj
    rw [rd_set', rd47_set _ _ _ _ hj]
    by_cases e1 : a.toNat = j
    · rw [if_pos ⟨e1, by rw [h.1]; exact hj⟩, if_pos e1, hv]
    · rw [if_neg (fun hh => e1 hh.1), if_neg e1]; exact h.2 j hj
  · rw [h.2 _ h1]; unfold sgn; rw [h2]; rfl
/-- What a call has open at a time: its start lies before, its end does not. -/
def opn (c : S50) (t : Nat) : Int := (if c.f4.toNat < t then 1 else 0) - (if 0 ≤ c.f5 ∧ c.f5.toNat < t then 1 else 0)
def opL : List S50 → Nat → Int
  | [], _ => 0
  | c :: cs, t => opn c t + opL cs t
theorem sg_step {P : PastL} {xs ys : List S47} {c : S50} {l : List Int} (h : Sg xs l) (hs : evStep P xs c = some ys) : Sg ys (chg1 l c) ∧ ∀ t, psum (chg1 l c) t = psum l t + opn c t := by
  unfold evStep at hs
  split at hs
  · split at hs
    · rename_i h1 h2
      obtain ⟨hS, hz, hlt⟩ := h.put h2 (evCall P c) 1 rfl
      unfold chg1 opn
      split at hs
      · rename_i h5
        split at hs
        · rename_i h6
          cases hs
          obtain ⟨hS2, hz2, hlt2⟩ := hS.put h6 (evRet P c) (-1) rfl
          rw [if_pos h5]
          refine ⟨hS2, fun t => ?_⟩
          rw [psum_set _ _ _ hlt2 hz2, psum_set _ _ _ hlt hz]
          by_cases h7 : c.f5.toNat < t
          · rw [if_pos h7, if_pos (show 0 ≤ c.f5 ∧ c.f5.toNat < t from ⟨h5, h7⟩)]; omega
          · rw [if_neg h7, if_neg (show ¬ (0 ≤ c.f5 ∧ c.f5.toNat < t) from fun h => h7 h.2)]; omega
        · cases hs
      · rename_i h5
        cases hs
        rw [if_neg h5]
        refine ⟨hS, fun t => ?_⟩
        rw [psum_set _ _ _ hlt hz, if_neg (show ¬ (0 ≤ c.f5 ∧ c.f5.toNat < t) from fun h => h5 h.1)]; omega
    · cases hs
  · cases hs
theorem sg_from {P : PastL} (cs : List S50) : ∀ {xs ys : List S47} {l : List Int}, Sg xs l → evFrom P xs cs = some ys → Sg ys (chgL l cs) ∧ ∀ t, psum (chgL l cs) t = psum l t + opL cs t := by
  induction cs with
  | nil => intro xs ys l h he; cases he; exact ⟨h, fun t => by simp [chgL, opL]⟩
  | cons c cs ih =>
    intro xs ys l h he
    simp only [evFrom] at he
    rcases hs : evStep P xs c with _ | zs
    · rw [hs] at he; cases he
    · rw [hs] at he
      obtain ⟨h1, h2⟩ := sg_step h hs
      obtain ⟨h3, h4⟩ := ih h1 he
      refine ⟨h3, fun t => ?_⟩
      simp only [chgL, opL]
      rw [h4, h2]; omega
theorem psum_zero (n : Nat) : ∀ t : Nat, psum (List.replicate n 0) t = 0
  | 0 => rfl
  | t + 1 => by
    simp only [psum]
    rw [psum_zero n t]
    unfold YtofinglgnkdflaaW.PrintWords.rd
    rw [List.getD_eq_getElem?_getD, List.getElem?_replicate]
    split <;> rfl
theorem sg_zero (n : Nat) : Sg (List.replicate n z47) (List.replicate n 0) := by
  refine ⟨by simp, fun j hj => ?_⟩
  rw [List.length_replicate] at hj
  unfold YtofinglgnkdflaaW.PrintWords.rd rd_T47
  rw [Int.toNat_natCast, List.getD_eq_getElem?_getD, List.getD_eq_getElem?_getD, List.getElem?_replicate, List.getElem?_replicate, if_pos hj, if_pos hj]; rfl
theorem opL_sum (t : Nat) : ∀ cs : List S50, opL cs t = sumN (fun a => opn (rd_T50 cs (a : Int)) t) cs.length
  | [] => rfl
  | c :: cs => by
    rw [List.length_cons, sumN_shift]
    simp only [opL]
    rw [opL_sum t cs]
    rfl
/-- Events that Make takes are each right. -/
theorem mkGo_right (l : List S47) : ∀ (t : Int) (s r : St), mkGo l t s = .go r → ∀ e ∈ l, rightE e = true := by
  induction l with
  | nil => intro t s r _ e he; cases he
  | cons x l ih =>
    intro t s r hg e he
    simp only [mkGo] at hg
    rcases hs : mkStep s t x with ⟨a, c⟩ | s2
    · rw [hs] at hg; cases hg
    · rw [hs] at hg
      rcases List.mem_cons.1 he with rfl | he
      · unfold mkStep at hs
        split at hs
        · cases hs
        · rename_i h; cases hr : rightE e
          · exact absurd hr h
          · rfl
      · exact ih _ _ _ hg e he
theorem mkStep_bad {s : St} {t a c : Int} {x : S47} (h : mkStep s t x = .bad a c) : c ≠ 0 := by
  unfold mkStep at h
  repeat' split at h
  all_goals (first | cases h | skip)
  all_goals (first | decide | skip)
theorem mkGo_bad (l : List S47) : ∀ (t : Int) (s : St) (a c : Int), mkGo l t s = .bad a c → c ≠ 0 := by
  induction l with
  | nil => intro t s a c h; cases h
  | cons x l ih =>
    intro t s a c hg
    simp only [mkGo] at hg
    rcases hs : mkStep s t x with ⟨a', c'⟩ | s2
    · rw [hs] at hg; cases hg; exact mkStep_bad hs
    · rw [hs] at hg; exact ih _ _ _ _ hg
theorem make_right (E : List S47) (hc : (makeF E).2.2 = 0) : ∀ e ∈ E, rightE e = true := by
  unfold makeF at hc
  rcases hg : mkGo E 0 st0 with ⟨a, c⟩ | r
  · rw [hg] at hc; exact absurd hc (mkGo_bad E _ _ _ _ hg)
  · exact mkGo_right E _ _ _ hg
theorem sgn_right {e : S47} (h : rightE e = true) : sgn e = 1 ∨ sgn e = -1 := by
  unfold rightE tailE at h
  unfold sgn
  by_cases h1 : e.f0 = 1
  · rw [if_pos h1]; exact .inl rfl
  · by_cases h2 : e.f0 = 2
    · rw [if_neg h1, if_pos h2]; exact .inr rfl
    · rw [if_neg h1, if_neg h2] at h; simp at h
theorem eventsF_some {P : PastL} {xs : List S47} (h : eventsF P = some xs) : eventsL P = some xs ∧ (makeF xs).2.2 = 0 ∧ sameP P (makeF xs).1 = true := by
  refine ⟨eventsF_L h, ?_⟩
  unfold eventsF at h
  rw [eventsF_L (P := P) (xs := xs) (by unfold eventsF; exact h)] at h
  simp only at h
  split at h
  · rename_i h1
    split at h
    · rename_i h2; exact ⟨h1, h2⟩
    · cases h
  · cases h
theorem sameCL_get : ∀ (l m : List S50), sameCL l m = true → l.length = m.length ∧ ∀ (i : Nat) c, l[i]? = some c → ∃ d, m[i]? = some d ∧ c.f4 = d.f4 ∧ c.f5 = d.f5
  | [], [], _ => ⟨rfl, fun i c h => by simp at h⟩
  | [], _ :: _, h => by simp [sameCL] at h
  | _ :: _, [], h => by simp [sameCL] at h
  | x :: l, y :: m, h => by
    simp only [sameCL, Bool.and_eq_true] at h
    obtain ⟨h1, h2⟩ := sameCL_get l m h.2
    refine ⟨by simp [h1], fun i c hc => ?_⟩
    cases i with
    | zero =>
      simp at hc; subst hc
      have hs := h.1
      unfold sameC at hs
      simp only [Bool.and_eq_true, decide_eq_true_eq] at hs
      exact ⟨y, rfl, hs.2.2.2.1, hs.2.2.2.2.1⟩
    | succ i => exact h2 i c (by simpa using hc)
theorem get_rd50 (l : List S50) (a : Nat) (h : a < l.length) : l[a]? = some (rd_T50 l (a : Int)) := by
  unfold rd_T50; rw [Int.toNat_natCast, List.getD_eq_getElem?_getD, List.getElem?_eq_getElem h]; rfl
/-- What is laid stays. -/
theorem ev_put {xs : List S47} {a : Int} (hp : putB xs a = true) (e : S47) (he : e.f0 ≠ 0) : (rd_T47 (putL xs a e) (a.toNat : Int)).f0 = e.f0 ∧ ∀ j : Nat, j < xs.length → (rd_T47 xs (j : Int)).f0 ≠ 0 → rd_T47 (putL xs a e) (j : Int) = rd_T47 xs (j : Int) := by
  obtain ⟨h0, h1, h2⟩ := putB_iff hp
  unfold putL
  rw [if_pos hp]
  refine ⟨by rw [rd47_set _ _ _ _ h1, if_pos rfl], fun j hj hne => ?_⟩
  rw [rd47_set _ _ _ _ hj, if_neg]
  intro e; rw [e] at h2; exact hne h2
theorem ev_step_keep {P : PastL} {xs ys : List S47} {c : S50} (hs : evStep P xs c = some ys) :
    (rd_T47 ys (c.f4.toNat : Int)).f0 = 1 ∧ (0 ≤ c.f5 → (rd_T47 ys (c.f5.toNat : Int)).f0 = 2 ∧ c.f5.toNat < xs.length) ∧ c.f4.toNat < xs.length ∧ ∀ j : Nat, j < xs.length → (rd_T47 xs (j : Int)).f0 ≠ 0 → rd_T47 ys (j : Int) = rd_T47 xs (j : Int) := by
  unfold evStep at hs
  split at hs
  · split at hs
    · rename_i h1 h2
      have hb := (putB_iff h2).2.1
      obtain ⟨k1, k2⟩ := ev_put h2 (evCall P c) (by show (1 : Int) ≠ 0; decide)
      have k1' : (rd_T47 (putL xs c.f4 (evCall P c)) (c.f4.toNat : Int)).f0 = 1 := k1
      split at hs
      · rename_i h5
        split at hs
        · rename_i h6
          cases hs
          obtain ⟨m1, m2⟩ := ev_put h6 (evRet P c) (by show (2 : Int) ≠ 0; decide)
          have hb6 := (putB_iff h6).2.1
          rw [putL_length] at hb6
          refine ⟨?_, fun _ => ⟨m1, hb6⟩, hb, fun j hj hne => ?_⟩
          · rw [m2 _ (by rw [putL_length]; exact hb) (by rw [k1']; decide)]; exact k1'
          · rw [m2 _ (by rw [putL_length]; exact hj) (by rw [k2 j hj hne]; exact hne)]; exact k2 j hj hne
        · cases hs
      · rename_i h5
        cases hs
        exact ⟨k1', fun h => absurd h h5, hb, k2⟩
    · cases hs
  · cases hs
theorem ev_keep {P : PastL} (cs : List S50) : ∀ {xs ys : List S47}, evFrom P xs cs = some ys →
    (∀ j : Nat, j < xs.length → (rd_T47 xs (j : Int)).f0 ≠ 0 → rd_T47 ys (j : Int) = rd_T47 xs (j : Int)) ∧ ∀ c ∈ cs, (rd_T47 ys (c.f4.toNat : Int)).f0 = 1 ∧ (0 ≤ c.f5 → (rd_T47 ys (c.f5.toNat : Int)).f0 = 2) := by
  induction cs with
  | nil => intro xs ys h; cases h; exact ⟨fun _ _ _ => rfl, fun c hc => by cases hc⟩
  | cons d cs ih =>
    intro xs ys h
    simp only [evFrom] at h
    rcases hs : evStep P xs d with _ | zs
    · rw [hs] at h; cases h
    · rw [hs] at h
      have hl := evStep_length hs
      obtain ⟨k1, k2, k3, k4⟩ := ev_step_keep hs
      obtain ⟨i1, i2⟩ := ih h
      refine ⟨fun j hj hne => ?_, fun c hc => ?_⟩
      · rw [i1 j (by omega) (by rw [k4 j hj hne]; exact hne)]; exact k4 j hj hne
      · rcases List.mem_cons.1 hc with rfl | hc
        · refine ⟨by rw [i1 _ (by omega) (by rw [k1]; decide)]; exact k1, fun h5 => ?_⟩
          obtain ⟨m1, m2⟩ := k2 h5
          rw [i1 _ (by omega) (by rw [m1]; decide)]; exact m1
        · exact i2 c hc
/-- What holds of the calls of a past that is right. -/
structure CallsOk (cl : List S50) (T : Nat) : Prop where
  a : ∀ i : Nat, i < cl.length → 0 ≤ (rd_T50 cl (i : Int)).f4 ∧ (rd_T50 cl (i : Int)).f4 < T ∧ (rd_T50 cl (i : Int)).f5 < T ∧ ((rd_T50 cl (i : Int)).f5 = -1 ∨ (rd_T50 cl (i : Int)).f4 < (rd_T50 cl (i : Int)).f5)
  b : ∀ i j : Nat, i < j → j < cl.length → (rd_T50 cl (i : Int)).f4 < (rd_T50 cl (j : Int)).f4
  c : ∀ i j : Nat, i < cl.length → j < cl.length → 0 ≤ (rd_T50 cl (i : Int)).f5 → (rd_T50 cl (i : Int)).f5.toNat ≠ (rd_T50 cl (j : Int)).f4.toNat
theorem calls_ok {P : PastL} {xs : List S47} (h : eventsF P = some xs) : CallsOk P.cl (sizeL P.cl) := by
  obtain ⟨h1, h2, h3⟩ := eventsF_some h
  unfold sameP at h3
  simp only [Bool.and_eq_true] at h3
  obtain ⟨hl, hg⟩ := sameCL_get _ _ h3.2.2
  have hC : ∀ i j : Nat, i < P.cl.length → j < P.cl.length → 0 ≤ (rd_T50 P.cl (i : Int)).f5 → (rd_T50 P.cl (i : Int)).f5.toNat ≠ (rd_T50 P.cl (j : Int)).f4.toNat := fun i j hi hj h5 e => by
    unfold eventsL at h1
    have k := (ev_keep P.cl h1).2
    have k1 := (k _ (List.mem_of_getElem? (get_rd50 P.cl i hi))).2 h5
    have k2 := (k _ (List.mem_of_getElem? (get_rd50 P.cl j hj))).1
    rw [e, k2] at k1
    exact absurd k1 (by decide)
  by_cases he : (makeF xs).1.cl = []
  · have h0 : P.cl.length = 0 := by rw [hl, he]; rfl
    exact ⟨fun i hi => by omega, fun i j _ hj => by omega, hC⟩
  · obtain ⟨t, ha, hb⟩ := make_calls xs h2 he
    refine ⟨fun i hi => ?_, fun i j hij hj => ?_, hC⟩
    · obtain ⟨d, hd, e4, e5⟩ := hg i _ (get_rd50 P.cl i hi)
      have h5 := ha i d hd
      have h6 := past_bounds h (i : Int) (by omega) (by omega)
      refine ⟨h6.1, h6.2.1, h6.2.2, ?_⟩
      rw [e4, e5]; omega
    · obtain ⟨d, hd, e4, e5⟩ := hg i _ (get_rd50 P.cl i (by omega))
      obtain ⟨d', hd', e4', e5'⟩ := hg j _ (get_rd50 P.cl j hj)
      rw [e4, e4']; exact (hb i j d d' hij hd hd').1
/-- The signs of a past's events. -/
def chF (P : PastL) : List Int := chgL (List.replicate (sizeL P.cl) 0) P.cl
theorem widths_psum {P : PastL} {w : List Int} (h : widthsF P = some w) (j : Nat) (hj : j < w.length) : rd w (j : Int) = psum (chF P) (j + 1) := by
  have hl := widths_length h
  have hw := (widthsF_some h).2
  have hc : (chF P).length = sizeL P.cl := by unfold chF; rw [chgL_length, List.length_replicate]
  rw [hw]
  exact preGo_psum (chF P) (sizeL P.cl) (chF P) 0 0 rfl (by omega) rfl (fun _ _ => rfl) (fun j hj => absurd hj (Nat.not_lt_zero _)) j (by omega)
theorem widths_open {P : PastL} {xs : List S47} (h : eventsF P = some xs) (t : Nat) : psum (chF P) t = sumN (fun a => opn (rd_T50 P.cl (a : Int)) t) P.cl.length := by
  have h1 := eventsF_L h
  unfold eventsL at h1
  rw [← opL_sum]
  have := (sg_from P.cl (sg_zero (sizeL P.cl)) h1).2 t
  unfold chF
  rw [this, psum_zero]; omega
theorem widths_unit {P : PastL} {xs : List S47} (h : eventsF P = some xs) (j : Nat) (hj : j < sizeL P.cl) : rd (chF P) (j : Int) = 1 ∨ rd (chF P) (j : Int) = -1 := by
  obtain ⟨h1, h2, _⟩ := eventsF_some h
  unfold eventsL at h1
  have h3 := (sg_from P.cl (sg_zero (sizeL P.cl)) h1).1
  have hl : xs.length = sizeL P.cl := by rw [evFrom_length P.cl h1, List.length_replicate]
  unfold chF
  rw [h3.2 j (by omega)]
  refine sgn_right (make_right xs h2 _ ?_)
  unfold rd_T47
  rw [Int.toNat_natCast, List.getD_eq_getElem?_getD, List.getElem?_eq_getElem (by omega)]
  exact List.getElem_mem _

/-! Heights. -/
theorem inGo_other (cl : List S50) (b : Nat) (k : Nat) : ∀ (a : Nat) (s : List Int × Int) (j : Nat), j ≠ b → rd (inGo cl b k a s).1 (j : Int) = rd s.1 (j : Int) := by
  induction k with
  | zero => intros; rfl
  | succ k ih =>
    intro a s j hj
    simp only [inGo]
    rw [ih _ _ _ hj]
    unfold inStep
    split
    · rw [rd_set', if_neg (fun h => hj h.1.symm)]
    · rfl
theorem inGo_own (cl : List S50) (b : Nat) (k : Nat) : ∀ (a : Nat) (s : List Int × Int), a + k ≤ b → b < s.1.length → rd s.1 (b : Int) ≤ rd (inGo cl b k a s).1 (b : Int) ∧ ∀ j : Nat, a ≤ j → j < a + k → befB cl j b = true → rd s.1 (j : Int) + 1 ≤ rd (inGo cl b k a s).1 (b : Int) := by
  induction k with
  | zero => intro a s _ _; exact ⟨Int.le_refl _, fun j h1 h2 => by omega⟩
  | succ k ih =>
    intro a s hk hb
    simp only [inGo]
    have hl : b < (inStep cl b a s).1.length := by unfold inStep; split <;> simpa using hb
    obtain ⟨h1, h2⟩ := ih (a + 1) (inStep cl b a s) (by omega) hl
    have h3 : rd s.1 (b : Int) ≤ rd (inStep cl b a s).1 (b : Int) ∧ (befB cl a b = true → rd s.1 (a : Int) + 1 ≤ rd (inStep cl b a s).1 (b : Int)) := by
      unfold inStep
      split
      · rw [rd_set', if_pos ⟨rfl, hb⟩]; exact ⟨by omega, fun _ => by omega⟩
      · rename_i h; exact ⟨Int.le_refl _, fun h2 => absurd h2 h⟩
    have h4 : ∀ j : Nat, j ≠ b → rd (inStep cl b a s).1 (j : Int) = rd s.1 (j : Int) := fun j hj => inGo_other cl b 1 a s j hj
    refine ⟨by omega, fun j hj1 hj2 hbf => ?_⟩
    by_cases e : j = a
    · subst e; have := h3.2 hbf; omega
    · have := h2 j (by omega) (by omega) hbf
      rw [h4 j (by omega)] at this; exact this
theorem inGo_pairs (cl : List S50) (b : Nat) (k : Nat) : ∀ (a : Nat) (s : List Int × Int), (inGo cl b k a s).2 = s.2 + sumN (fun i => if befB cl ((a + i : Nat) : Int) b then 0 else 1) k := by
  induction k with
  | zero => intro a s; simp [inGo, sumN]
  | succ k ih =>
    intro a s
    simp only [inGo]
    rw [ih, sumN_shift]
    have e : (fun i => if befB cl ((a + 1 + i : Nat) : Int) b then (0 : Int) else 1) = (fun i => if befB cl ((a + (i + 1) : Nat) : Int) b then (0 : Int) else 1) := by
      funext i; rw [show a + 1 + i = a + (i + 1) by omega]
    rw [e, Nat.add_zero]
    unfold inStep
    by_cases h : befB cl a b = true
    · rw [if_pos h, if_pos h]; omega
    · rw [if_neg h, if_neg h]; omega
structure OfInv (cl : List S50) (b : Nat) (s : OfS) : Prop where
  len : s.h.length = cl.length
  lo : ∀ j : Nat, j < b → 1 ≤ rd s.h (j : Int) ∧ rd s.h (j : Int) ≤ s.ht
  up : ∀ i j : Nat, i < j → j < b → befB cl i j = true → rd s.h (i : Int) < rd s.h (j : Int)
  pa : s.pa = sumN (fun j => sumN (fun i => if befB cl (i : Int) (j : Int) then 0 else 1) j) b
  p : s.p = sumN (fun j => if (rd_T50 cl (j : Int)).f5 < 0 then 1 else 0) b
  h0 : 0 ≤ s.ht
  hb : HtB s.h ∧ s.ht ≤ (b : Int)
theorem inGo_ht (cl : List S50) (b : Nat) (k : Nat) : ∀ (a : Nat) (s : List Int × Int), a + k ≤ b → HtB s.1 → HtB (inGo cl b k a s).1 := by
  induction k with
  | zero => intro a s _ h; exact h
  | succ k ih =>
    intro a s hk h
    simp only [inGo]
    refine ih _ _ (by omega) ?_
    unfold inStep
    split
    · have h1 := h a
      have h2 := h b
      exact h.set b _ (by omega) (by omega)
    · exact h
theorem OfInv.step {cl : List S50} {b : Nat} {s : OfS} (h : OfInv cl b s) (hb : b < cl.length) : OfInv cl (b + 1) (ofStep cl b s) := by
  have hl : b < (s.h.set b 1).length := by rw [List.length_set, h.len]; exact hb
  obtain ⟨h1, h2⟩ := inGo_own cl b b 0 (s.h.set b 1, s.pa) (by omega) hl
  have h3 := inGo_other cl b b 0 (s.h.set b 1, s.pa)
  have h4 := inGo_pairs cl b b 0 (s.h.set b 1, s.pa)
  have h5 := inGo_ht cl b b 0 (s.h.set b 1, s.pa) (by omega) (h.hb.1.set b 1 (by omega) (by omega))
  have h6 := inGo_length cl b b 0 (s.h.set b 1, s.pa)
  unfold ofStep
  obtain ⟨r, hr⟩ : ∃ r, r = inGo cl b b 0 (s.h.set b 1, s.pa) := ⟨_, rfl⟩
  rw [← hr] at h1 h2 h3 h4 h5 h6 ⊢
  simp only at h1 h2 h3 h4 h6 ⊢
  have e1 : ∀ j : Nat, j ≠ b → rd r.1 (j : Int) = rd s.h (j : Int) := fun j hj => by rw [h3 j hj, rd_set', if_neg (fun h => hj h.1.symm)]
  have e2 : 1 ≤ rd r.1 (b : Int) := by
    rw [rd_set', if_pos ⟨rfl, by rw [h.len]; exact hb⟩] at h1; exact h1
  refine ⟨by rw [h6, List.length_set]; exact h.len, fun j hj => ?_, fun i j hij hj hbf => ?_, ?_, ?_, ?_, ?_, ?_⟩
  · show 1 ≤ rd r.1 (j : Int) ∧ rd r.1 (j : Int) ≤ max s.ht (rd r.1 (b : Int))
    by_cases e : j = b
    · subst e; omega
    · rw [e1 j e]; have := h.lo j (by omega); omega
  · show rd r.1 (i : Int) < rd r.1 (j : Int)
    rw [e1 i (by omega)]
    by_cases e : j = b
    · subst e
      have h7 := h2 i (by omega) (by omega) hbf
      rw [rd_set', if_neg (by omega)] at h7
      omega
    · rw [e1 j e]; exact h.up i j hij (by omega) hbf
  · show r.2 = _
    rw [h4, h.pa]
    simp only [sumN, Nat.zero_add]
  · show (if (rd_T50 cl (b : Int)).f5 < 0 then s.p + 1 else s.p) = _
    simp only [sumN]
    rw [← h.p]
    split <;> omega
  · show 0 ≤ max s.ht (rd r.1 (b : Int))
    have := h.h0; omega
  · exact h5
  · show max s.ht (rd r.1 (b : Int)) ≤ ((b + 1 : Nat) : Int)
    have h7 := h5 b
    have h8 := h.hb.2
    omega
theorem ofInv_go (cl : List S50) (k : Nat) : ∀ (b : Nat) (s : OfS), b + k = cl.length → OfInv cl b s → OfInv cl cl.length (ofGo cl k b s) := by
  induction k with
  | zero => intro b s hb h; rw [show cl.length = b by omega]; exact h
  | succ k ih => intro b s hb h; simp only [ofGo]; exact ih (b + 1) _ (by omega) (h.step (by omega))
theorem ofInv0 (cl : List S50) : OfInv cl 0 ⟨List.replicate cl.length 0, 0, 0, 0⟩ :=
  ⟨List.length_replicate, fun j hj => absurd hj (Nat.not_lt_zero _), fun i j _ hj => absurd hj (Nat.not_lt_zero _), rfl, rfl, Int.le_refl _, HtB.zero _, Int.le_refl _⟩
theorem maxGo_ge (l : List Int) : ∀ m : Int, m ≤ maxGo l m ∧ ∀ x ∈ l, x ≤ maxGo l m := by
  induction l with
  | nil => intro m; exact ⟨Int.le_refl _, fun x hx => by cases hx⟩
  | cons y l ih =>
    intro m
    simp only [maxGo]
    obtain ⟨h1, h2⟩ := ih (max m y)
    refine ⟨by omega, fun x hx => ?_⟩
    rcases List.mem_cons.1 hx with rfl | hx
    · omega
    · exact h2 x hx
theorem bef_rd {cl : List S50} {a b : Nat} (ha : a < cl.length) (hb : b < cl.length) : befB cl a b = (decide (0 ≤ (rd_T50 cl (a : Int)).f5) && decide ((rd_T50 cl (a : Int)).f5 < (rd_T50 cl (b : Int)).f4)) := by
  unfold befB
  rw [decide_eq_true (show (0 : Int) ≤ (a : Int) by omega), decide_eq_true (show (a : Int) < (cl.length : Int) by omega), decide_eq_true (show (0 : Int) ≤ (b : Int) by omega), decide_eq_true (show (b : Int) < (cl.length : Int) by omega)]
  rfl
theorem opn_nonneg {cl : List S50} {T : Nat} (h : CallsOk cl T) (a : Nat) (ha : a < cl.length) (t : Nat) : 0 ≤ opn (rd_T50 cl (a : Int)) t := by
  have := h.a a ha
  unfold opn
  split <;> split <;> omega
/-- The widest is no less than any level. -/
theorem level_le {cl : List S50} {T : Nat} (h : CallsOk cl T) (ht : Nat → Int) (hup : ∀ i j : Nat, i < j → j < cl.length → befB cl i j = true → ht i < ht j) (M : Int) (h0 : 0 ≤ M) (hM : ∀ t : Nat, t < T → sumN (fun a => opn (rd_T50 cl (a : Int)) (t + 1)) cl.length ≤ M) (k : Int) :
    sumN (fun a => if ht a = k then 1 else 0) cl.length ≤ M := by
  rcases last_of (fun a => ht a = k) cl.length with hn | ⟨b, hb, hp, hm⟩
  · rw [sumN_congr cl.length (g := fun _ => 0) (fun i hi => if_neg (hn i hi)), sumN_zero]; exact h0
  · have hbb := h.a b hb
    refine Int.le_trans (sumN_le cl.length fun a ha => ?_) (hM (rd_T50 cl (b : Int)).f4.toNat (by omega))
    by_cases e : ht a = k
    · rw [if_pos e]
      have hab := hm a ha e
      have haa := h.a a ha
      have h4 : (rd_T50 cl (a : Int)).f4 ≤ (rd_T50 cl (b : Int)).f4 := by
        by_cases e2 : a = b
        · subst e2; exact Int.le_refl _
        · have := h.b a b (by omega) hb; omega
      have h5 : (rd_T50 cl (a : Int)).f5 < 0 ∨ (rd_T50 cl (b : Int)).f4 ≤ (rd_T50 cl (a : Int)).f5 := by
        by_cases e2 : a = b
        · subst e2; omega
        · by_cases hbf : befB cl a b = true
          · have := hup a b (by omega) hb hbf; omega
          · rw [bef_rd ha hb] at hbf
            simp only [Bool.and_eq_true, decide_eq_true_eq] at hbf
            omega
      have h6 := h.c a b ha hb
      unfold opn
      rw [if_pos (by omega)]
      split
      · exfalso; omega
      · omega
    · rw [if_neg e]; exact opn_nonneg h a ha _

/-! What the law asks. -/
theorem ofF_wid {P : PastL} : (ofF P = none ↔ widthsF P = none) := by
  unfold ofF
  rcases widthsF P with _ | w
  · exact ⟨fun _ => rfl, fun _ => rfl⟩
  · exact ⟨fun h => by simp at h, fun h => by simp at h⟩
/-- What comes before what, drawn together by rows. -/
def befRow (cl : List S50) (i : Nat) (k : Nat) : Int := sumN (fun k => if befB cl (i : Int) (k : Int) then 1 else 0) k
def befSum (cl : List S50) (i : Nat) : Int := sumN (fun i => befRow cl i cl.length) i
theorem bef_late {cl : List S50} {T : Nat} (h : CallsOk cl T) {i k : Nat} (hi : i < cl.length) (hk : k ≤ i) : befB cl (i : Int) (k : Int) = false := by
  rw [bef_rd hi (by omega)]
  have h1 := h.a i hi
  have h2 : (rd_T50 cl (k : Int)).f4 ≤ (rd_T50 cl (i : Int)).f4 := by
    by_cases e : k = i
    · subst e; exact Int.le_refl _
    · have := h.b k i (by omega) hi; omega
  rw [Bool.and_eq_false_iff, decide_eq_false_iff_not, decide_eq_false_iff_not]
  omega
theorem sumN_cut (f : Nat → Int) (j : Nat) : ∀ n : Nat, j ≤ n → (∀ i, j ≤ i → i < n → f i = 0) → sumN f n = sumN f j
  | 0, h, _ => by rw [show j = 0 by omega]
  | n + 1, h, h0 => by
    by_cases e : j = n + 1
    · rw [e]
    · simp only [sumN]
      rw [sumN_cut f j n (by omega) (fun i h1 h2 => h0 i h1 (by omega)), h0 n (by omega) (by omega)]; omega
theorem pairs_all {cl : List S50} {T : Nat} (h : CallsOk cl T) : 2 * (sumN (fun j => sumN (fun i => if befB cl (i : Int) (j : Int) then 0 else 1) j) cl.length + befSum cl cl.length) = (cl.length : Int) * ((cl.length : Int) - 1) := by
  unfold befSum befRow
  rw [sumN_comm]
  rw [sumN_congr (f := fun j => sumN (fun i => if befB cl (i : Int) (j : Int) then (1 : Int) else 0) cl.length) (g := fun j => sumN (fun i => if befB cl (i : Int) (j : Int) then (1 : Int) else 0) j) cl.length (fun j hj => sumN_cut _ j _ (by omega) (fun i h1 h2 => by rw [bef_late h h2 h1]; rfl))]
  rw [← sumN_add, ← sumN_nat]
  congr 1
  refine sumN_congr _ fun j hj => ?_
  rw [← sumN_add]
  rw [sumN_congr (g := fun _ => (1 : Int)) j (fun i hi => by cases befB cl (i : Int) (j : Int) <;> rfl), sumN_const]; omega
/-- What the law asks of a past's shape. -/
theorem shape_law {P : PastL} {w : List Int} {s : Sh8} (h : ofF P = some s) (hw : widthsF P = some w) :
    s.e = (w.length : Int) ∧ s.w = maxGo w 0 ∧ s.p = psum (chF P) w.length ∧ (P.cl.length : Int) ≤ s.h * s.w ∧ 2 * (s.pa + befSum P.cl P.cl.length) = (P.cl.length : Int) * ((P.cl.length : Int) - 1) ∧ s.h ≤ (P.cl.length : Int) ∧ 0 ≤ s.h ∧ 0 ≤ s.pa ∧ 0 ≤ s.w := by
  obtain ⟨xs, hx⟩ : ∃ xs, eventsF P = some xs := by
    unfold widthsF at hw
    rcases he : eventsF P with _ | xs
    · rw [he] at hw; cases hw
    · exact ⟨xs, rfl⟩
  have hC := calls_ok hx
  have hwl := widths_length hw
  unfold ofF at h
  rw [hw] at h
  simp only at h
  have hI := ofInv_go P.cl P.cl.length 0 _ (by omega) (ofInv0 P.cl)
  obtain ⟨f, hf⟩ : ∃ f, f = ofGo P.cl P.cl.length 0 ⟨List.replicate P.cl.length 0, 0, 0, 0⟩ := ⟨_, rfl⟩
  rw [← hf] at h hI
  cases h
  have hpairs := pairs_all hC
  rw [← hI.pa] at hpairs
  have hm0 := (maxGo_ge w 0).1
  have hle : ∀ t : Nat, t < sizeL P.cl → sumN (fun a => opn (rd_T50 P.cl (a : Int)) (t + 1)) P.cl.length ≤ maxGo w 0 := fun t ht => by
    rw [← widths_open hx, ← widths_psum hw t (by omega)]
    refine (maxGo_ge w 0).2 _ ?_
    unfold YtofinglgnkdflaaW.PrintWords.rd
    rw [Int.toNat_natCast, List.getD_eq_getElem?_getD, List.getElem?_eq_getElem (by omega)]
    exact List.getElem_mem _
  have hlev := fun k => level_le hC (fun i => rd f.h (i : Int)) (fun i j hij hj hb => hI.up i j hij hj hb) (maxGo w 0) hm0 hle k
  refine ⟨rfl, rfl, ?_, ?_, hpairs, hI.hb.2, hI.h0, ?_, hm0⟩
  · show f.p = _
    rw [hI.p, widths_open hx, hwl]
    refine sumN_congr _ fun j hj => ?_
    have := hC.a j hj
    unfold opn
    rw [if_pos (show (rd_T50 P.cl (j : Int)).f4.toNat < sizeL P.cl by omega)]
    by_cases e : (rd_T50 P.cl (j : Int)).f5 < 0
    · rw [if_pos e, if_neg (by omega)]; rfl
    · rw [if_neg e, if_pos (by omega)]; rfl
  · show (P.cl.length : Int) ≤ f.ht * maxGo w 0
    obtain ⟨m, hm⟩ : ∃ m : Nat, f.ht = (m : Int) := ⟨f.ht.toNat, by have := hI.h0; omega⟩
    have e1 : (P.cl.length : Int) = sumN (fun b => sumN (fun k => if rd f.h (b : Int) = (k : Int) + 1 then 1 else 0) m) P.cl.length := by
      rw [sumN_congr (g := fun _ => (1 : Int)) P.cl.length (fun b hb => ?_), sumN_const]
      · omega
      · have hlo := hI.lo b hb
        rw [hm] at hlo
        rw [sumN_one _ ((rd f.h (b : Int)).toNat - 1) m (fun i hi => ?_), if_pos (by omega)]
        by_cases e : rd f.h (b : Int) = (i : Int) + 1
        · rw [if_pos e, if_pos (by omega)]
        · rw [if_neg e, if_neg (by omega)]
    rw [e1, sumN_comm, hm, ← sumN_const]
    exact sumN_le _ fun k hk => hlev ((k : Int) + 1)
  · show 0 ≤ f.pa
    rw [hI.pa]
    have : sumN (fun _ => (0 : Int)) P.cl.length ≤ sumN (fun j => sumN (fun i => if befB P.cl (i : Int) (j : Int) then (0 : Int) else 1) j) P.cl.length := sumN_le _ fun j hj => by
      have := sumN_le (f := fun _ => (0 : Int)) (g := fun i => if befB P.cl (i : Int) (j : Int) then (0 : Int) else 1) j (fun i hi => by split <;> omega)
      rw [sumN_zero] at this; exact this
    rw [sumN_zero] at this; exact this
end Go.Proofs.Ytofinglgnkdflaa
end

section
namespace Go.Proofs.Ytofinglgnkdflaa
open Go.RowKit
open Go.Proofs.Ytofinglgnkdflaa.PHistoryChecks Go.Proofs.YtofinglgnkdflaaW.PrintWords Go.Proofs.YtofinglgnkdflaaW.PrintLast Go.Proofs.YtofinglgnkdflaaW.PrintMore
set_option linter.unusedVariables false
set_option linter.unusedSimpArgs false

theorem psum_bd {l : List Int} (T : Nat) (h : ∀ j : Nat, j < T → rd l (j : Int) = 1 ∨ rd l (j : Int) = -1) : ∀ i : Nat, i ≤ T → -(i : Int) ≤ psum l i ∧ psum l i ≤ (i : Int)
  | 0, _ => ⟨by simp [psum], by simp [psum]⟩
  | i + 1, hi => by
    have h1 := psum_bd T h i (by omega)
    have h2 := h i (by omega)
    simp only [psum]; omega
theorem befRow_bd (cl : List S50) (i : Nat) : ∀ k : Nat, 0 ≤ befRow cl i k ∧ befRow cl i k ≤ (k : Int)
  | 0 => ⟨Int.le_refl _, Int.le_refl _⟩
  | k + 1 => by
    have h1 := befRow_bd cl i k
    unfold befRow at h1 ⊢
    simp only [sumN]
    split <;> omega
theorem befSum_bd (cl : List S50) (hl : cl.length ≤ 500000) : ∀ i : Nat, 0 ≤ befSum cl i ∧ befSum cl i ≤ 500000 * (i : Int)
  | 0 => ⟨Int.le_refl _, Int.le_refl _⟩
  | i + 1 => by
    have h1 := befSum_bd cl hl i
    have h2 := befRow_bd cl i cl.length
    unfold befSum at h1 ⊢
    simp only [sumN]; omega
theorem befRow_step (cl : List S50) (i k : Nat) : befRow cl i (k + 1) = befRow cl i k + if befB cl (i : Int) (k : Int) then 1 else 0 := rfl
theorem befSum_step (cl : List S50) (i : Nat) : befSum cl (i + 1) = befSum cl i + befRow cl i cl.length := rfl
theorem half_of {n p : Int} (h : 2 * p = n * (n - 1)) (h0 : 0 ≤ p) : (n * (n - 1)).tdiv 2 = p := by
  rw [← h, Int.mul_tdiv_cancel_left _ (by decide)]
theorem quo_law {n : Nat} {q : Int} (hn : n ≤ 500000) (h : 0 ≤ q ∧ 2 * q = (n : Int) * ((n : Int) - 1)) : wrap64 q = wrap64 ((wrap64 ((n : Int) * ((n : Int) - 1))).tdiv 2) := by
  have hb : 0 ≤ (n : Int) * ((n : Int) - 1) ∧ (n : Int) * ((n : Int) - 1) ≤ 500000 * 500000 := by
    rcases Nat.eq_zero_or_pos n with h0 | h0
    · subst h0; decide
    · exact ⟨Int.mul_nonneg (by omega) (by omega), Int.le_trans (Int.mul_le_mul_of_nonneg_right (show (n : Int) ≤ 500000 by omega) (by omega)) (Int.mul_le_mul_of_nonneg_left (by omega) (by decide))⟩
  have hw : wrap64 ((n : Int) * ((n : Int) - 1)) = (n : Int) * ((n : Int) - 1) := by unfold wrap64; omega
  rw [hw, half_of h.2 h.1]
theorem mul_bd {a b A B : Int} (ha : 0 ≤ a) (hA : a ≤ A) (hb : 0 ≤ b) (hB : b ≤ B) : 0 ≤ a * b ∧ a * b ≤ A * B :=
  ⟨Int.mul_nonneg ha hb, Int.le_trans (Int.mul_le_mul_of_nonneg_right hA hb) (Int.mul_le_mul_of_nonneg_left hB (by omega))⟩
set_option maxHeartbeats 8000000 in
set_option maxRecDepth 100000 in
theorem order26_law (W : World) (P : PastL) (R : Rw3) (hR : RdP W P R) (hl : P.cl.length ≤ 500000) (hE : ∀ xs, eventsL P = some xs → ∀ e ∈ xs, okE e ∧ nd e.f4 ≤ 1000000) :
    Calls Try.prog 12 #[.agg (cP P R)] W (fun e w' => e = .returned (.bool true) ∧ Below W.heap.size W w') := by
  have HOF := Lib.hid (fun W1 (h : Below W.heap.size W W1) => Of_any W1 P R (hR.below h) hl hE)
  have HWD := Lib.hid (fun W1 (h : Below W.heap.size W W1) => Widths_any W1 P R (hR.below h) hl hE)
  have h3 := Lib.hid hR.cl
  have HX0 := Lib.hid (heap_alloc_new W (.cells (cP P R) 30))
  have HB0 := Lib.hid (below_alloc (Below.refl W.heap.size W) (.cells (cP P R) 30))
  unfold OfP at HOF
  unfold WidP at HWD
  obtain ⟨a1, c1, a2, c2, a3, c3⟩ := R
  unfold cP at HB0 HX0 HWD HOF ⊢
  rcases hxs : widthsF P with _ | w
  · have hof : ofF P = none := ofF_wid.2 hxs
    rw [hof] at HOF
    rw [hxs] at HWD
    clear hR hE hof hxs
    go_enter Try.func12, Try.ntmps12
    go_wp2_with fail
    refine (HOF.out _ HB0.out).mono ?_
    rintro e w1 ⟨hw1, rfl⟩
    have HX := Lib.hid ((hw1.block _ (blk_lt HX0.out)).trans HX0.out)
    have HB := Lib.hid (HB0.out.trans (hw1.mono HB0.out.size))
    clear hw1 HX0 HB0 HOF
    have q0 : w1.cell? ⟨W.heap.size, 0, none⟩ = some (.slice a1 P.pr.length c1) := (blk_cell HX.out 0).trans rfl
    have q1 : w1.cell? ⟨W.heap.size, 1, none⟩ = some (.slice a2 P.ob.length c2) := (blk_cell HX.out 1).trans rfl
    have q2 : w1.cell? ⟨W.heap.size, 2, none⟩ = some (.slice a3 P.cl.length c3) := (blk_cell HX.out 2).trans rfl
    have hww : W.heap.size < w1.heap.size := blk_lt HX.out
    have HBA := Lib.hid (below_alloc HB.out (.cells #[.int .i64 0, .int .i64 0, .int .i64 0, .int .i64 0, .int .i64 0, .int .i64 0, .int .i64 0, .int .i64 0] 79))
    go_wp2_with fail
    refine (HWD.out _ HBA.out).mono ?_
    rintro e w2 ⟨hw2, rfl⟩
    have HB2 := Lib.hid (HBA.out.trans (hw2.mono HBA.out.size))
    clear hw2 HBA HWD q0 q1 q2 hww HB HX
    go_wp2_with fail
    refine (num_any _ _).mono ?_
    rintro e w3 ⟨rfl, hw3⟩
    have HB3 := Lib.hid (HB2.out.trans (hw3.mono HB2.out.size))
    clear hw3 HB2
    go_wp2_with fail
    refine (alive_any _).mono ?_
    rintro e w4 ⟨rfl, hw4⟩
    have HB4 := Lib.hid (HB3.out.trans (hw4.mono HB3.out.size))
    clear hw4 HB3
    go_wp2
    go_ret
    exact ⟨rfl, HB4.out⟩
  · rcases hof : ofF P with _ | s
    · exact absurd (ofF_wid.1 hof) (by rw [hxs]; simp)
    · obtain ⟨xs, hx⟩ : ∃ xs, eventsF P = some xs := by
        rcases he : eventsF P with _ | xs
        · unfold widthsF at hxs; rw [he] at hxs; cases hxs
        · exact ⟨xs, rfl⟩
      obtain ⟨k1, k2, k3, k4, k5, k6, k7, k8, k9⟩ := shape_law hof hxs
      have hwl := widths_length hxs
      have hwl2 : w.length ≤ 1000000 := by
        have h2 := cntR_le P.cl
        unfold sizeL at hwl; omega
      have hun : ∀ j : Nat, j < w.length → rd (chF P) (j : Int) = 1 ∨ rd (chF P) (j : Int) = -1 := fun j hj => widths_unit hx j (by omega)
      have HUN := Lib.hid hun
      have HPB := Lib.hid (psum_bd w.length hun)
      have HWP := Lib.hid (fun (j : Nat) hj => widths_psum hxs j hj)
      have HBR := Lib.hid (fun i k => befRow_bd P.cl i k)
      have HBS := Lib.hid (befSum_bd P.cl hl)
      have hmw : maxGo w 0 ≤ 1000001 := by
        have : ∀ (l : List Int) (m : Int), m ≤ 1000001 → (∀ x ∈ l, x ≤ 1000001) → maxGo l m ≤ 1000001 := fun l => by
          induction l with
          | nil => intro m h _; exact h
          | cons y l ih => intro m h h2; simp only [maxGo]; have := h2 y (List.mem_cons_self ..); exact ih _ (by omega) (fun x hx => h2 x (List.mem_cons_of_mem _ hx))
        refine this w 0 (by omega) fun x hx => ?_
        obtain ⟨j, hj⟩ := List.mem_iff_getElem?.1 hx
        have := (widths_bound hxs hl (j : Int) (by omega)).2
        unfold YtofinglgnkdflaaW.PrintWords.rd at this
        rw [Int.toNat_natCast, List.getD_eq_getElem?_getD, hj] at this
        exact this
      obtain ⟨se, sc, sp, spr, sob, sw, spa, sh⟩ := s
      simp only at k1 k2 k3 k4 k5 k6 k7 k8 k9
      subst k1
      rw [← k2] at hmw
      have HK2 := Lib.hid k2
      have HK3 := Lib.hid k3
      have hmul := mul_bd k7 (Int.le_trans k6 (show (P.cl.length : Int) ≤ 500000 by omega)) k9 hmw
      have HML := Lib.hid hmul
      have HK4 := Lib.hid k4
      have HK6 := Lib.hid k6
      have HK5 := Lib.hid (half_of k5 (by have := (befSum_bd P.cl hl P.cl.length).1; omega))
      have HPA := Lib.hid (show 0 ≤ spa + befSum P.cl P.cl.length ∧ 2 * (spa + befSum P.cl P.cl.length) = (P.cl.length : Int) * ((P.cl.length : Int) - 1) from ⟨by have := (befSum_bd P.cl hl P.cl.length).1; omega, k5⟩)
      have HS0 := Lib.hid k8
      rw [hof] at HOF
      rw [hxs] at HWD
      unfold sh8C at HOF
      clear hR hE hof hxs hx k2 k3 k4 k5 k6 k7 k8 hwl hun hmul
      go_enter Try.func12, Try.ntmps12
      go_wp2_with fail
      refine (HOF.out _ HB0.out).mono ?_
      rintro e w1 ⟨hw1, rfl⟩
      have HX := Lib.hid ((hw1.block _ (blk_lt HX0.out)).trans HX0.out)
      have HB := Lib.hid (HB0.out.trans (hw1.mono HB0.out.size))
      clear hw1 HX0 HB0 HOF
      have q0 : w1.cell? ⟨W.heap.size, 0, none⟩ = some (.slice a1 P.pr.length c1) := (blk_cell HX.out 0).trans rfl
      have q1 : w1.cell? ⟨W.heap.size, 1, none⟩ = some (.slice a2 P.ob.length c2) := (blk_cell HX.out 1).trans rfl
      have q2 : w1.cell? ⟨W.heap.size, 2, none⟩ = some (.slice a3 P.cl.length c3) := (blk_cell HX.out 2).trans rfl
      have hww : W.heap.size < w1.heap.size := blk_lt HX.out
      have HBA := Lib.hid (below_alloc HB.out (.cells #[.int .i64 w.length, .int .i64 sc, .int .i64 sp, .int .i64 spr, .int .i64 sob, .int .i64 sw, .int .i64 spa, .int .i64 sh] 79))
      have HXA := Lib.hid (blk_alloc HX.out (.cells #[.int .i64 w.length, .int .i64 sc, .int .i64 sp, .int .i64 spr, .int .i64 sob, .int .i64 sw, .int .i64 spa, .int .i64 sh] 79))
      have HSA := Lib.hid (heap_alloc_new w1 (.cells #[.int .i64 w.length, .int .i64 sc, .int .i64 sp, .int .i64 spr, .int .i64 sob, .int .i64 sw, .int .i64 spa, .int .i64 sh] 79))
      go_wp2_with fail
      refine (HWD.out _ HBA.out).mono ?_
      rintro e w2 ⟨hw2, g, hg, rfl, hI⟩
      have HB2 := Lib.hid (HBA.out.trans (hw2.mono HBA.out.size))
      have HX2 := Lib.hid ((hw2.block _ (blk_lt HXA.out)).trans HXA.out)
      have HS2 := Lib.hid ((hw2.block _ (blk_lt HSA.out)).trans HSA.out)
      have HI2 := Lib.hid hI
      obtain ⟨gs, hgs⟩ : ∃ gs, gs = w1.heap.size := ⟨_, rfl⟩
      obtain ⟨ag, hag⟩ : ∃ ag : Addr, ag = ⟨g, 0, none⟩ := ⟨_, rfl⟩
      rw [← hgs] at HS2 ⊢
      rw [← hag]
      have HAG := Lib.hid hag
      clear hw2 HBA HWD q0 q1 q2 hww HB HX HXA HSA hI hg hgs hag
      go_wp2_with fail
      refine (num_any _ _).mono ?_
      rintro e w3 ⟨rfl, hw3⟩
      have HB3 := Lib.hid (HB2.out.trans (hw3.mono HB2.out.size))
      have HX3 := Lib.hid ((hw3.block _ (blk_lt HX2.out)).trans HX2.out)
      have HS3 := Lib.hid ((hw3.block _ (blk_lt HS2.out)).trans HS2.out)
      have HI3 := Lib.hid (HI2.out.below hw3)
      clear hw3 HB2 HX2 HS2 HI2
      go_wp2_with fail
      refine (num_any _ _).mono ?_
      rintro e w4 ⟨rfl, hw4⟩
      have HB4 := Lib.hid (HB3.out.trans (hw4.mono HB3.out.size))
      have HX4 := Lib.hid ((hw4.block _ (blk_lt HX3.out)).trans HX3.out)
      have HS4 := Lib.hid ((hw4.block _ (blk_lt HS3.out)).trans HS3.out)
      have HI4 := Lib.hid (HI3.out.below hw4)
      clear hw4 HB3 HX3 HS3 HI3
      go_wp2
      go_loopw [9, 7, 8] (fun iv lv mv wr => ∃ (i : Nat) (m : Int), iv = .int .i64 i ∧ lv = .int .i64 (psum (chF P) i) ∧ mv = .int .i64 m ∧ i ≤ w.length ∧ 0 ≤ m ∧ m ≤ 1000001 ∧ Hid (maxGo (w.drop i) m = sw) ∧ Hid (Below w4.heap.size w4 wr)) (fun i _ _ _ => w.length - (intOf i).toNat)
      case atStart => exact ⟨0, 0, rfl, rfl, rfl, by omega, by omega, by omega, HK2.out.symm, Below.refl _ _⟩
      case round =>
        obtain ⟨i, m, rfl, rfl, rfl, hi, hm0, hm1, HM, HBW⟩ := hrel
        by_cases hlt : i < w.length
        · have z := (HI4.out.below HBW.out).cell (i : Int) (by omega) (by omega)
          rw [Int.toNat_natCast, ← ag_add HAG.out i, HWP.out i hlt] at z
          have hpb := HPB.out i (by omega)
          have hst := maxGo_step w (i : Int) m (by omega) (by omega)
          rw [show ((i : Int) + 1).toNat = i + 1 by omega, Int.toNat_natCast, HM.out, HWP.out i hlt] at hst
          have hps : psum (chF P) (i + 1) = psum (chF P) i + rd (chF P) (i : Int) := rfl
          obtain ⟨l1, hl1⟩ : ∃ l, l = psum (chF P) i := ⟨_, rfl⟩
          obtain ⟨l2, hl2⟩ : ∃ l, l = psum (chF P) (i + 1) := ⟨_, rfl⟩
          rw [← hl1] at hpb hps ⊢
          rw [← hl2] at z hst hps
          have HL2 := Lib.hid hl2
          have HST := Lib.hid hst.symm
          have hil : (i : Int) < (w.length : Int) := by omega
          rcases HUN.out i hlt with h1 | h1
          · rw [h1] at hps
            subst hps
            clear h1 hl1 hl2 hst
            go_wp2
            go_roundw
            case rel => exact ⟨i + 1, max m (l1 + 1), by simp, by rw [← HL2.out], rfl, by omega, by omega, by omega, HST.out, HBW.out⟩
            case measure => simp [intOf]; omega
          · rw [h1] at hps
            subst hps
            have hne : (l1 + -1 != l1 + 1) = true := by rw [bne_iff_ne]; omega
            have heq : (l1 + -1 != l1 - 1) = false := by rw [bne_eq_false_iff_eq]; omega
            clear h1 hl1 hl2 hst
            go_wp2
            go_roundw
            case rel => exact ⟨i + 1, max m (l1 + -1), by simp, by rw [← HL2.out], rfl, by omega, by omega, by omega, HST.out, HBW.out⟩
            case measure => simp [intOf]; omega
        · have hiw : i = w.length := by omega
          subst hiw
          have hms := HM.out
          rw [List.drop_length] at hms
          have hms2 : m = sw := hms
          subst hms2
          have HB5 := Lib.hid (HB4.out.trans (HBW.out.mono HB4.out.size))
          have HX5 := Lib.hid ((HBW.out.block _ (blk_lt HX4.out)).trans HX4.out)
          have HS5 := Lib.hid ((HBW.out.block _ (blk_lt HS4.out)).trans HS4.out)
          rw [← HK3.out]
          obtain ⟨w5, hw5⟩ : ∃ x : World, x = wr := ⟨_, rfl⟩
          rw [← hw5] at HB5 HX5 HS5 ⊢
          clear hw5 hlt hms HM HBW HB4 HX4 HS4 HI4 HUN HPB HWP HK2 HK3 hi
          go_wp2
          go_loopw [11, 10, 12] (fun iv bv kv wr => ∃ i : Nat, iv = .int .i64 i ∧ bv = .int .i64 (befSum P.cl i) ∧ i ≤ P.cl.length ∧ Hid (Below w5.heap.size w5 wr)) (fun i _ _ _ => P.cl.length - (intOf i).toNat)
          case atStart => exact ⟨0, rfl, rfl, by omega, Below.refl _ _⟩
          case round =>
            obtain ⟨i, rfl, rfl, hi, HBW⟩ := hrel
            have q2 : wr.cell? ⟨W.heap.size, 2, none⟩ = some (.slice a3 P.cl.length c3) := (pw_cell_below HBW.out ((blk_cell HX5.out 2).trans rfl))
            by_cases hlt : i < P.cl.length
            · have hil : (i : Int) < (P.cl.length : Int) := by omega
              have HSS := Lib.hid (befSum_step P.cl i)
              have hs0 := HBS.out i
              have HLT := Lib.hid hlt
              obtain ⟨sm, hsm⟩ : ∃ x, x = befSum P.cl i := ⟨_, rfl⟩
              rw [← hsm] at HSS hs0 ⊢
              clear hsm
              go_wp2
              obtain ⟨wo, hwo⟩ : ∃ x : World, x = wr := ⟨_, rfl⟩
              rw [← hwo] at HBW ⊢
              clear hwo q2
              go_loopw [12, 10] (fun kv bv wr => ∃ k : Nat, kv = .int .i64 k ∧ bv = .int .i64 (sm + befRow P.cl i k) ∧ k ≤ P.cl.length ∧ Hid (Below w5.heap.size w5 wr)) (fun k _ _ => P.cl.length - (intOf k).toNat)
              case atStart => exact ⟨0, rfl, by simp [befRow, sumN], by omega, HBW.out⟩
              case round =>
                obtain ⟨k, rfl, rfl, hk, HBV⟩ := hrel
                have q2 : wr.cell? ⟨W.heap.size, 2, none⟩ = some (.slice a3 P.cl.length c3) := (pw_cell_below HBV.out ((blk_cell HX5.out 2).trans rfl))
                have hr0 := HBR.out i k
                by_cases hkt : k < P.cl.length
                · have hkl : (k : Int) < (P.cl.length : Int) := by omega
                  have hb7 : Below W.heap.size W wr := HB5.out.trans (HBV.out.mono HB5.out.size)
                  have HRS := Lib.hid (befRow_step P.cl i k)
                  have HBB := Lib.hid (bef_rd HLT.out hkt)
                  obtain ⟨ad, _, _, _, _, hAd, _, _, _, _, _, _, _, _, _, y9, _⟩ := at_T50 (Kd.C_below h3.out hb7) (i : Int) (by omega) hil
                  obtain ⟨ad2, _, _, _, _, hAd2, _, _, _, _, _, _, _, _, z8, _⟩ := at_T50 (Kd.C_below h3.out hb7) (k : Int) (by omega) hkl
                  subst hAd
                  cases hAd2
                  simp only [Int.toNat_natCast] at y9 z8
                  obtain ⟨fx, hfx⟩ : ∃ f, f = (rd_T50 P.cl (i : Int)).f5 := ⟨_, rfl⟩
                  obtain ⟨fy, hfy⟩ : ∃ f, f = (rd_T50 P.cl (k : Int)).f4 := ⟨_, rfl⟩
                  obtain ⟨rw0, hrw0⟩ : ∃ x, x = befRow P.cl i k := ⟨_, rfl⟩
                  rw [← hfx] at y9 HBB
                  rw [← hfy] at z8 HBB
                  rw [← hrw0] at hr0 HRS ⊢
                  clear hfx hfy hrw0 hb7
                  by_cases h5 : 0 ≤ fx
                  · have h5' : decide (fx ≥ 0) = true := decide_eq_true h5
                    by_cases h6 : fx < fy
                    · have h6' : decide (fx < fy) = true := decide_eq_true h6
                      have HSTEP := Lib.hid (show befRow P.cl i (k + 1) = rw0 + 1 from by rw [HRS.out, HBB.out, decide_eq_true h5, h6']; rfl)
                      clear h5 h6
                      go_wp2
                      go_quiet (fail)
                      go_wp2
                      go_roundw
                      case rel => exact ⟨k + 1, by simp, by rw [HSTEP.out]; congr 1; omega, by omega, pw_below_drewN HBV.out _⟩
                      case measure => simp [intOf]; omega
                    · have h6' : decide (fx < fy) = false := decide_eq_false h6
                      have HSTEP := Lib.hid (show befRow P.cl i (k + 1) = rw0 from by rw [HRS.out, HBB.out, h6', Bool.and_false]; simp)
                      clear h5 h6
                      go_wp2
                      go_quiet (fail)
                      go_wp2
                      go_roundw
                      case rel => exact ⟨k + 1, by simp, by rw [HSTEP.out], by omega, pw_below_drewN HBV.out _⟩
                      case measure => simp [intOf]; omega
                  · have h5' : decide (fx ≥ 0) = false := decide_eq_false h5
                    have h5'' : decide (0 ≤ fx) = false := decide_eq_false h5
                    have HSTEP := Lib.hid (show befRow P.cl i (k + 1) = rw0 from by rw [HRS.out, HBB.out, decide_eq_false h5, Bool.false_and]; simp)
                    clear h5
                    go_wp2
                    go_quiet (fail)
                    go_wp2
                    go_roundw
                    case rel => exact ⟨k + 1, by simp, by rw [HSTEP.out], by omega, pw_below_drewN HBV.out _⟩
                    case measure => simp [intOf]; omega
                · have hkn : k = P.cl.length := by omega
                  have HEND := Lib.hid (show befSum P.cl (i + 1) = sm + befRow P.cl i k from by rw [HSS.out, hkn])
                  have hkl : decide ((k : Int) < (P.cl.length : Int)) = false := decide_eq_false (by omega)
                  go_wp2
                  go_roundw
                  case rel => exact ⟨i + 1, by simp, by rw [HEND.out], by omega, HBV.out⟩
                  case measure => simp [intOf]; omega
            · have hin : i = P.cl.length := by omega
              subst hin
              have HB6 := Lib.hid (HB5.out.trans (HBW.out.mono HB5.out.size))
              have hS6 := (HBW.out.block _ (blk_lt HS5.out)).trans HS5.out
              have z0 : wr.cell? ⟨gs, 0, none⟩ = some (.int .i64 w.length) := (blk_cell hS6 0).trans rfl
              have z2 : wr.cell? ⟨gs, 2, none⟩ = some (.int .i64 sp) := (blk_cell hS6 2).trans rfl
              have z5 : wr.cell? ⟨gs, 5, none⟩ = some (.int .i64 m) := (blk_cell hS6 5).trans rfl
              have z6 : wr.cell? ⟨gs, 6, none⟩ = some (.int .i64 spa) := (blk_cell hS6 6).trans rfl
              have z7 : wr.cell? ⟨gs, 7, none⟩ = some (.int .i64 sh) := (blk_cell hS6 7).trans rfl
              have hml := HML.out
              have h4 := HK4.out
              have h6 := HK6.out
              have hq := quo_law hl HPA.out
              obtain ⟨sm, hsm⟩ : ∃ x, x = befSum P.cl P.cl.length := ⟨_, rfl⟩
              rw [← hsm] at hq ⊢
              have hE := eq_true hq
              have hE2 := beq_iff_eq.2 hq
              clear hS6 hlt hi HBW HBR HBS HX5 HS5 HB5 hsm hq
              go_wp2_with fail
              refine (alive_any _).mono ?_
              rintro e w7 ⟨rfl, hw7⟩
              have HB7 := Lib.hid (HB6.out.trans (hw7.mono HB6.out.size))
              clear hw7
              go_wp2
              go_ret
              exact ⟨rfl, HB7.out⟩
end Go.Proofs.Ytofinglgnkdflaa
end

section
namespace Go.Proofs.Ytofinglgnkdflaa.shapeOrder
open Go.ChangeShapes Go.WideShapes Go.ChangeAt Go.RowKit
set_option linter.unusedVariables false

theorem own : ownKnob Try.prog.godebug = none := by kernel_rfl
theorem laidOut : laidOutB Try.prog = true := by kernel_rfl
set_option maxRecDepth 100000 in
theorem contract (H : Type) (enc : TypeId × Value → H) (W : World) (base : Nat) (args : Array Value) (ds gs : List (DataW H)) (before : List MemPlace)
    (hval : ∀ (j : Nat) t v, Try.f12.params[j]? = some t → args[j]? = some v → Value.okWide Try.prog W .any base t v)
    (hW : DataW.Whole enc Try.prog Try.f12.params.toList Rows.shapeOrderSpec.vars false W args.toList ds gs before) (hC : Rows.uptoSmall H (ds ++ gs) = true) :
    Calls Try.prog 12 args W fun e W' => ∃ v, e = .returned v ∧ Rows.shapeOrderSpec.post enc Try.prog Try.f12 false true false false W args v W' := by
  have hW' := hW
  obtain ⟨p, q, hA0, hV, rfl, hfz, hnd⟩ := hW
  have hA : DataW.TrodAll enc Try.prog W 0 (fun _ => true) true Try.f12.params.toList args.toList ds p := hA0
  rw [Try.params12] at hA hval
  obtain ⟨v0, vs0, d0, ds0, p0, q0, hargs, rfl, rfl, h0, r0⟩ := trodAll_cons hA
  obtain ⟨rfl, rfl, rfl⟩ := trodAll_nil r0
  obtain rfl : args = #[v0] := by
    cases args with
    | mk l => exact congrArg Array.mk hargs
  obtain ⟨rfl, rfl⟩ := trodVars_none hV
  obtain ⟨cs, rfl, _⟩ := okWide_struct Try.underlying30 (hval 0 30 v0 rfl rfl)
  clear hA0
  simp only [List.append_nil] at hW'
  have hlt : ∀ x ∈ p0, x.block < W.heap.size := fun x hx => by simpa using hW'.lt x (by simpa using hx)
  have hbulk : Rows.uptoBulkAll ([d0] ++ ([] : List (DataW H))) ≤ 1048576 := of_decide_eq_true hC
  simp only [List.cons_append, List.nil_append, Rows.uptoBulkAll] at hbulk
  obtain ⟨P, R, rfl, hR, hl, hpr, hob, hcs⟩ := trod_past h0 (by omega)
  refine (order26_law W P R hR hl (past_ev hpr hob hcs)).mono fun e W' ⟨he, bel⟩ => ?_
  subst he
  exact ⟨_, rfl, _, _, _, [], _, [], hW', trodAll_mk1 (shut_bool Try.underlying4 _),
    trodAll_cons_mk (Below.trod laidOut (by kernel_rfl) (of_decide_eq_true (by kernel_rfl)) h0 bel hlt) trodAll_mk0, rfl, bel.frame _, fun h => by cases h⟩

theorem reads (os : Os) {H : Type} (enc : TypeId × Value → H) : ∃ places, DataW.whole enc Try.prog ((World.holding Try.prog os ⟨#[], #[], []⟩).forCall (fun _ _ => 0) ⟨#[], #[.agg #[.slice none 0 0, .slice none 0 0, .slice none 0 0]], []⟩).memory Try.f12.params.toList Rows.shapeOrderSpec.vars false #[Value.agg #[.slice none 0 0, .slice none 0 0, .slice none 0 0]].toList 8 = some ([.agg [.nil, .nil, .nil]], [], places) :=
  ⟨[], by kernel_rfl⟩
theorem laid_met (os : Os) : laidMet Try.prog Rows.shapeOrderUptoRow.laid ((World.holding Try.prog os ⟨#[], #[], []⟩).forCall (fun _ _ => 0) ⟨#[], #[.agg #[.slice none 0 0, .slice none 0 0, .slice none 0 0]], []⟩).memory :=
  laidMet_of_run' 8 (by kernel_rfl) (by kernel_rfl)

set_option maxRecDepth 100000 in
theorem liftedUpto (os : Os) (started : os.Started) (H : Type) (enc : TypeId × Value → H) (F : Stop.Interp) :
    ReturnsInHanded {} Try.checked os 12 .any ((Rows.OpenSpec.upto Rows.shapeOrderSpec).preRow enc Try.prog Try.f12 Rows.shapeOrderUptoRow.domain false Rows.shapeOrderUptoRow.laid) (((Rows.OpenSpec.upto Rows.shapeOrderSpec).at F).post enc Try.prog Try.f12 false true false false) := by
  obtain ⟨places, hx⟩ := reads os enc
  refine returnsInHanded_of_row (C := Try.checked) (s := Rows.OpenSpec.upto Rows.shapeOrderSpec) own started (by kernel_rfl) Try.func12
    (witness_row_at (enc := enc) (C := Try.checked) false (World.holding Try.prog os ⟨#[], #[], []⟩) #[.agg #[.slice none 0 0, .slice none 0 0, .slice none 0 0]] rfl (by kernel_rfl) (by kernel_rfl) (by kernel_rfl)
      (OpenSpec.preRow_of_cond 8 hx (by kernel_rfl) (fun k hk => by cases hk; kernel_rfl) (by kernel_rfl) (laid_met os))) ?_
  intro W base args ds gs before hval hW _ hC _ hL _ _
  exact contract H enc W base args ds gs before hval hW (hC _ rfl)

theorem saidUpto : Rows.ShapeOrderUptoSaid :=
  OpenClaim.holds_of_cond 12 Try.f12 rfl rfl rfl rfl rfl rfl rfl ⟨rfl, rfl, rfl, rfl, rfl⟩ rfl rfl rfl rfl rfl (by kernel_rfl) Try.func12 (by kernel_rfl)
    (of_decide_eq_true (by kernel_rfl)) (by unfold Func.isWrapper; first | (rw [if_pos (by decide +kernel)]; kernel_rfl) | (rw [if_neg (by decide +kernel)]; exact ⟨rfl, rfl⟩))
    (fun os started H enc _ F => by rw [OpenClaim.pre_eq_preRow]; exact liftedUpto os started H enc F)
end Go.Proofs.Ytofinglgnkdflaa.shapeOrder
namespace Go.Proofs.Ytofinglgnkdflaa
theorem shapeOrder_holds : Rows.ShapeOrderUptoSaid := shapeOrder.saidUpto
#print axioms shapeOrder_holds
end Go.Proofs.Ytofinglgnkdflaa
end
