/- Layer 9: HistoryOrder, its walk. -/
import Derived.Test.YtofinglgnkdflaaXH
section
namespace Go.Proofs.Ytofinglgnkdflaa
open Go.RowKit
open Go.Proofs.Ytofinglgnkdflaa.PHistoryChecks
set_option linter.unusedVariables false

structure Inv (s : St) (t : Int) : Prop where
  t0 : 0 ≤ t
  a : ∀ (i : Nat) c, s.cl[i]? = some c → 0 ≤ c.f4 ∧ c.f4 < t ∧ (c.f5 = -1 ∨ (c.f4 < c.f5 ∧ c.f5 < t))
  b : ∀ (i j : Nat) c d, i < j → s.cl[i]? = some c → s.cl[j]? = some d → c.f4 < d.f4 ∧ (c.f0 = d.f0 → 0 ≤ c.f5 ∧ c.f5 < d.f4)
  c : ∀ n k, s.op n = some k → ∃ c, 0 ≤ k ∧ s.cl[k.toNat]? = some c ∧ c.f5 = -1 ∧ idxS s.pr n = some c.f0
  d : ∀ (i : Nat) c, s.cl[i]? = some c → c.f5 = -1 → ∃ n, idxS s.pr n = some c.f0 ∧ s.op n = some (i : Int)
theorem inv0 : Inv st0 0 := ⟨Int.le_refl _, fun i c h => by simp [st0] at h, fun i j c d _ h => by simp [st0] at h, fun n k h => by simp [st0] at h, fun i c h => by simp [st0] at h⟩
theorem idxF_at (s : ByteArray) : ∀ (L : List ByteArray) (n k : Int), idxF s n L = some k → n ≤ k ∧ k < n + L.length ∧ L[(k - n).toNat]? = some s
  | [], n, k, h => by simp [idxF] at h
  | x :: L, n, k, h => by
    simp only [idxF] at h
    by_cases e : x = s
    · rw [if_pos e] at h
      cases h
      exact ⟨Int.le_refl _, by simp only [List.length_cons]; omega, by rw [show (n - n).toNat = 0 by omega, e]; rfl⟩
    · rw [if_neg e] at h
      obtain ⟨h1, h2, h3⟩ := idxF_at s L (n + 1) k h
      refine ⟨by omega, by simp only [List.length_cons]; omega, ?_⟩
      rw [show (k - n).toNat = (k - (n + 1)).toNat + 1 by omega]; exact h3
theorem idxS_lt {L : List ByteArray} {s : ByteArray} {k : Int} (h : idxS L s = some k) : 0 ≤ k ∧ k < (L.length : Int) := by
  obtain ⟨h1, h2, _⟩ := idxF_at s L 0 k h; omega
theorem idxS_inj {L : List ByteArray} {s t : ByteArray} {k : Int} (h : idxS L s = some k) (h2 : idxS L t = some k) : s = t := by
  have h3 := (idxF_at s L 0 k h).2.2
  rw [(idxF_at t L 0 k h2).2.2] at h3
  cases h3; rfl
theorem numL_keep {L : List ByteArray} {k n : ByteArray} {v : Int} (h : idxS L n = some v) : idxS (numL L k) n = some v := by
  unfold numL
  split
  · exact h
  · unfold idxS at h ⊢
    rw [idxF_app, h]
theorem numL_self (L : List ByteArray) (k : ByteArray) : idxS (numL L k) k = some (numI L k) := by
  unfold numL numI
  rcases h : idxS L k with _ | v
  · simp only [Option.isSome_none, Bool.false_eq_true, if_false]
    rw [idxS_snoc h]; simp
  · simp [h]
theorem numI_eq {L : List ByteArray} {k n : ByteArray} {v : Int} (h : idxS L n = some v) (he : v = numI L k) : n = k := by
  unfold numI at he
  rcases hk : idxS L k with _ | u
  · rw [hk] at he
    have := idxS_lt h
    simp at he; omega
  · rw [hk] at he
    simp at he
    subst he
    exact idxS_inj h hk
theorem snoc_get {l : List S50} {x c : S50} {i : Nat} (h : (l ++ [x])[i]? = some c) : l[i]? = some c ∨ (i = l.length ∧ c = x) := by
  rcases Nat.lt_trichotomy i l.length with h1 | h1 | h1
  · rw [List.getElem?_append_left h1] at h; exact .inl h
  · subst h1; rw [List.getElem?_append_right (Nat.le_refl _)] at h; simp at h; exact .inr ⟨rfl, h.symm⟩
  · rw [List.getElem?_append_right (by omega), List.getElem?_eq_none (by simp; omega)] at h; cases h
theorem inv_inv {s : St} {t : Int} {e : S47} (h : Inv s t) (ho : s.op e.f1 = none) : Inv (stInv s t e) (t + 1) := by
  refine ⟨by have := h.t0; omega, fun i c hc => ?_, fun i j c d hij hc hd => ?_, fun n k hk => ?_, fun i c hc h5 => ?_⟩
  · rcases snoc_get hc with h1 | ⟨_, rfl⟩
    · have := h.a i c h1; omega
    · have := h.t0; exact ⟨h.t0, by show t < t + 1; omega, .inl rfl⟩
  · rcases snoc_get hd with h1 | ⟨h1, rfl⟩
    · rcases snoc_get hc with h2 | ⟨h2, _⟩
      · exact h.b i j c d hij h2 h1
      · have := (List.getElem?_eq_some_iff.1 h1).1; omega
    · rcases snoc_get hc with h2 | ⟨h2, _⟩
      · have ha := h.a i c h2
        refine ⟨ha.2.1, fun he => ?_⟩
        rcases ha.2.2 with h5 | h5
        · obtain ⟨n, hn, hop⟩ := h.d i c h2 h5
          have := numI_eq hn he
          subst this
          rw [ho] at hop; cases hop
        · exact ⟨by omega, h5.2⟩
      · omega
  · simp only [stInv] at hk ⊢
    by_cases hn : n = e.f1
    · rw [if_pos hn] at hk
      cases hk
      refine ⟨newCall s t e, by omega, ?_, rfl, ?_⟩
      · rw [Int.toNat_natCast, List.getElem?_append_right (Nat.le_refl _)]; simp
      · rw [hn]; exact numL_self _ _
    · rw [if_neg hn] at hk
      obtain ⟨c, h1, h2, h3, h4⟩ := h.c n k hk
      exact ⟨c, h1, by rw [List.getElem?_append_left (List.getElem?_eq_some_iff.1 h2).1]; exact h2, h3, numL_keep h4⟩
  · rcases snoc_get hc with h1 | ⟨rfl, rfl⟩
    · obtain ⟨n, hn, hop⟩ := h.d i c h1 h5
      refine ⟨n, numL_keep hn, ?_⟩
      show (if n = e.f1 then _ else s.op n) = _
      rw [if_neg (fun hh => by rw [hh, ho] at hop; cases hop)]; exact hop
    · exact ⟨e.f1, numL_self _ _, by simp [stInv]⟩
theorem set_get {l : List S50} {x c : S50} {i k : Nat} (hk : k < l.length) (h : (l.set k x)[i]? = some c) : (i = k ∧ c = x) ∨ (i ≠ k ∧ l[i]? = some c) := by
  rw [List.getElem?_set] at h
  by_cases e : k = i
  · rw [if_pos e, if_pos (by omega)] at h; cases h; exact .inl ⟨e.symm, rfl⟩
  · rw [if_neg e] at h; exact .inr ⟨fun hh => e hh.symm, h⟩
theorem inv_res {s : St} {t : Int} {e : S47} {k : Int} (h : Inv s t) (ho : s.op e.f1 = some k) : Inv (stRes s t e k) (t + 1) := by
  obtain ⟨c0, hk0, hk, h5, hi⟩ := h.c e.f1 k ho
  have hkl : k.toNat < s.cl.length := (List.getElem?_eq_some_iff.1 hk).1
  have hrd : rd_T50 s.cl k = c0 := by unfold rd_T50; rw [List.getD_eq_getElem?_getD, hk]; rfl
  have hcl : (stRes s t e k).cl = s.cl.set k.toNat { c0 with f5 := t, f6 := e.f4 } := by show setRes s.cl k t e.f4 = _; unfold setRes; rw [hrd]
  have ht := h.t0
  refine ⟨by omega, fun i c hc => ?_, fun i j c d hij hc hd => ?_, fun n m hm => ?_, fun i c hc hc5 => ?_⟩
  · rw [hcl] at hc
    rcases set_get hkl hc with ⟨_, rfl⟩ | ⟨_, h1⟩
    · have := h.a _ c0 hk
      exact ⟨this.1, by show c0.f4 < t + 1; omega, .inr ⟨this.2.1, by show t < t + 1; omega⟩⟩
    · have := h.a i c h1; omega
  · rw [hcl] at hc hd
    rcases set_get hkl hc with ⟨e1, rfl⟩ | ⟨e1, h1⟩
    · rcases set_get hkl hd with ⟨e2, _⟩ | ⟨e2, h2⟩
      · omega
      · have hb := h.b k.toNat j c0 d (by omega) hk h2
        exact ⟨hb.1, fun he => by have := (hb.2 he).1; omega⟩
    · rcases set_get hkl hd with ⟨e2, rfl⟩ | ⟨e2, h2⟩
      · exact h.b i k.toNat c c0 (by omega) h1 hk
      · exact h.b i j c d hij h1 h2
  · have hm2 : (if n = e.f1 then none else s.op n) = some m := hm
    by_cases hn : n = e.f1
    · rw [if_pos hn] at hm2; cases hm2
    · rw [if_neg hn] at hm2
      obtain ⟨c, h1, h2, h3, h4⟩ := h.c n m hm2
      refine ⟨c, h1, ?_, h3, h4⟩
      rw [hcl, List.getElem?_set, if_neg]
      · exact h2
      · intro hh
        rw [← hh, hk] at h2
        cases h2
        exact hn (idxS_inj h4 hi)
  · rw [hcl] at hc
    rcases set_get hkl hc with ⟨_, rfl⟩ | ⟨e1, h1⟩
    · have : t = -1 := hc5
      omega
    · obtain ⟨n, hn, hop⟩ := h.d i c h1 hc5
      refine ⟨n, hn, ?_⟩
      show (if n = e.f1 then none else s.op n) = _
      rw [if_neg (fun hh => by rw [hh, ho] at hop; injection hop with hop; exact e1 (by omega))]
      exact hop
theorem inv_go (l : List S47) : ∀ (t : Int) (s r : St), Inv s t → mkGo l t s = .go r → ∃ u, Inv r u := by
  induction l with
  | nil => intro t s r h hg; simp only [mkGo] at hg; cases hg; exact ⟨t, h⟩
  | cons e l ih =>
    intro t s r h hg
    simp only [mkGo] at hg
    rcases hs : mkStep s t e with ⟨a, c⟩ | s2
    · rw [hs] at hg; cases hg
    · rw [hs] at hg
      refine ih (t + 1) s2 r ?_ hg
      unfold mkStep at hs
      split at hs
      · cases hs
      · rcases ho : s.op e.f1 with _ | k
        · rw [ho] at hs
          simp only at hs
          split at hs
          · cases hs
          · cases hs; exact inv_inv h ho
        · rw [ho] at hs
          simp only at hs
          split at hs
          · cases hs
          · cases hs; exact inv_res h ho
/-- What holds of the calls of a past that Make made. -/
theorem make_calls (E : List S47) (hc : (makeF E).2.2 = 0) (hl : (makeF E).1.cl ≠ []) :
    ∃ t, (∀ (i : Nat) c, (makeF E).1.cl[i]? = some c → 0 ≤ c.f4 ∧ c.f4 < t ∧ (c.f5 = -1 ∨ (c.f4 < c.f5 ∧ c.f5 < t))) ∧ (∀ (i j : Nat) c d, i < j → (makeF E).1.cl[i]? = some c → (makeF E).1.cl[j]? = some d → c.f4 < d.f4 ∧ (c.f0 = d.f0 → 0 ≤ c.f5 ∧ c.f5 < d.f4)) := by
  unfold makeF at hc hl ⊢
  rcases hg : mkGo E 0 st0 with ⟨a, c⟩ | r
  · rw [hg] at hl; exact absurd rfl hl
  · rw [hg] at hl
    obtain ⟨u, hI⟩ := inv_go E 0 st0 r inv0 hg
    simp only [mkEnd] at hl ⊢
    split at hl
    · exact absurd rfl hl
    · rename_i hlg
      rw [if_neg hlg]
      exact ⟨u, hI.a, hI.b⟩
end Go.Proofs.Ytofinglgnkdflaa
end

section
namespace Go.Proofs.Ytofinglgnkdflaa
open Go.RowKit
open Go.Proofs.Ytofinglgnkdflaa.PHistoryChecks
set_option linter.unusedVariables false

theorem befB_iff (l : List S50) (a b : Int) : befB l a b = true ↔ 0 ≤ a ∧ a < (l.length : Int) ∧ 0 ≤ b ∧ b < (l.length : Int) ∧ 0 ≤ (rd_T50 l a).f5 ∧ (rd_T50 l a).f5 < (rd_T50 l b).f4 := by
  unfold befB; simp only [Bool.and_eq_true, decide_eq_true_eq]
theorem get_rd (l : List S50) (a : Int) (h0 : 0 ≤ a) (h1 : a < (l.length : Int)) : l[a.toNat]? = some (rd_T50 l a) := by
  have hn : a.toNat < l.length := by omega
  unfold rd_T50
  rw [List.getD_eq_getElem?_getD, List.getElem?_eq_getElem hn]; rfl
section
variable {l : List S50} {t : Int}
theorem bef_len (ha : ∀ (i : Nat) c, l[i]? = some c → 0 ≤ c.f4 ∧ c.f4 < t ∧ (c.f5 = -1 ∨ (c.f4 < c.f5 ∧ c.f5 < t))) {a b : Int} (h : befB l a b = true) : 0 ≤ a ∧ a < (l.length : Int) ∧ 0 ≤ b ∧ b < (l.length : Int) ∧ 0 ≤ (rd_T50 l a).f5 ∧ (rd_T50 l a).f5 < (rd_T50 l b).f4 ∧ (rd_T50 l a).f4 < (rd_T50 l a).f5 := by
  obtain ⟨h1, h2, h3, h4, h5, h6⟩ := (befB_iff l a b).1 h
  have := ha _ _ (get_rd l a h1 h2)
  exact ⟨h1, h2, h3, h4, h5, h6, by omega⟩
theorem bef_irr (ha : ∀ (i : Nat) c, l[i]? = some c → 0 ≤ c.f4 ∧ c.f4 < t ∧ (c.f5 = -1 ∨ (c.f4 < c.f5 ∧ c.f5 < t))) (a : Int) : befB l a a = false := by
  rcases h : befB l a a with _ | _
  · rfl
  · have := bef_len ha h; omega
theorem bef_asym (ha : ∀ (i : Nat) c, l[i]? = some c → 0 ≤ c.f4 ∧ c.f4 < t ∧ (c.f5 = -1 ∨ (c.f4 < c.f5 ∧ c.f5 < t))) {a b : Int} (h : befB l a b = true) : befB l b a = false := by
  rcases h2 : befB l b a with _ | _
  · rfl
  · have := bef_len ha h; have := bef_len ha h2; omega
theorem bef_trans (ha : ∀ (i : Nat) c, l[i]? = some c → 0 ≤ c.f4 ∧ c.f4 < t ∧ (c.f5 = -1 ∨ (c.f4 < c.f5 ∧ c.f5 < t))) {a b c : Int} (h : befB l a b = true) (h2 : befB l b c = true) : befB l a c = true := by
  have := bef_len ha h; have := bef_len ha h2
  exact (befB_iff l a c).2 (by omega)
theorem bef_cross {a b c d : Int} (h : befB l a b = true) (h2 : befB l c d = true) : befB l a d = true ∨ befB l c b = true := by
  have h3 := (befB_iff l a b).1 h
  have h4 := (befB_iff l c d).1 h2
  by_cases h5 : (rd_T50 l a).f5 < (rd_T50 l d).f4
  · exact .inl ((befB_iff l a d).2 (by omega))
  · exact .inr ((befB_iff l c b).2 (by omega))
theorem bef_own (hb : ∀ (i j : Nat) c d, i < j → l[i]? = some c → l[j]? = some d → c.f4 < d.f4 ∧ (c.f0 = d.f0 → 0 ≤ c.f5 ∧ c.f5 < d.f4)) {a b : Int} (h0 : 0 ≤ a) (h1 : a < b) (h2 : b < (l.length : Int)) (he : (rd_T50 l a).f0 = (rd_T50 l b).f0) : befB l a b = true := by
  have := (hb a.toNat b.toNat _ _ (by omega) (get_rd l a h0 (by omega)) (get_rd l b (by omega) h2)).2 he
  exact (befB_iff l a b).2 (by omega)
end
end Go.Proofs.Ytofinglgnkdflaa
end

section
namespace Go.Proofs.Ytofinglgnkdflaa
open Go.RowKit
open Go.Proofs.Ytofinglgnkdflaa.PHistoryChecks Go.Proofs.YtofinglgnkdflaaW.PrintWords Go.Proofs.YtofinglgnkdflaaW.PrintLast Go.Proofs.YtofinglgnkdflaaW.PrintMore
set_option linter.unusedVariables false
set_option linter.unusedSimpArgs false

theorem wrap_tmod (k : Int) (n : Nat) (h : 0 < n) (hm : n ≤ 9223372036854775807) : 0 ≤ wrap64 ((IntKind.u64.wrap k).tmod n) ∧ wrap64 ((IntKind.u64.wrap k).tmod n) < (n : Int) := by
  obtain ⟨m, hm0, hm1⟩ : ∃ m, m = IntKind.u64.wrap k ∧ 0 ≤ m := ⟨_, rfl, by first | exact Int.emod_nonneg _ (by decide) | (unfold IntKind.wrap; simp; omega)⟩
  rw [← hm0]
  rw [Int.tmod_eq_emod_of_nonneg hm1]
  have h1 := Int.emod_nonneg m (show (n : Int) ≠ 0 by omega)
  have h2 := Int.emod_lt_of_pos m (show (0 : Int) < n by omega)
  generalize m % (n : Int) = r at *
  unfold wrap64
  omega
theorem below_heads {W w2 w3 w4 : World} (h1 : Below W.heap.size W w2) (h2 : Below w2.heap.size w2 w3) (h3 : Below w3.heap.size w3 w4) : Below W.heap.size W w4 :=
  h1.trans ((h2.trans (h3.mono h2.size)).mono h1.size)
section
variable {Q : PastL} {w2 : World} {vs : Array Value}
def BefC (Q : PastL) (w2 : World) (vs : Array Value) (a b : Int) (r : Bool) : Prop := ∀ W1, Below w2.heap.size w2 W1 → Calls Try.prog 29 #[.agg vs, .int .i64 a, .int .i64 b] W1 (fun e w' => e = .returned (.bool r) ∧ Below W1.heap.size W1 w')
variable (hB : Hid (∀ a b, BefC Q w2 vs a b (befB Q.cl a b))) {t : Int} (hf : ∀ (i : Nat) c, Q.cl[i]? = some c → 0 ≤ c.f4 ∧ c.f4 < t ∧ (c.f5 = -1 ∨ (c.f4 < c.f5 ∧ c.f5 < t)))
include hB
theorem bef_is {a b : Int} {r : Bool} (h : r = befB Q.cl a b) : Hid (BefC Q w2 vs a b r) := by rw [h]; exact Lib.hid (hB.out a b)
include hf
theorem bef_xx (a : Int) : Hid (BefC Q w2 vs a a false) := bef_is hB (bef_irr hf a).symm
theorem bef_yx {a b : Int} (h : true = befB Q.cl a b) : Hid (BefC Q w2 vs b a false) := bef_is hB (bef_asym hf h.symm).symm
theorem bef_xz {a b c : Int} (h : true = befB Q.cl a b) (h2 : true = befB Q.cl b c) : Hid (BefC Q w2 vs a c true) := bef_is hB (bef_trans hf h.symm h2.symm).symm
omit hf in
theorem bef_no {a b c d : Int} (h : true = befB Q.cl a b) (h2 : true = befB Q.cl c d) (h3 : false = befB Q.cl a d) : Hid (BefC Q w2 vs c b true) := bef_is hB (by
  rcases bef_cross h.symm h2.symm with h4 | h4
  · rw [h4] at h3; cases h3
  · exact h4.symm)
end
set_option maxHeartbeats 8000000 in
set_option maxRecDepth 100000 in
theorem order_law (W : World) (E : List S47) (A : Option Addr) (c : Nat) (k1 k2 k3 k4 : Int) (hC : Kd.C k47 W A E.length E) (hc : E.length ≤ c) (hE : ∀ e ∈ E, okE e) (hl : E.length ≤ 1000000) :
    Calls Try.prog 6 #[.slice A E.length c, .int .i64 k1, .int .i64 k2, .int .i64 k3, .int .i64 k4] W (fun e w' => e = .returned (.bool true) ∧ Below W.heap.size W w') := by
  have hmk := Make_any W E A c hC hc hE hl
  unfold MakeP at hmk
  have hmc := make_calls E
  obtain ⟨mk, hm⟩ : ∃ mk, mk = makeF E := ⟨_, rfl⟩
  rw [← hm] at hmk hmc
  clear hm
  obtain ⟨Q, ma, mc⟩ := mk
  have HMK := Lib.hid hmk
  have HMC := Lib.hid hmc
  clear hmk hmc hC hc hE hl
  go_enter Try.func6, Try.ntmps6
  go_wp2_with fail
  refine HMK.out.mono ?_
  rintro e w2 ⟨s1, s2, cv, rfl, r1, r2, r3, hw2⟩
  obtain ⟨B1, d1, rfl, l1, rr1⟩ := Kd.R_reads r1
  obtain ⟨B2, d2, rfl, l2, rr2⟩ := Kd.R_reads r2
  obtain ⟨B3, d3, rfl, l3, rr3⟩ := Kd.R_reads r3
  have HRD := Lib.hid (show RdP w2 Q ⟨B1, d1, B2, d2, B3, d3⟩ from ⟨rr1, l1, rr2, l2, rr3, l3⟩)
  have hlm := Kd.C_max rr3
  have HB2 := Lib.hid hw2
  have HA := Lib.hid (below_alloc (Below.refl w2.heap.size w2) (.cells #[.slice B1 Q.pr.length d1, .slice B2 Q.ob.length d2, .slice B3 Q.cl.length d3] 30))
  have hbx := Lib.hid (heap_alloc_new w2 (.cells #[.slice B1 Q.pr.length d1, .slice B2 Q.ob.length d2, .slice B3 Q.cl.length d3] 30))
  clear r1 r2 r3 rr1 rr2 rr3 l1 l2 l3 HMK hw2
  have HBB := Lib.hid (HB2.out.trans (HA.out.mono HB2.out.size))
  by_cases hc : mc = 0
  · subst hc
    by_cases hn : Q.cl.length = 0
    · have hn' : ((Q.cl.length : Int) == 0) = true := by rw [hn]; rfl
      clear hn
      go_wp2_with fail
      refine (heads_any _).mono ?_
      rintro e w3 ⟨rfl, hw3⟩
      have HF := Lib.hid (HBB.out.trans (hw3.mono HBB.out.size))
      clear hw3
      go_wp2
      go_ret
      exact ⟨rfl, HF.out⟩
    · have hn' : ((Q.cl.length : Int) == 0) = false := by rw [beq_eq_false_iff_ne]; omega
      have hpos : 0 < Q.cl.length := by omega
      clear hn
      obtain ⟨tt, hFA, hFB⟩ := HMC.out rfl (by intro h; rw [h] at hpos; exact absurd hpos (by decide))
      have HFA := Lib.hid hFA
      have HFB := Lib.hid hFB
      obtain ⟨ad, rfl⟩ : ∃ ad, B3 = some ad := by obtain ⟨ad, _, _, _, _, h, _⟩ := at_T50 HRD.out.cl 0 (by decide) (by omega); exact ⟨ad, h⟩
      have HBF : Hid (∀ a b, BefC Q w2 #[.slice B1 Q.pr.length d1, .slice B2 Q.ob.length d2, .slice (some ad) Q.cl.length d3] a b (befB Q.cl a b)) := Lib.hid (fun a b W1 h => Before_any W1 Q ⟨B1, d1, B2, d2, some ad, d3⟩ a b (HRD.out.below h))
      have hxa := wrap_tmod k1 Q.cl.length hpos hlm
      have hxb := wrap_tmod k2 Q.cl.length hpos hlm
      have hxc := wrap_tmod k3 Q.cl.length hpos hlm
      have hxd := wrap_tmod k4 Q.cl.length hpos hlm
      clear hFA hFB HMC hpos
      go_wp2_with fail
      generalize wrap64 ((IntKind.u64.wrap k1).tmod ↑Q.cl.length) = xa at hxa ⊢
      generalize wrap64 ((IntKind.u64.wrap k2).tmod ↑Q.cl.length) = xb at hxb ⊢
      generalize wrap64 ((IntKind.u64.wrap k3).tmod ↑Q.cl.length) = xc at hxc ⊢
      generalize wrap64 ((IntKind.u64.wrap k4).tmod ↑Q.cl.length) = xd at hxd ⊢
      have HXA := Lib.hid hxa
      have HXB := Lib.hid hxb
      clear hxa hxb hxc hxd
      obtain ⟨x, hx⟩ : ∃ x, x = befB Q.cl xa xb := ⟨_, rfl⟩
      obtain ⟨y, hy⟩ : ∃ x, x = befB Q.cl xc xd := ⟨_, rfl⟩
      obtain ⟨p, hp⟩ : ∃ x, x = befB Q.cl xb xc := ⟨_, rfl⟩
      obtain ⟨q, hq⟩ : ∃ x, x = befB Q.cl xa xd := ⟨_, rfl⟩
      have HXY := bef_is HBF hx
      have HZW := bef_is HBF hy
      have HYZ := bef_is HBF hp
      have HXW := bef_is HBF hq
      have HXX := bef_xx HBF HFA.out xa
      have HX := Lib.hid hx
      have HY := Lib.hid hy
      have HP := Lib.hid hp
      have HQ := Lib.hid hq
      clear hx hy hp hq
      -- ARM
      refine (HXY.out _ HA.out).mono ?_
      rintro e w3 ⟨rfl, hw3⟩
      have HA3 := Lib.hid (HA.out.trans (hw3.mono HA.out.size))
      have hb3 := Lib.hid ((hw3.block _ (blk_lt hbx.out)).trans hbx.out)
      have u0_3 : w3.cell? ⟨w2.heap.size, 0, none⟩ = some (.slice B1 Q.pr.length d1) := (blk_cell hb3.out 0).trans rfl
      have u1_3 : w3.cell? ⟨w2.heap.size, 1, none⟩ = some (.slice B2 Q.ob.length d2) := (blk_cell hb3.out 1).trans rfl
      have u2_3 : w3.cell? ⟨w2.heap.size, 2, none⟩ = some (.slice (some ad) Q.cl.length d3) := (blk_cell hb3.out 2).trans rfl
      clear hw3 HA hbx
      go_wp2_with fail
      refine (HZW.out _ HA3.out).mono ?_
      rintro e w4 ⟨rfl, hw4⟩
      have HA4 := Lib.hid (HA3.out.trans (hw4.mono HA3.out.size))
      have hb4 := Lib.hid ((hw4.block _ (blk_lt hb3.out)).trans hb3.out)
      have u0_4 : w4.cell? ⟨w2.heap.size, 0, none⟩ = some (.slice B1 Q.pr.length d1) := (blk_cell hb4.out 0).trans rfl
      have u1_4 : w4.cell? ⟨w2.heap.size, 1, none⟩ = some (.slice B2 Q.ob.length d2) := (blk_cell hb4.out 1).trans rfl
      have u2_4 : w4.cell? ⟨w2.heap.size, 2, none⟩ = some (.slice (some ad) Q.cl.length d3) := (blk_cell hb4.out 2).trans rfl
      clear hw4 HA3 hb3 u0_3 u1_3 u2_3
      cases x
      · go_wp2_with fail
        refine (HXX.out _ HA4.out).mono ?_
        rintro e w5 ⟨rfl, hw5⟩
        have HA5 := Lib.hid (HA4.out.trans (hw5.mono HA4.out.size))
        have hb5 := Lib.hid ((hw5.block _ (blk_lt hb4.out)).trans hb4.out)
        have u0_5 : w5.cell? ⟨w2.heap.size, 0, none⟩ = some (.slice B1 Q.pr.length d1) := (blk_cell hb5.out 0).trans rfl
        have u1_5 : w5.cell? ⟨w2.heap.size, 1, none⟩ = some (.slice B2 Q.ob.length d2) := (blk_cell hb5.out 1).trans rfl
        have u2_5 : w5.cell? ⟨w2.heap.size, 2, none⟩ = some (.slice (some ad) Q.cl.length d3) := (blk_cell hb5.out 2).trans rfl
        clear hw5 HA4 hb4 u0_4 u1_4 u2_4
        go_wp2_with fail
        by_cases hlt : xa < xb
        · obtain ⟨bd, _, _, _, _, hbd, y0, _⟩ := at_T50 (HRD.out.below HA5.out).cl xa HXA.out.1 HXA.out.2
          cases hbd
          obtain ⟨bd, _, _, _, _, hbd, z0, _⟩ := at_T50 (HRD.out.below HA5.out).cl xb HXB.out.1 HXB.out.2
          cases hbd
          obtain ⟨fa, hfa⟩ : ∃ f, f = (rd_T50 Q.cl xa).f0 := ⟨_, rfl⟩
          obtain ⟨fb, hfb⟩ : ∃ f, f = (rd_T50 Q.cl xb).f0 := ⟨_, rfl⟩
          rw [← hfa] at y0
          rw [← hfb] at z0
          have g1 := HXA.out.1
          have g2 := HXA.out.2
          have g3 := HXB.out.1
          have g4 := HXB.out.2
          have hne : (fa == fb) = false := by rw [beq_eq_false_iff_ne]; intro he; rw [hfa, hfb] at he; have := bef_own HFB.out g1 hlt g4 he; rw [← HX.out] at this; cases this
          clear hfa hfb
          go_quiet (fail)
          go_wp2_with fail
          refine (heads_any _).mono ?_
          rintro e w6 ⟨rfl, hw6⟩
          have HF := Lib.hid (below_heads HB2.out (pw_below_drewN HA5.out _) hw6)
          clear hw6
          go_wp2
          go_ret
          exact ⟨rfl, HF.out⟩
        · have hlt' : decide (xa < xb) = false := decide_eq_false hlt
          clear hlt
          go_quiet (fail)
          go_wp2_with fail
          refine (heads_any _).mono ?_
          rintro e w7 ⟨rfl, hw7⟩
          have HF := Lib.hid (below_heads HB2.out (pw_below_drewN HA5.out _) hw7)
          clear hw7
          go_wp2
          go_ret
          exact ⟨rfl, HF.out⟩
      · go_wp2_with fail
        refine (HXX.out _ HA4.out).mono ?_
        rintro e w8 ⟨rfl, hw8⟩
        have HA8 := Lib.hid (HA4.out.trans (hw8.mono HA4.out.size))
        have hb8 := Lib.hid ((hw8.block _ (blk_lt hb4.out)).trans hb4.out)
        have u0_8 : w8.cell? ⟨w2.heap.size, 0, none⟩ = some (.slice B1 Q.pr.length d1) := (blk_cell hb8.out 0).trans rfl
        have u1_8 : w8.cell? ⟨w2.heap.size, 1, none⟩ = some (.slice B2 Q.ob.length d2) := (blk_cell hb8.out 1).trans rfl
        have u2_8 : w8.cell? ⟨w2.heap.size, 2, none⟩ = some (.slice (some ad) Q.cl.length d3) := (blk_cell hb8.out 2).trans rfl
        clear hw8 HA4 hb4 u0_4 u1_4 u2_4
        go_wp2_with fail
        refine ((bef_yx HBF HFA.out HX.out).out _ HA8.out).mono ?_
        rintro e w9 ⟨rfl, hw9⟩
        have HA9 := Lib.hid (HA8.out.trans (hw9.mono HA8.out.size))
        have hb9 := Lib.hid ((hw9.block _ (blk_lt hb8.out)).trans hb8.out)
        have u0_9 : w9.cell? ⟨w2.heap.size, 0, none⟩ = some (.slice B1 Q.pr.length d1) := (blk_cell hb9.out 0).trans rfl
        have u1_9 : w9.cell? ⟨w2.heap.size, 1, none⟩ = some (.slice B2 Q.ob.length d2) := (blk_cell hb9.out 1).trans rfl
        have u2_9 : w9.cell? ⟨w2.heap.size, 2, none⟩ = some (.slice (some ad) Q.cl.length d3) := (blk_cell hb9.out 2).trans rfl
        clear hw9 HA8 hb8 u0_8 u1_8 u2_8
        go_wp2_with fail
        refine (HYZ.out _ HA9.out).mono ?_
        rintro e w10 ⟨rfl, hw10⟩
        have HA10 := Lib.hid (HA9.out.trans (hw10.mono HA9.out.size))
        have hb10 := Lib.hid ((hw10.block _ (blk_lt hb9.out)).trans hb9.out)
        have u0_10 : w10.cell? ⟨w2.heap.size, 0, none⟩ = some (.slice B1 Q.pr.length d1) := (blk_cell hb10.out 0).trans rfl
        have u1_10 : w10.cell? ⟨w2.heap.size, 1, none⟩ = some (.slice B2 Q.ob.length d2) := (blk_cell hb10.out 1).trans rfl
        have u2_10 : w10.cell? ⟨w2.heap.size, 2, none⟩ = some (.slice (some ad) Q.cl.length d3) := (blk_cell hb10.out 2).trans rfl
        clear hw10 HA9 hb9 u0_9 u1_9 u2_9
        cases y
        · cases p
          · go_wp2_with fail
            by_cases hlt : xa < xb
            · obtain ⟨bd, _, _, _, _, hbd, y0, _⟩ := at_T50 (HRD.out.below HA10.out).cl xa HXA.out.1 HXA.out.2
              cases hbd
              obtain ⟨bd, _, _, _, _, hbd, z0, _⟩ := at_T50 (HRD.out.below HA10.out).cl xb HXB.out.1 HXB.out.2
              cases hbd
              obtain ⟨fa, hfa⟩ : ∃ f, f = (rd_T50 Q.cl xa).f0 := ⟨_, rfl⟩
              obtain ⟨fb, hfb⟩ : ∃ f, f = (rd_T50 Q.cl xb).f0 := ⟨_, rfl⟩
              rw [← hfa] at y0
              rw [← hfb] at z0
              have g1 := HXA.out.1
              have g2 := HXA.out.2
              have g3 := HXB.out.1
              have g4 := HXB.out.2
              clear hfa hfb
              rcases hne : (fa == fb) with _ | _
              · go_quiet (fail)
                go_wp2_with fail
                refine (heads_any _).mono ?_
                rintro e w11 ⟨rfl, hw11⟩
                have HF := Lib.hid (below_heads HB2.out (pw_below_drewN HA10.out _) hw11)
                clear hw11
                go_wp2
                go_ret
                exact ⟨rfl, HF.out⟩
              · go_quiet (fail)
                go_wp2_with fail
                refine (heads_any _).mono ?_
                rintro e w12 ⟨rfl, hw12⟩
                have HF := Lib.hid (below_heads HB2.out (pw_below_drewN HA10.out _) hw12)
                clear hw12
                go_wp2
                go_ret
                exact ⟨rfl, HF.out⟩
            · have hlt' : decide (xa < xb) = false := decide_eq_false hlt
              clear hlt
              go_quiet (fail)
              go_wp2_with fail
              refine (heads_any _).mono ?_
              rintro e w13 ⟨rfl, hw13⟩
              have HF := Lib.hid (below_heads HB2.out (pw_below_drewN HA10.out _) hw13)
              clear hw13
              go_wp2
              go_ret
              exact ⟨rfl, HF.out⟩
          · go_wp2_with fail
            refine ((bef_xz HBF HFA.out HX.out HP.out).out _ HA10.out).mono ?_
            rintro e w14 ⟨rfl, hw14⟩
            have HA14 := Lib.hid (HA10.out.trans (hw14.mono HA10.out.size))
            have hb14 := Lib.hid ((hw14.block _ (blk_lt hb10.out)).trans hb10.out)
            have u0_14 : w14.cell? ⟨w2.heap.size, 0, none⟩ = some (.slice B1 Q.pr.length d1) := (blk_cell hb14.out 0).trans rfl
            have u1_14 : w14.cell? ⟨w2.heap.size, 1, none⟩ = some (.slice B2 Q.ob.length d2) := (blk_cell hb14.out 1).trans rfl
            have u2_14 : w14.cell? ⟨w2.heap.size, 2, none⟩ = some (.slice (some ad) Q.cl.length d3) := (blk_cell hb14.out 2).trans rfl
            clear hw14 HA10 hb10 u0_10 u1_10 u2_10
            go_wp2_with fail
            by_cases hlt : xa < xb
            · obtain ⟨bd, _, _, _, _, hbd, y0, _⟩ := at_T50 (HRD.out.below HA14.out).cl xa HXA.out.1 HXA.out.2
              cases hbd
              obtain ⟨bd, _, _, _, _, hbd, z0, _⟩ := at_T50 (HRD.out.below HA14.out).cl xb HXB.out.1 HXB.out.2
              cases hbd
              obtain ⟨fa, hfa⟩ : ∃ f, f = (rd_T50 Q.cl xa).f0 := ⟨_, rfl⟩
              obtain ⟨fb, hfb⟩ : ∃ f, f = (rd_T50 Q.cl xb).f0 := ⟨_, rfl⟩
              rw [← hfa] at y0
              rw [← hfb] at z0
              have g1 := HXA.out.1
              have g2 := HXA.out.2
              have g3 := HXB.out.1
              have g4 := HXB.out.2
              clear hfa hfb
              rcases hne : (fa == fb) with _ | _
              · go_quiet (fail)
                go_wp2_with fail
                refine (heads_any _).mono ?_
                rintro e w15 ⟨rfl, hw15⟩
                have HF := Lib.hid (below_heads HB2.out (pw_below_drewN HA14.out _) hw15)
                clear hw15
                go_wp2
                go_ret
                exact ⟨rfl, HF.out⟩
              · go_quiet (fail)
                go_wp2_with fail
                refine (heads_any _).mono ?_
                rintro e w16 ⟨rfl, hw16⟩
                have HF := Lib.hid (below_heads HB2.out (pw_below_drewN HA14.out _) hw16)
                clear hw16
                go_wp2
                go_ret
                exact ⟨rfl, HF.out⟩
            · have hlt' : decide (xa < xb) = false := decide_eq_false hlt
              clear hlt
              go_quiet (fail)
              go_wp2_with fail
              refine (heads_any _).mono ?_
              rintro e w17 ⟨rfl, hw17⟩
              have HF := Lib.hid (below_heads HB2.out (pw_below_drewN HA14.out _) hw17)
              clear hw17
              go_wp2
              go_ret
              exact ⟨rfl, HF.out⟩
        · cases p
          · go_wp2_with fail
            refine (HXW.out _ HA10.out).mono ?_
            rintro e w18 ⟨rfl, hw18⟩
            have HA18 := Lib.hid (HA10.out.trans (hw18.mono HA10.out.size))
            have hb18 := Lib.hid ((hw18.block _ (blk_lt hb10.out)).trans hb10.out)
            have u0_18 : w18.cell? ⟨w2.heap.size, 0, none⟩ = some (.slice B1 Q.pr.length d1) := (blk_cell hb18.out 0).trans rfl
            have u1_18 : w18.cell? ⟨w2.heap.size, 1, none⟩ = some (.slice B2 Q.ob.length d2) := (blk_cell hb18.out 1).trans rfl
            have u2_18 : w18.cell? ⟨w2.heap.size, 2, none⟩ = some (.slice (some ad) Q.cl.length d3) := (blk_cell hb18.out 2).trans rfl
            clear hw18 HA10 hb10 u0_10 u1_10 u2_10
            cases q
            · go_wp2_with fail
              refine ((bef_no HBF HX.out HY.out HQ.out).out _ HA18.out).mono ?_
              rintro e w19 ⟨rfl, hw19⟩
              have HA19 := Lib.hid (HA18.out.trans (hw19.mono HA18.out.size))
              have hb19 := Lib.hid ((hw19.block _ (blk_lt hb18.out)).trans hb18.out)
              have u0_19 : w19.cell? ⟨w2.heap.size, 0, none⟩ = some (.slice B1 Q.pr.length d1) := (blk_cell hb19.out 0).trans rfl
              have u1_19 : w19.cell? ⟨w2.heap.size, 1, none⟩ = some (.slice B2 Q.ob.length d2) := (blk_cell hb19.out 1).trans rfl
              have u2_19 : w19.cell? ⟨w2.heap.size, 2, none⟩ = some (.slice (some ad) Q.cl.length d3) := (blk_cell hb19.out 2).trans rfl
              clear hw19 HA18 hb18 u0_18 u1_18 u2_18
              go_wp2_with fail
              by_cases hlt : xa < xb
              · obtain ⟨bd, _, _, _, _, hbd, y0, _⟩ := at_T50 (HRD.out.below HA19.out).cl xa HXA.out.1 HXA.out.2
                cases hbd
                obtain ⟨bd, _, _, _, _, hbd, z0, _⟩ := at_T50 (HRD.out.below HA19.out).cl xb HXB.out.1 HXB.out.2
                cases hbd
                obtain ⟨fa, hfa⟩ : ∃ f, f = (rd_T50 Q.cl xa).f0 := ⟨_, rfl⟩
                obtain ⟨fb, hfb⟩ : ∃ f, f = (rd_T50 Q.cl xb).f0 := ⟨_, rfl⟩
                rw [← hfa] at y0
                rw [← hfb] at z0
                have g1 := HXA.out.1
                have g2 := HXA.out.2
                have g3 := HXB.out.1
                have g4 := HXB.out.2
                clear hfa hfb
                rcases hne : (fa == fb) with _ | _
                · go_quiet (fail)
                  go_wp2_with fail
                  refine (heads_any _).mono ?_
                  rintro e w20 ⟨rfl, hw20⟩
                  have HF := Lib.hid (below_heads HB2.out (pw_below_drewN HA19.out _) hw20)
                  clear hw20
                  go_wp2
                  go_ret
                  exact ⟨rfl, HF.out⟩
                · go_quiet (fail)
                  go_wp2_with fail
                  refine (heads_any _).mono ?_
                  rintro e w21 ⟨rfl, hw21⟩
                  have HF := Lib.hid (below_heads HB2.out (pw_below_drewN HA19.out _) hw21)
                  clear hw21
                  go_wp2
                  go_ret
                  exact ⟨rfl, HF.out⟩
              · have hlt' : decide (xa < xb) = false := decide_eq_false hlt
                clear hlt
                go_quiet (fail)
                go_wp2_with fail
                refine (heads_any _).mono ?_
                rintro e w22 ⟨rfl, hw22⟩
                have HF := Lib.hid (below_heads HB2.out (pw_below_drewN HA19.out _) hw22)
                clear hw22
                go_wp2
                go_ret
                exact ⟨rfl, HF.out⟩
            · go_wp2_with fail
              by_cases hlt : xa < xb
              · obtain ⟨bd, _, _, _, _, hbd, y0, _⟩ := at_T50 (HRD.out.below HA18.out).cl xa HXA.out.1 HXA.out.2
                cases hbd
                obtain ⟨bd, _, _, _, _, hbd, z0, _⟩ := at_T50 (HRD.out.below HA18.out).cl xb HXB.out.1 HXB.out.2
                cases hbd
                obtain ⟨fa, hfa⟩ : ∃ f, f = (rd_T50 Q.cl xa).f0 := ⟨_, rfl⟩
                obtain ⟨fb, hfb⟩ : ∃ f, f = (rd_T50 Q.cl xb).f0 := ⟨_, rfl⟩
                rw [← hfa] at y0
                rw [← hfb] at z0
                have g1 := HXA.out.1
                have g2 := HXA.out.2
                have g3 := HXB.out.1
                have g4 := HXB.out.2
                clear hfa hfb
                rcases hne : (fa == fb) with _ | _
                · go_quiet (fail)
                  go_wp2_with fail
                  refine (heads_any _).mono ?_
                  rintro e w23 ⟨rfl, hw23⟩
                  have HF := Lib.hid (below_heads HB2.out (pw_below_drewN HA18.out _) hw23)
                  clear hw23
                  go_wp2
                  go_ret
                  exact ⟨rfl, HF.out⟩
                · go_quiet (fail)
                  go_wp2_with fail
                  refine (heads_any _).mono ?_
                  rintro e w24 ⟨rfl, hw24⟩
                  have HF := Lib.hid (below_heads HB2.out (pw_below_drewN HA18.out _) hw24)
                  clear hw24
                  go_wp2
                  go_ret
                  exact ⟨rfl, HF.out⟩
              · have hlt' : decide (xa < xb) = false := decide_eq_false hlt
                clear hlt
                go_quiet (fail)
                go_wp2_with fail
                refine (heads_any _).mono ?_
                rintro e w25 ⟨rfl, hw25⟩
                have HF := Lib.hid (below_heads HB2.out (pw_below_drewN HA18.out _) hw25)
                clear hw25
                go_wp2
                go_ret
                exact ⟨rfl, HF.out⟩
          · go_wp2_with fail
            refine ((bef_xz HBF HFA.out HX.out HP.out).out _ HA10.out).mono ?_
            rintro e w26 ⟨rfl, hw26⟩
            have HA26 := Lib.hid (HA10.out.trans (hw26.mono HA10.out.size))
            have hb26 := Lib.hid ((hw26.block _ (blk_lt hb10.out)).trans hb10.out)
            have u0_26 : w26.cell? ⟨w2.heap.size, 0, none⟩ = some (.slice B1 Q.pr.length d1) := (blk_cell hb26.out 0).trans rfl
            have u1_26 : w26.cell? ⟨w2.heap.size, 1, none⟩ = some (.slice B2 Q.ob.length d2) := (blk_cell hb26.out 1).trans rfl
            have u2_26 : w26.cell? ⟨w2.heap.size, 2, none⟩ = some (.slice (some ad) Q.cl.length d3) := (blk_cell hb26.out 2).trans rfl
            clear hw26 HA10 hb10 u0_10 u1_10 u2_10
            go_wp2_with fail
            refine (HXW.out _ HA26.out).mono ?_
            rintro e w27 ⟨rfl, hw27⟩
            have HA27 := Lib.hid (HA26.out.trans (hw27.mono HA26.out.size))
            have hb27 := Lib.hid ((hw27.block _ (blk_lt hb26.out)).trans hb26.out)
            have u0_27 : w27.cell? ⟨w2.heap.size, 0, none⟩ = some (.slice B1 Q.pr.length d1) := (blk_cell hb27.out 0).trans rfl
            have u1_27 : w27.cell? ⟨w2.heap.size, 1, none⟩ = some (.slice B2 Q.ob.length d2) := (blk_cell hb27.out 1).trans rfl
            have u2_27 : w27.cell? ⟨w2.heap.size, 2, none⟩ = some (.slice (some ad) Q.cl.length d3) := (blk_cell hb27.out 2).trans rfl
            clear hw27 HA26 hb26 u0_26 u1_26 u2_26
            cases q
            · go_wp2_with fail
              refine ((bef_no HBF HX.out HY.out HQ.out).out _ HA27.out).mono ?_
              rintro e w28 ⟨rfl, hw28⟩
              have HA28 := Lib.hid (HA27.out.trans (hw28.mono HA27.out.size))
              have hb28 := Lib.hid ((hw28.block _ (blk_lt hb27.out)).trans hb27.out)
              have u0_28 : w28.cell? ⟨w2.heap.size, 0, none⟩ = some (.slice B1 Q.pr.length d1) := (blk_cell hb28.out 0).trans rfl
              have u1_28 : w28.cell? ⟨w2.heap.size, 1, none⟩ = some (.slice B2 Q.ob.length d2) := (blk_cell hb28.out 1).trans rfl
              have u2_28 : w28.cell? ⟨w2.heap.size, 2, none⟩ = some (.slice (some ad) Q.cl.length d3) := (blk_cell hb28.out 2).trans rfl
              clear hw28 HA27 hb27 u0_27 u1_27 u2_27
              go_wp2_with fail
              by_cases hlt : xa < xb
              · obtain ⟨bd, _, _, _, _, hbd, y0, _⟩ := at_T50 (HRD.out.below HA28.out).cl xa HXA.out.1 HXA.out.2
                cases hbd
                obtain ⟨bd, _, _, _, _, hbd, z0, _⟩ := at_T50 (HRD.out.below HA28.out).cl xb HXB.out.1 HXB.out.2
                cases hbd
                obtain ⟨fa, hfa⟩ : ∃ f, f = (rd_T50 Q.cl xa).f0 := ⟨_, rfl⟩
                obtain ⟨fb, hfb⟩ : ∃ f, f = (rd_T50 Q.cl xb).f0 := ⟨_, rfl⟩
                rw [← hfa] at y0
                rw [← hfb] at z0
                have g1 := HXA.out.1
                have g2 := HXA.out.2
                have g3 := HXB.out.1
                have g4 := HXB.out.2
                clear hfa hfb
                rcases hne : (fa == fb) with _ | _
                · go_quiet (fail)
                  go_wp2_with fail
                  refine (heads_any _).mono ?_
                  rintro e w29 ⟨rfl, hw29⟩
                  have HF := Lib.hid (below_heads HB2.out (pw_below_drewN HA28.out _) hw29)
                  clear hw29
                  go_wp2
                  go_ret
                  exact ⟨rfl, HF.out⟩
                · go_quiet (fail)
                  go_wp2_with fail
                  refine (heads_any _).mono ?_
                  rintro e w30 ⟨rfl, hw30⟩
                  have HF := Lib.hid (below_heads HB2.out (pw_below_drewN HA28.out _) hw30)
                  clear hw30
                  go_wp2
                  go_ret
                  exact ⟨rfl, HF.out⟩
              · have hlt' : decide (xa < xb) = false := decide_eq_false hlt
                clear hlt
                go_quiet (fail)
                go_wp2_with fail
                refine (heads_any _).mono ?_
                rintro e w31 ⟨rfl, hw31⟩
                have HF := Lib.hid (below_heads HB2.out (pw_below_drewN HA28.out _) hw31)
                clear hw31
                go_wp2
                go_ret
                exact ⟨rfl, HF.out⟩
            · go_wp2_with fail
              by_cases hlt : xa < xb
              · obtain ⟨bd, _, _, _, _, hbd, y0, _⟩ := at_T50 (HRD.out.below HA27.out).cl xa HXA.out.1 HXA.out.2
                cases hbd
                obtain ⟨bd, _, _, _, _, hbd, z0, _⟩ := at_T50 (HRD.out.below HA27.out).cl xb HXB.out.1 HXB.out.2
                cases hbd
                obtain ⟨fa, hfa⟩ : ∃ f, f = (rd_T50 Q.cl xa).f0 := ⟨_, rfl⟩
                obtain ⟨fb, hfb⟩ : ∃ f, f = (rd_T50 Q.cl xb).f0 := ⟨_, rfl⟩
                rw [← hfa] at y0
                rw [← hfb] at z0
                have g1 := HXA.out.1
                have g2 := HXA.out.2
                have g3 := HXB.out.1
                have g4 := HXB.out.2
                clear hfa hfb
                rcases hne : (fa == fb) with _ | _
                · go_quiet (fail)
                  go_wp2_with fail
                  refine (heads_any _).mono ?_
                  rintro e w32 ⟨rfl, hw32⟩
                  have HF := Lib.hid (below_heads HB2.out (pw_below_drewN HA27.out _) hw32)
                  clear hw32
                  go_wp2
                  go_ret
                  exact ⟨rfl, HF.out⟩
                · go_quiet (fail)
                  go_wp2_with fail
                  refine (heads_any _).mono ?_
                  rintro e w33 ⟨rfl, hw33⟩
                  have HF := Lib.hid (below_heads HB2.out (pw_below_drewN HA27.out _) hw33)
                  clear hw33
                  go_wp2
                  go_ret
                  exact ⟨rfl, HF.out⟩
              · have hlt' : decide (xa < xb) = false := decide_eq_false hlt
                clear hlt
                go_quiet (fail)
                go_wp2_with fail
                refine (heads_any _).mono ?_
                rintro e w34 ⟨rfl, hw34⟩
                have HF := Lib.hid (below_heads HB2.out (pw_below_drewN HA27.out _) hw34)
                clear hw34
                go_wp2
                go_ret
                exact ⟨rfl, HF.out⟩
  · have hc' : (mc != 0) = true := by rw [bne_iff_ne]; exact hc
    clear hc
    go_wp2_with fail
    refine (heads_any _).mono ?_
    rintro e w3 ⟨rfl, hw3⟩
    have HF := Lib.hid (HBB.out.trans (hw3.mono HBB.out.size))
    clear hw3
    go_wp2
    go_ret
    exact ⟨rfl, HF.out⟩
end Go.Proofs.Ytofinglgnkdflaa
end
