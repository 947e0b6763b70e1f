/- Plain: the reference's Make is the program's. -/
import Derived.Test.YtofinglgnkdflaaLQp
import Derived.Test.YtofinglgnkdflaaLOi
namespace Go.Proofs.Ytofinglgnkdflaa
open Go.RowKit
open Go.Proofs.Ytofinglgnkdflaa.PHistoryChecks Go.Proofs.YtofinglgnkdflaaW.PrintWords Go.Proofs.YtofinglgnkdflaaW.PrintLast Go.Proofs.YtofinglgnkdflaaW.PrintMore
set_option linter.unusedVariables false
set_option linter.unusedSimpArgs false
theorem ix_idx (s : ByteArray) : ∀ (l : List ByteArray) (n : Int), ixFrom s l n = (idxF s n l).getD (-1)
  | [], _ => rfl
  | x :: l, n => by
    simp only [ixFrom, idxF]
    by_cases h : x = s
    · rw [if_pos h, if_pos (by rw [h]; simp)]; rfl
    · rw [if_neg h, if_neg (by rw [beq_iff_eq]; intro hh; exact h (ba_ext hh).symm), ix_idx s l (n + 1)]
theorem ix_some {l : List ByteArray} {s : ByteArray} {k : Int} (h : idxS l s = some k) : ixFrom s l 0 = k := by
  rw [ix_idx]; unfold idxS at h; rw [h]; rfl
theorem ix_none {l : List ByteArray} {s : ByteArray} (h : idxS l s = none) : ixFrom s l 0 = -1 := by
  rw [ix_idx]; unfold idxS at h; rw [h]; rfl
theorem opn_some (l : List S50) (p : Int) : ∀ k : Nat, 0 ≤ opnTo l p k → opnTo l p k < (k : Int) ∧ (rd_T50 l (opnTo l p k)).f0 = p ∧ (rd_T50 l (opnTo l p k)).f5 < 0
  | 0, h => by simp [opnTo] at h
  | k + 1, h => by
    simp only [opnTo] at h ⊢
    by_cases h1 : (rd_T50 l (k : Int)).f0 = p
    · rw [if_pos h1] at h ⊢
      by_cases h2 : (rd_T50 l (k : Int)).f5 < 0
      · rw [if_pos h2]; exact ⟨by omega, h1, h2⟩
      · rw [if_neg h2] at h; omega
    · rw [if_neg h1] at h ⊢
      have := opn_some l p k h
      exact ⟨by omega, this.2⟩
theorem opn_of (l : List S50) (p : Int) (j : Nat) (h0 : (rd_T50 l (j : Int)).f0 = p) (h5 : (rd_T50 l (j : Int)).f5 < 0) : ∀ k : Nat, j < k → (∀ i : Nat, j < i → i < k → (rd_T50 l (i : Int)).f0 ≠ p) → opnTo l p k = (j : Int)
  | 0, h, _ => absurd h (Nat.not_lt_zero _)
  | k + 1, h, hn => by
    simp only [opnTo]
    by_cases e : j = k
    · subst e; rw [if_pos h0, if_pos h5]
    · rw [if_neg (hn k (by omega) (by omega))]
      exact opn_of l p j h0 h5 k (by omega) (fun i h1 h2 => hn i h1 (by omega))
theorem get_rdI (l : List S50) (a : Nat) (h : a < l.length) : l[a]? = some (rd_T50 l (a : Int)) := by
  unfold rd_T50; rw [Int.toNat_natCast, List.getD_eq_getElem?_getD, List.getElem?_eq_getElem h]; rfl
theorem op_both {s : St} {t : Int} (h : Inv s t) (n : ByteArray) :
    (∃ k, s.op n = some k ∧ 0 ≤ ixFrom n s.pr 0 ∧ 0 ≤ k ∧ opnF s.cl (ixFrom n s.pr 0) = k) ∨ (s.op n = none ∧ (ixFrom n s.pr 0 < 0 ∨ opnF s.cl (ixFrom n s.pr 0) < 0)) := by
  rcases ho : s.op n with _ | k
  · refine .inr ⟨rfl, ?_⟩
    rcases hx : idxS s.pr n with _ | p
    · exact .inl (by rw [ix_none hx]; decide)
    · refine .inr ?_
      rw [ix_some hx]
      rcases Int.lt_or_le (opnF s.cl p) 0 with h1 | h1
      · exact h1
      · exfalso
        unfold opnF at h1
        obtain ⟨h2, h3, h4⟩ := opn_some s.cl p _ h1
        obtain ⟨j, hj⟩ : ∃ j : Nat, opnTo s.cl p s.cl.length = (j : Int) := ⟨(opnTo s.cl p s.cl.length).toNat, by omega⟩
        rw [hj] at h2 h3 h4
        have hg := get_rdI s.cl j (by omega)
        have ha := h.a j _ hg
        obtain ⟨m, hm, hop⟩ := h.d j _ hg (by omega)
        rw [h3] at hm
        have := idxS_inj hm hx
        subst this
        rw [ho] at hop; cases hop
  · obtain ⟨c, hk0, hk, h5, hi⟩ := h.c n k ho
    refine .inl ⟨k, rfl, ?_, hk0, ?_⟩
    · rw [ix_some hi]; exact (idxS_lt hi).1
    · rw [ix_some hi]
      have hkl : k.toNat < s.cl.length := (List.getElem?_eq_some_iff.1 hk).1
      have hrd : rd_T50 s.cl (k.toNat : Int) = c := by unfold rd_T50; rw [Int.toNat_natCast, List.getD_eq_getElem?_getD, hk]; rfl
      unfold opnF
      rw [opn_of s.cl c.f0 k.toNat (by rw [hrd]) (by rw [hrd]; omega) s.cl.length hkl (fun i h1 h2 he => ?_)]
      · omega
      · have hg := get_rdI s.cl i (by omega)
        have := (h.b k.toNat i c _ h1 hk hg).2 he.symm
        omega
theorem num_both (L : List ByteArray) (k : ByteArray) : numL L k = (if ixFrom k L 0 < 0 then L ++ [k] else L) ∧ numI L k = (if ixFrom k L 0 < 0 then (L.length : Int) else ixFrom k L 0) := by
  unfold numL numI
  rcases h : idxS L k with _ | v
  · rw [ix_none h]; exact ⟨rfl, rfl⟩
  · rw [ix_some h, if_neg (show ¬ v < 0 from by have := idxS_lt h; omega), if_neg (show ¬ v < 0 from by have := idxS_lt h; omega)]; exact ⟨rfl, rfl⟩
theorem lg_app (j : Int) (c : S50) (hc : j < c.f4) : ∀ (l : List S50) (s : Lg), lgGo j (l ++ [c]) s = lgGo j l s
  | [], s => by simp only [List.nil_append, lgGo]; rw [if_neg (by omega)]
  | x :: l, s => by simp only [List.cons_append, lgGo]; rw [lg_app j c hc l]
theorem lg_set (j : Int) (x y : S50) (h4 : y.f4 = x.f4) (h0 : y.f0 = x.f0) (h5 : (y.f5 < 0 ∨ j < y.f5) ↔ (x.f5 < 0 ∨ j < x.f5)) : ∀ (l : List S50) (k : Nat) (s : Lg), l[k]? = some x → lgGo j (l.set k y) s = lgGo j l s
  | [], _, _, h => by simp at h
  | z :: l, 0, s, h => by
    simp at h; subst h
    simp only [List.set_cons_zero, lgGo]
    have e : lgStep j s y = lgStep j s z := by
      unfold lgStep
      rw [h0]
      by_cases h6 : z.f5 < 0 ∨ j < z.f5
      · rw [if_pos h6, if_pos (h5.2 h6)]
      · rw [if_neg h6, if_neg (fun hh => h6 (h5.1 hh))]
    rw [h4, e]
  | z :: l, k + 1, s, h => by
    simp only [List.set_cons_succ, lgGo]
    rw [lg_set j x y h4 h0 h5 l k _ (by simpa using h)]
def mxP : List S50 → Int → Int
  | [], m => m
  | x :: l, m => mxP l (max m (x.f0 + 1))
def cntO : List S50 → Int
  | [] => 0
  | x :: l => (if x.f5 < 0 then 1 else 0) + cntO l
theorem lg_all (t : Int) : ∀ (l : List S50) (s : Lg), (∀ x ∈ l, x.f4 ≤ t ∧ x.f5 ≤ t) → lgGo t l s = ⟨s.c + l.length, mxP l s.p, s.w + cntO l⟩
  | [], s, _ => by simp [lgGo, mxP, cntO]
  | x :: l, s, h => by
    have hx := h x (List.mem_cons_self ..)
    simp only [lgGo, mxP, cntO]
    rw [if_pos hx.1, lg_all t l _ (fun y hy => h y (List.mem_cons_of_mem _ hy))]
    unfold lgStep
    simp only [List.length_cons]
    by_cases h5 : x.f5 < 0
    · rw [if_pos (.inl h5), if_pos h5]; congr 1 <;> omega
    · rw [if_neg (by omega), if_neg h5]; congr 1 <;> omega
theorem mxP_app (c : S50) : ∀ (l : List S50) (m : Int), mxP (l ++ [c]) m = max (mxP l m) (c.f0 + 1)
  | [], _ => rfl
  | x :: l, m => by simp only [List.cons_append, mxP]; exact mxP_app c l _
theorem mxP_set (x y : S50) (h0 : y.f0 = x.f0) : ∀ (l : List S50) (k : Nat) (m : Int), l[k]? = some x → mxP (l.set k y) m = mxP l m
  | [], _, _, h => by simp at h
  | z :: l, 0, m, h => by simp at h; subst h; simp only [List.set_cons_zero, mxP]; rw [h0]
  | z :: l, k + 1, m, h => by simp only [List.set_cons_succ, mxP]; exact mxP_set x y h0 l k _ (by simpa using h)
theorem cntO_app (c : S50) (hc : c.f5 < 0) : ∀ l : List S50, cntO (l ++ [c]) = cntO l + 1
  | [] => by simp [cntO, hc]
  | x :: l => by simp only [List.cons_append, cntO]; rw [cntO_app c hc l]; omega
theorem cntO_set (x y : S50) (h5 : x.f5 < 0) (h6 : ¬ y.f5 < 0) : ∀ (l : List S50) (k : Nat), l[k]? = some x → cntO (l.set k y) = cntO l - 1
  | [], _, h => by simp at h
  | z :: l, 0, h => by simp at h; subst h; simp only [List.set_cons_zero, cntO]; rw [if_pos h5, if_neg h6]; omega
  | z :: l, k + 1, h => by simp only [List.set_cons_succ, cntO]; rw [cntO_set x y h5 h6 l k (by simpa using h)]; omega
theorem cntO_pos (x : S50) (h5 : x.f5 < 0) : ∀ (l : List S50) (k : Nat), l[k]? = some x → 1 ≤ cntO l
  | [], _, h => by simp at h
  | z :: l, k, h => by
    have hn : ∀ l : List S50, 0 ≤ cntO l := fun l => by
      induction l with
      | nil => exact Int.le_refl _
      | cons a l ih => simp only [cntO]; split <;> omega
    cases k with
    | zero => simp at h; subst h; simp only [cntO]; rw [if_pos h5]; have := hn l; omega
    | succ k =>
      simp only [cntO]
      have := cntO_pos x h5 l k (by simpa using h)
      split <;> omega
structure Inv2 (s : St) (t : Int) : Prop where
  m : mxP s.cl 0 = (s.pr.length : Int)
  o : cntO s.cl = (s.on : Int)
  l : (s.lg < 0 ∧ ∀ j : Int, 0 ≤ j → j < t → largeF s.cl j = false) ∨ (0 ≤ s.lg ∧ s.lg < t ∧ largeF s.cl s.lg = true ∧ ∀ j : Int, 0 ≤ j → j < s.lg → largeF s.cl j = false)
theorem inv2_0 : Inv2 st0 0 := ⟨rfl, rfl, .inl ⟨by decide, fun j h0 h1 => by omega⟩⟩
theorem calls_le {s : St} {t : Int} (h : Inv s t) : ∀ x ∈ s.cl, x.f4 ≤ t - 1 ∧ x.f5 ≤ t - 1 := fun x hx => by
  obtain ⟨i, hi⟩ := List.mem_iff_getElem?.1 hx
  have := h.a i x hi
  have := h.t0
  omega
theorem large_now {s : St} {t : Int} {l : List S50} (h : ∀ x ∈ l, x.f4 ≤ t ∧ x.f5 ≤ t) : largeF l t = (decide (4096 < (l.length : Int)) || (decide (64 < mxP l 0) || decide (10 < cntO l))) := by
  unfold largeF
  rw [lg_all t l _ h]
  unfold lgB
  simp only [Int.zero_add]
theorem inv2_inv {s : St} {t : Int} {e : S47} (h : Inv s t) (h2 : Inv2 s t) (ho : s.op e.f1 = none) : Inv2 (stInv s t e) (t + 1) := by
  have hI := inv_inv h ho
  have ht := h.t0
  have hlen : ((numL s.pr e.f1).length : Int) = max (s.pr.length : Int) (numI s.pr e.f1 + 1) := by
    obtain ⟨e1, e2⟩ := num_both s.pr e.f1
    have hb := ixFrom_bound e.f1 s.pr
    rw [e1, e2]
    split
    · rw [List.length_append]; simp only [List.length_cons, List.length_nil]; omega
    · omega
  have hkeep : ∀ j : Int, j < t → largeF (stInv s t e).cl j = largeF s.cl j := fun j hj => by
    unfold largeF stInv
    simp only
    rw [lg_app j (newCall s t e) (by show j < t; exact hj)]
  have hnow : largeF (stInv s t e).cl t = (decide (4096 < ((s.cl.length + 1 : Nat) : Int)) || (decide (64 < ((numL s.pr e.f1).length : Int)) || decide (10 < ((s.on + 1 : Nat) : Int)))) := by
    rw [large_now (s := s) (fun x hx => by have := calls_le hI x hx; omega)]
    unfold stInv
    simp only
    rw [mxP_app, cntO_app _ (by show (-1 : Int) < 0; decide), h2.m, h2.o, List.length_append, hlen]
    rfl
  refine ⟨?_, ?_, ?_⟩
  · unfold stInv; simp only; rw [mxP_app, h2.m, hlen]; rfl
  · unfold stInv; simp only; rw [cntO_app _ (by show (-1 : Int) < 0; decide), h2.o]; omega
  · rcases h2.l with ⟨hl, hj⟩ | ⟨h0, h1, h3, h4⟩
    · by_cases hc : 64 < (numL s.pr e.f1).length ∨ 4096 < s.cl.length + 1 ∨ 10 < s.on + 1
      · have e1 : (stInv s t e).lg = t := by show (if _ then _ else _) = _; rw [if_pos ⟨hl, hc⟩]
        rw [e1]
        refine .inr ⟨ht, by omega, ?_, fun j h0 h1 => by rw [hkeep j h1]; exact hj j h0 h1⟩
        rw [hnow, Bool.or_eq_true, Bool.or_eq_true, decide_eq_true_eq, decide_eq_true_eq, decide_eq_true_eq]
        omega
      · have e1 : (stInv s t e).lg = s.lg := by show (if _ then _ else _) = _; rw [if_neg (fun hh => hc hh.2)]
        rw [e1]
        refine .inl ⟨hl, fun j h0 h1 => ?_⟩
        by_cases hjt : j = t
        · rw [hjt, hnow, Bool.or_eq_false_iff, Bool.or_eq_false_iff, decide_eq_false_iff_not, decide_eq_false_iff_not, decide_eq_false_iff_not]
          omega
        · rw [hkeep j (by omega)]; exact hj j h0 (by omega)
    · have e1 : (stInv s t e).lg = s.lg := by show (if _ then _ else _) = _; rw [if_neg (fun hh => by omega)]
      rw [e1]
      exact .inr ⟨h0, by omega, by rw [hkeep _ h1]; exact h3, fun j h5 h6 => by rw [hkeep j (by omega)]; exact h4 j h5 h6⟩
theorem inv2_res {s : St} {t : Int} {e : S47} {k : Int} (h : Inv s t) (h2 : Inv2 s t) (ho : s.op e.f1 = some k) : Inv2 (stRes s t e k) (t + 1) := by
  have hI := inv_res h ho
  have ht := h.t0
  obtain ⟨c0, hk0, hk, h5, hi⟩ := h.c e.f1 k ho
  have hrd : rd_T50 s.cl k = c0 := by unfold rd_T50; rw [List.getD_eq_getElem?_getD, hk]; rfl
  have hcl : (stRes s t e k).cl = s.cl.set k.toNat { c0 with f5 := t, f6 := e.f4 } := by show setRes s.cl k t e.f4 = _; unfold setRes; rw [hrd]
  have hpos := cntO_pos c0 (by omega) s.cl k.toNat hk
  have hkeep : ∀ j : Int, j < t → largeF (stRes s t e k).cl j = largeF s.cl j := fun j hj => by
    rw [hcl]; unfold largeF
    rw [lg_set j c0 { c0 with f5 := t, f6 := e.f4 } rfl rfl (by show (t < 0 ∨ j < t) ↔ _; rw [h5]; exact ⟨fun _ => .inl (by decide), fun _ => .inr hj⟩) s.cl k.toNat _ hk]
  have hm : mxP (stRes s t e k).cl 0 = mxP s.cl 0 := by rw [hcl, mxP_set c0 { c0 with f5 := t, f6 := e.f4 } rfl s.cl k.toNat 0 hk]
  have hc : cntO (stRes s t e k).cl = cntO s.cl - 1 := by rw [hcl, cntO_set c0 { c0 with f5 := t, f6 := e.f4 } (by omega) (by show ¬ t < 0; omega) s.cl k.toNat hk]
  refine ⟨?_, ?_, ?_⟩
  · rw [hm, h2.m]; rfl
  · rw [hc, h2.o]
    have := h2.o
    show _ = ((s.on - 1 : Nat) : Int)
    omega
  · show (s.lg < 0 ∧ _) ∨ _
    rcases h2.l with ⟨hl, hj⟩ | ⟨h0, h1, h3, h4⟩
    · refine .inl ⟨hl, fun j h0 h1 => ?_⟩
      by_cases hjt : j = t
      · have hp := (h.a k.toNat c0 hk)
        have hb := hj (t - 1) (by omega) (by omega)
        rw [large_now (s := s) (calls_le h), Bool.or_eq_false_iff, Bool.or_eq_false_iff, decide_eq_false_iff_not, decide_eq_false_iff_not, decide_eq_false_iff_not] at hb
        rw [hjt, large_now (s := s) (fun x hx => by have := calls_le hI x hx; omega), hm, hc, hcl, List.length_set, Bool.or_eq_false_iff, Bool.or_eq_false_iff, decide_eq_false_iff_not, decide_eq_false_iff_not, decide_eq_false_iff_not]
        omega
      · rw [hkeep j (by omega)]; exact hj j h0 (by omega)
    · exact .inr ⟨h0, by show s.lg < t + 1; omega, by show largeF _ s.lg = true; rw [hkeep _ h1]; exact h3, fun j h6 h7 => by rw [hkeep j (by have : j < s.lg := h7; omega)]; exact h4 j h6 h7⟩
theorem sim_go (l : List S47) : ∀ (t : Int) (s : St), Inv s t → Inv2 s t →
    (∃ a c, mkGo l t s = .bad a c ∧ rgoE l t ⟨s.pr, s.ob, s.cl⟩ = .bad a c) ∨ (∃ r, mkGo l t s = .go r ∧ rgoE l t ⟨s.pr, s.ob, s.cl⟩ = .ok ⟨r.pr, r.ob, r.cl⟩ ∧ Inv2 r (t + l.length)) := by
  induction l with
  | nil => intro t s h h2; exact .inr ⟨s, rfl, rfl, by simpa using h2⟩
  | cons e l ih =>
    intro t s h h2
    simp only [mkGo, rgoE]
    unfold mkStep
    cases hr : rightE e with
    | false => rw [if_pos rfl, if_neg (by decide)]; exact .inl ⟨t, 2, rfl, rfl⟩
    | true =>
      rw [if_neg (by decide), if_pos rfl]
      have h12 : e.f0 = 1 ∨ e.f0 = 2 := by
        unfold rightE tailE at hr
        by_cases h1 : e.f0 = 1
        · exact .inl h1
        · by_cases h3 : e.f0 = 2
          · exact .inr h3
          · rw [if_neg h1, if_neg h3] at hr; simp at hr
      have hlen : t + ((e :: l).length : Int) = t + 1 + (l.length : Int) := by simp only [List.length_cons]; omega
      rw [hlen]
      rcases op_both h e.f1 with ⟨k, ho, hx, hk, hop⟩ | ⟨ho, hno⟩
      · rw [ho]
        simp only
        by_cases h1 : e.f0 = 1
        · rw [if_pos h1]
          have hg : rgoodB ⟨s.pr, s.ob, s.cl⟩ e = false := by
            unfold rgoodB
            rw [if_neg (by omega), decide_eq_true h1]
            simp only [Bool.true_and]
            rw [Bool.or_eq_false_iff, decide_eq_false_iff_not, decide_eq_false_iff_not, hop]
            omega
          have hR : raddR ⟨s.pr, s.ob, s.cl⟩ e t = (⟨s.pr, s.ob, s.cl⟩, 71) := by unfold raddR; simp only [hg, Bool.false_eq_true, if_false]; rw [if_neg (show ¬ e.f0 = 2 by omega)]
          rw [hR]
          exact .inl ⟨t, 71, rfl, rfl⟩
        · have h3 : e.f0 = 2 := by omega
          rw [if_neg h1]
          have hg : rgoodB ⟨s.pr, s.ob, s.cl⟩ e = true := by
            unfold rgoodB
            rw [if_pos h3, Bool.and_eq_true, decide_eq_true_eq, decide_eq_true_eq, hop]
            exact ⟨hx, hk⟩
          have hR : raddR ⟨s.pr, s.ob, s.cl⟩ e t = (⟨(stRes s t e k).pr, (stRes s t e k).ob, (stRes s t e k).cl⟩, 0) := by
            unfold raddR raddP resP stRes
            rw [hg, if_pos rfl, if_pos h3, hop]
          rw [hR]
          simp only [if_true]
          exact ih (t + 1) _ (inv_res h ho) (inv2_res h h2 ho)
      · rw [ho]
        simp only
        by_cases h3 : e.f0 = 2
        · rw [if_pos h3]
          have hg : rgoodB ⟨s.pr, s.ob, s.cl⟩ e = false := by
            unfold rgoodB
            rw [if_pos h3, Bool.and_eq_false_iff, decide_eq_false_iff_not, decide_eq_false_iff_not]
            simp only
            omega
          have hR : raddR ⟨s.pr, s.ob, s.cl⟩ e t = (⟨s.pr, s.ob, s.cl⟩, 70) := by unfold raddR; simp only [hg, Bool.false_eq_true, if_false]; rw [if_pos h3]
          rw [hR]
          exact .inl ⟨t, 70, rfl, rfl⟩
        · have h1 : e.f0 = 1 := by omega
          rw [if_neg h3]
          have hg : rgoodB ⟨s.pr, s.ob, s.cl⟩ e = true := by
            unfold rgoodB
            rw [if_neg h3, decide_eq_true h1, Bool.true_and, Bool.or_eq_true, decide_eq_true_eq, decide_eq_true_eq]
            exact hno
          obtain ⟨p1, p2⟩ := num_both s.pr e.f1
          obtain ⟨o1, o2⟩ := num_both s.ob e.f2
          have hR : raddR ⟨s.pr, s.ob, s.cl⟩ e t = (⟨(stInv s t e).pr, (stInv s t e).ob, (stInv s t e).cl⟩, 0) := by
            unfold raddR raddP invP stInv newCall
            rw [hg, if_pos rfl, if_neg h3, ← p1, ← p2, ← o1, ← o2]
          rw [hR]
          simp only [if_true]
          exact ih (t + 1) _ (inv_inv h ho) (inv2_inv h h2 ho)
theorem rlg_none (cl : List S50) : ∀ (k : Nat) (i : Int), (∀ j : Int, i ≤ j → j < i + k → largeF cl j = false) → rlgFrom cl k i = none
  | 0, _, _ => rfl
  | k + 1, i, h => by
    simp only [rlgFrom]
    rw [h i (by omega) (by omega)]
    exact rlg_none cl k (i + 1) (fun j h1 h2 => h j (by omega) (by omega))
theorem rlg_some (cl : List S50) (g : Int) (hg : largeF cl g = true) : ∀ (k : Nat) (i : Int), i ≤ g → g < i + k → (∀ j : Int, i ≤ j → j < g → largeF cl j = false) → rlgFrom cl k i = some g
  | 0, _, h1, h2, _ => by omega
  | k + 1, i, h1, h2, h => by
    simp only [rlgFrom]
    by_cases e : i = g
    · rw [e, hg]; rfl
    · rw [h i (by omega) (by omega)]
      exact rlg_some cl g hg k (i + 1) (by omega) (by omega) (fun j h3 h4 => h j (by omega) h4)
theorem rmake_eq (E : List S47) : rmakeF E = makeF E := by
  unfold rmakeF makeF
  rcases sim_go E 0 st0 inv0 inv2_0 with ⟨a, c, h1, h2⟩ | ⟨r, h1, h2, h3⟩
  · rw [h1, show rgoE E 0 ⟨[], [], []⟩ = .bad a c from h2]; rfl
  · rw [h1, show rgoE E 0 ⟨[], [], []⟩ = .ok ⟨r.pr, r.ob, r.cl⟩ from h2]
    simp only [rEnd, mkEnd]
    rcases h3.l with ⟨hl, hj⟩ | ⟨h0, h4, h5, h6⟩
    · rw [rlg_none r.cl E.length 0 (fun j h0 h1 => hj j h0 (by omega)), if_neg (by omega)]
    · rw [rlg_some r.cl r.lg h5 E.length 0 h0 (by omega) (fun j h7 h8 => h6 j h7 h8), if_pos h0]
end Go.Proofs.Ytofinglgnkdflaa
