/- Plain: what widths, heights and pairs of a past keep to one another. -/
import Derived.Test.YtofinglgnkdflaaLXN
import Derived.Test.YtofinglgnkdflaaLOi
namespace Go.Proofs.Ytofinglgnkdflaa
open Go.RowKit
open Go.Proofs.Ytofinglgnkdflaa.PHistoryChecks Go.Proofs.YtofinglgnkdflaaW.PrintWords Go.Proofs.YtofinglgnkdflaaW.PrintLast Go.Proofs.YtofinglgnkdflaaW.PrintMore
set_option linter.unusedVariables false
set_option linter.unusedSimpArgs false
def sumN (f : Nat → Int) : Nat → Int
  | 0 => 0
  | n + 1 => sumN f n + f n
theorem sumN_shift (f : Nat → Int) : ∀ n : Nat, sumN f (n + 1) = f 0 + sumN (fun i => f (i + 1)) n
  | 0 => by simp [sumN]
  | n + 1 => by
    rw [show sumN f (n + 1 + 1) = sumN f (n + 1) + f (n + 1) from rfl, sumN_shift f n]
    simp only [sumN]; omega
def psum (l : List Int) : Nat → Int
  | 0 => 0
  | t + 1 => psum l t + rd l (t : Int)
theorem psum_set (l : List Int) (i : Nat) (v : Int) (hi : i < l.length) (h0 : rd l (i : Int) = 0) : ∀ t : Nat, psum (l.set i v) t = psum l t + if i < t then v else 0
  | 0 => by simp [psum]
  | t + 1 => by
    simp only [psum]
    rw [psum_set l i v hi h0 t, rd_set']
    by_cases h1 : i < t
    · rw [if_pos h1, if_neg (by omega), if_pos (by omega)]; omega
    · by_cases h2 : i = t
      · subst h2
        rw [if_neg h1, if_pos ⟨rfl, hi⟩, if_pos (Nat.lt_succ_self _), h0]
      · rw [if_neg h1, if_neg (show ¬ (i = t ∧ t < l.length) from fun h => h2 h.1), if_neg (show ¬ i < t + 1 by omega)]; omega
theorem preGo_psum (l0 : List Int) (k : Nat) : ∀ (l : List Int) (i : Nat) (n : Int), l.length = l0.length → i + k ≤ l0.length → n = psum l0 i → (∀ j : Nat, i ≤ j → rd l (j : Int) = rd l0 (j : Int)) → (∀ j : Nat, j < i → rd l (j : Int) = psum l0 (j + 1)) → ∀ j : Nat, j < i + k → rd (preGo k l i n) (j : Int) = psum l0 (j + 1) := by
  induction k with
  | zero => intro l i n _ _ _ _ h j hj; exact h j (by omega)
  | succ k ih =>
    intro l i n hl hik hn hge hlt j hj
    simp only [preGo]
    have e : n + rd l (i : Int) = psum l0 (i + 1) := by rw [hn, hge i (Nat.le_refl _)]; rfl
    refine ih _ (i + 1) _ (by rw [List.length_set]; exact hl) (by omega) e (fun j hj => ?_) (fun j hj => ?_) j (by omega)
    · rw [rd_set', if_neg (by omega)]; exact hge j (by omega)
    · rw [rd_set']
      by_cases h : i = j
      · subst h; rw [if_pos ⟨rfl, by omega⟩, e]
      · rw [if_neg (by omega)]; exact hlt j (by omega)
def sgn (e : S47) : Int := if e.f0 = 1 then 1 else if e.f0 = 2 then -1 else 0
def Sg (xs : List S47) (l : List Int) : Prop := l.length = xs.length ∧ ∀ j : Nat, j < xs.length → rd l (j : Int) = sgn (rd_T47 xs (j : Int))
theorem rd47_set (xs : List S47) (i j : Nat) (v : S47) (hj : j < xs.length) : rd_T47 (xs.set i v) (j : Int) = if i = j then v else rd_T47 xs (j : Int) := by
  unfold rd_T47
  rw [Int.toNat_natCast, List.getD_eq_getElem?_getD, List.getD_eq_getElem?_getD, List.getElem?_set]
  by_cases e : i = j
  · rw [if_pos e, if_pos e, if_pos (by omega)]; rfl
  · rw [if_neg e, if_neg e]
theorem putB_iff {xs : List S47} {a : Int} (h : putB xs a = true) : 0 ≤ a ∧ a.toNat < xs.length ∧ (rd_T47 xs (a.toNat : Int)).f0 = 0 := by
  unfold putB at h
  simp only [Bool.and_eq_true, decide_eq_true_eq] at h
  rw [Int.toNat_of_nonneg h.1]
  exact ⟨h.1, by omega, h.2.2⟩
theorem Sg.put {xs : List S47} {l : List Int} (h : Sg xs l) {a : Int} (hp : putB xs a = true) (e : S47) (v : Int) (hv : sgn e = v) :
    Sg (putL xs a e) (l.set a.toNat v) ∧ rd l (a.toNat : Int) = 0 ∧ a.toNat < l.length := by
  obtain ⟨h0, h1, h2⟩ := putB_iff hp
  unfold putL
  rw [if_pos hp]
  refine ⟨⟨by rw [List.length_set, List.length_set]; exact h.1, fun j hj => ?_⟩, ?_, by rw [h.1]; exact h1⟩
  · rw [List.length_set] at hj
    rw [rd_set', rd47_set _ _ _ _ hj]
    by_cases e1 : a.toNat = j
    · rw [if_pos ⟨e1, by rw [h.1]; exact hj⟩, if_pos e1, hv]
    · rw [if_neg (fun hh => e1 hh.1), if_neg e1]; exact h.2 j hj
  · rw [h.2 _ h1]; unfold sgn; rw [h2]; rfl
def opn (c : S50) (t : Nat) : Int := (if c.f4.toNat < t then 1 else 0) - (if 0 ≤ c.f5 ∧ c.f5.toNat < t then 1 else 0)
def opL : List S50 → Nat → Int
  | [], _ => 0
  | c :: cs, t => opn c t + opL cs t
theorem sg_step {P : PastL} {xs ys : List S47} {c : S50} {l : List Int} (h : Sg xs l) (hs : evStep P xs c = some ys) : Sg ys (chg1 l c) ∧ ∀ t, psum (chg1 l c) t = psum l t + opn c t := by
  unfold evStep at hs
  split at hs
  · split at hs
    · rename_i h1 h2
      obtain ⟨hS, hz, hlt⟩ := h.put h2 (evCall P c) 1 rfl
      unfold chg1 opn
      split at hs
      · rename_i h5
        split at hs
        · rename_i h6
          cases hs
          obtain ⟨hS2, hz2, hlt2⟩ := hS.put h6 (evRet P c) (-1) rfl
          rw [if_pos h5]
          refine ⟨hS2, fun t => ?_⟩
          rw [psum_set _ _ _ hlt2 hz2, psum_set _ _ _ hlt hz]
          by_cases h7 : c.f5.toNat < t
          · rw [if_pos h7, if_pos (show 0 ≤ c.f5 ∧ c.f5.toNat < t from ⟨h5, h7⟩)]; omega
          · rw [if_neg h7, if_neg (show ¬ (0 ≤ c.f5 ∧ c.f5.toNat < t) from fun h => h7 h.2)]; omega
        · cases hs
      · rename_i h5
        cases hs
        rw [if_neg h5]
        refine ⟨hS, fun t => ?_⟩
        rw [psum_set _ _ _ hlt hz, if_neg (show ¬ (0 ≤ c.f5 ∧ c.f5.toNat < t) from fun h => h5 h.1)]; omega
    · cases hs
  · cases hs
theorem sg_from {P : PastL} (cs : List S50) : ∀ {xs ys : List S47} {l : List Int}, Sg xs l → evFrom P xs cs = some ys → Sg ys (chgL l cs) ∧ ∀ t, psum (chgL l cs) t = psum l t + opL cs t := by
  induction cs with
  | nil => intro xs ys l h he; cases he; exact ⟨h, fun t => by simp [chgL, opL]⟩
  | cons c cs ih =>
    intro xs ys l h he
    simp only [evFrom] at he
    rcases hs : evStep P xs c with _ | zs
    · rw [hs] at he; cases he
    · rw [hs] at he
      obtain ⟨h1, h2⟩ := sg_step h hs
      obtain ⟨h3, h4⟩ := ih h1 he
      refine ⟨h3, fun t => ?_⟩
      simp only [chgL, opL]
      rw [h4, h2]; omega
theorem psum_zero (n : Nat) : ∀ t : Nat, psum (List.replicate n 0) t = 0
  | 0 => rfl
  | t + 1 => by
    simp only [psum]
    rw [psum_zero n t]
    unfold YtofinglgnkdflaaW.PrintWords.rd
    rw [List.getD_eq_getElem?_getD, List.getElem?_replicate]
    split <;> rfl
theorem sg_zero (n : Nat) : Sg (List.replicate n z47) (List.replicate n 0) := by
  refine ⟨by simp, fun j hj => ?_⟩
  rw [List.length_replicate] at hj
  unfold YtofinglgnkdflaaW.PrintWords.rd rd_T47
  rw [Int.toNat_natCast, List.getD_eq_getElem?_getD, List.getD_eq_getElem?_getD, List.getElem?_replicate, List.getElem?_replicate, if_pos hj, if_pos hj]; rfl
theorem opL_sum (t : Nat) : ∀ cs : List S50, opL cs t = sumN (fun a => opn (rd_T50 cs (a : Int)) t) cs.length
  | [] => rfl
  | c :: cs => by
    rw [List.length_cons, sumN_shift]
    simp only [opL]
    rw [opL_sum t cs]
    rfl
theorem eventsF_some {P : PastL} {xs : List S47} (h : eventsF P = some xs) : eventsL P = some xs ∧ (makeF xs).2.2 = 0 ∧ sameP P (makeF xs).1 = true := by
  refine ⟨eventsF_L h, ?_⟩
  unfold eventsF at h
  rw [eventsF_L (P := P) (xs := xs) (by unfold eventsF; exact h)] at h
  simp only at h
  split at h
  · rename_i h1
    split at h
    · rename_i h2; exact ⟨h1, h2⟩
    · cases h
  · cases h
theorem sameCL_get : ∀ (l m : List S50), sameCL l m = true → l.length = m.length ∧ ∀ (i : Nat) c, l[i]? = some c → ∃ d, m[i]? = some d ∧ c.f4 = d.f4 ∧ c.f5 = d.f5
  | [], [], _ => ⟨rfl, fun i c h => by simp at h⟩
  | [], _ :: _, h => by simp [sameCL] at h
  | _ :: _, [], h => by simp [sameCL] at h
  | x :: l, y :: m, h => by
    simp only [sameCL, Bool.and_eq_true] at h
    obtain ⟨h1, h2⟩ := sameCL_get l m h.2
    refine ⟨by simp [h1], fun i c hc => ?_⟩
    cases i with
    | zero =>
      simp at hc; subst hc
      have hs := h.1
      unfold sameC at hs
      simp only [Bool.and_eq_true, decide_eq_true_eq] at hs
      exact ⟨y, rfl, hs.2.2.2.1, hs.2.2.2.2.1⟩
    | succ i => exact h2 i c (by simpa using hc)
theorem get_rd50 (l : List S50) (a : Nat) (h : a < l.length) : l[a]? = some (rd_T50 l (a : Int)) := by
  unfold rd_T50; rw [Int.toNat_natCast, List.getD_eq_getElem?_getD, List.getElem?_eq_getElem h]; rfl
theorem ev_put {xs : List S47} {a : Int} (hp : putB xs a = true) (e : S47) (he : e.f0 ≠ 0) : (rd_T47 (putL xs a e) (a.toNat : Int)).f0 = e.f0 ∧ ∀ j : Nat, j < xs.length → (rd_T47 xs (j : Int)).f0 ≠ 0 → rd_T47 (putL xs a e) (j : Int) = rd_T47 xs (j : Int) := by
  obtain ⟨h0, h1, h2⟩ := putB_iff hp
  unfold putL
  rw [if_pos hp]
  refine ⟨by rw [rd47_set _ _ _ _ h1, if_pos rfl], fun j hj hne => ?_⟩
  rw [rd47_set _ _ _ _ hj, if_neg]
  intro e; rw [e] at h2; exact hne h2
theorem ev_step_keep {P : PastL} {xs ys : List S47} {c : S50} (hs : evStep P xs c = some ys) :
    (rd_T47 ys (c.f4.toNat : Int)).f0 = 1 ∧ (0 ≤ c.f5 → (rd_T47 ys (c.f5.toNat : Int)).f0 = 2 ∧ c.f5.toNat < xs.length) ∧ c.f4.toNat < xs.length ∧ ∀ j : Nat, j < xs.length → (rd_T47 xs (j : Int)).f0 ≠ 0 → rd_T47 ys (j : Int) = rd_T47 xs (j : Int) := by
  unfold evStep at hs
  split at hs
  · split at hs
    · rename_i h1 h2
      have hb := (putB_iff h2).2.1
      obtain ⟨k1, k2⟩ := ev_put h2 (evCall P c) (by show (1 : Int) ≠ 0; decide)
      have k1' : (rd_T47 (putL xs c.f4 (evCall P c)) (c.f4.toNat : Int)).f0 = 1 := k1
      split at hs
      · rename_i h5
        split at hs
        · rename_i h6
          cases hs
          obtain ⟨m1, m2⟩ := ev_put h6 (evRet P c) (by show (2 : Int) ≠ 0; decide)
          have hb6 := (putB_iff h6).2.1
          rw [putL_length] at hb6
          refine ⟨?_, fun _ => ⟨m1, hb6⟩, hb, fun j hj hne => ?_⟩
          · rw [m2 _ (by rw [putL_length]; exact hb) (by rw [k1']; decide)]; exact k1'
          · rw [m2 _ (by rw [putL_length]; exact hj) (by rw [k2 j hj hne]; exact hne)]; exact k2 j hj hne
        · cases hs
      · rename_i h5
        cases hs
        exact ⟨k1', fun h => absurd h h5, hb, k2⟩
    · cases hs
  · cases hs
theorem ev_keep {P : PastL} (cs : List S50) : ∀ {xs ys : List S47}, evFrom P xs cs = some ys →
    (∀ j : Nat, j < xs.length → (rd_T47 xs (j : Int)).f0 ≠ 0 → rd_T47 ys (j : Int) = rd_T47 xs (j : Int)) ∧ ∀ c ∈ cs, (rd_T47 ys (c.f4.toNat : Int)).f0 = 1 ∧ (0 ≤ c.f5 → (rd_T47 ys (c.f5.toNat : Int)).f0 = 2) := by
  induction cs with
  | nil => intro xs ys h; cases h; exact ⟨fun _ _ _ => rfl, fun c hc => by cases hc⟩
  | cons d cs ih =>
    intro xs ys h
    simp only [evFrom] at h
    rcases hs : evStep P xs d with _ | zs
    · rw [hs] at h; cases h
    · rw [hs] at h
      have hl := evStep_length hs
      obtain ⟨k1, k2, k3, k4⟩ := ev_step_keep hs
      obtain ⟨i1, i2⟩ := ih h
      refine ⟨fun j hj hne => ?_, fun c hc => ?_⟩
      · rw [i1 j (by omega) (by rw [k4 j hj hne]; exact hne)]; exact k4 j hj hne
      · rcases List.mem_cons.1 hc with rfl | hc
        · refine ⟨by rw [i1 _ (by omega) (by rw [k1]; decide)]; exact k1, fun h5 => ?_⟩
          obtain ⟨m1, m2⟩ := k2 h5
          rw [i1 _ (by omega) (by rw [m1]; decide)]; exact m1
        · exact i2 c hc
structure CallsOk (cl : List S50) (T : Nat) : Prop where
  a : ∀ i : Nat, i < cl.length → 0 ≤ (rd_T50 cl (i : Int)).f4 ∧ (rd_T50 cl (i : Int)).f4 < T ∧ (rd_T50 cl (i : Int)).f5 < T ∧ ((rd_T50 cl (i : Int)).f5 = -1 ∨ (rd_T50 cl (i : Int)).f4 < (rd_T50 cl (i : Int)).f5)
  b : ∀ i j : Nat, i < j → j < cl.length → (rd_T50 cl (i : Int)).f4 < (rd_T50 cl (j : Int)).f4
  c : ∀ i j : Nat, i < cl.length → j < cl.length → 0 ≤ (rd_T50 cl (i : Int)).f5 → (rd_T50 cl (i : Int)).f5.toNat ≠ (rd_T50 cl (j : Int)).f4.toNat
theorem calls_ok {P : PastL} {xs : List S47} (h : eventsF P = some xs) : CallsOk P.cl (sizeL P.cl) := by
  obtain ⟨h1, h2, h3⟩ := eventsF_some h
  unfold sameP at h3
  simp only [Bool.and_eq_true] at h3
  obtain ⟨hl, hg⟩ := sameCL_get _ _ h3.2.2
  have hC : ∀ i j : Nat, i < P.cl.length → j < P.cl.length → 0 ≤ (rd_T50 P.cl (i : Int)).f5 → (rd_T50 P.cl (i : Int)).f5.toNat ≠ (rd_T50 P.cl (j : Int)).f4.toNat := fun i j hi hj h5 e => by
    unfold eventsL at h1
    have k := (ev_keep P.cl h1).2
    have k1 := (k _ (List.mem_of_getElem? (get_rd50 P.cl i hi))).2 h5
    have k2 := (k _ (List.mem_of_getElem? (get_rd50 P.cl j hj))).1
    rw [e, k2] at k1
    exact absurd k1 (by decide)
  by_cases he : (makeF xs).1.cl = []
  · have h0 : P.cl.length = 0 := by rw [hl, he]; rfl
    exact ⟨fun i hi => by omega, fun i j _ hj => by omega, hC⟩
  · obtain ⟨t, ha, hb⟩ := make_calls xs h2 he
    refine ⟨fun i hi => ?_, fun i j hij hj => ?_, hC⟩
    · obtain ⟨d, hd, e4, e5⟩ := hg i _ (get_rd50 P.cl i hi)
      have h5 := ha i d hd
      have h6 := past_bounds h (i : Int) (by omega) (by omega)
      refine ⟨h6.1, h6.2.1, h6.2.2, ?_⟩
      rw [e4, e5]; omega
    · obtain ⟨d, hd, e4, e5⟩ := hg i _ (get_rd50 P.cl i (by omega))
      obtain ⟨d', hd', e4', e5'⟩ := hg j _ (get_rd50 P.cl j hj)
      rw [e4, e4']; exact (hb i j d d' hij hd hd').1
def chF (P : PastL) : List Int := chgL (List.replicate (sizeL P.cl) 0) P.cl
theorem widths_psum {P : PastL} {w : List Int} (h : widthsF P = some w) (j : Nat) (hj : j < w.length) : rd w (j : Int) = psum (chF P) (j + 1) := by
  have hl := widths_length h
  have hw := (widthsF_some h).2
  have hc : (chF P).length = sizeL P.cl := by unfold chF; rw [chgL_length, List.length_replicate]
  rw [hw]
  exact preGo_psum (chF P) (sizeL P.cl) (chF P) 0 0 rfl (by omega) rfl (fun _ _ => rfl) (fun j hj => absurd hj (Nat.not_lt_zero _)) j (by omega)
theorem widths_open {P : PastL} {xs : List S47} (h : eventsF P = some xs) (t : Nat) : psum (chF P) t = sumN (fun a => opn (rd_T50 P.cl (a : Int)) t) P.cl.length := by
  have h1 := eventsF_L h
  unfold eventsL at h1
  rw [← opL_sum]
  have := (sg_from P.cl (sg_zero (sizeL P.cl)) h1).2 t
  unfold chF
  rw [this, psum_zero]; omega
theorem inGo_other (cl : List S50) (b : Nat) (k : Nat) : ∀ (a : Nat) (s : List Int × Int) (j : Nat), j ≠ b → rd (inGo cl b k a s).1 (j : Int) = rd s.1 (j : Int) := by
  induction k with
  | zero => intros; rfl
  | succ k ih =>
    intro a s j hj
    simp only [inGo]
    rw [ih _ _ _ hj]
    unfold inStep
    split
    · rw [rd_set', if_neg (fun h => hj h.1.symm)]
    · rfl
theorem inGo_own (cl : List S50) (b : Nat) (k : Nat) : ∀ (a : Nat) (s : List Int × Int), a + k ≤ b → b < s.1.length → rd s.1 (b : Int) ≤ rd (inGo cl b k a s).1 (b : Int) ∧ ∀ j : Nat, a ≤ j → j < a + k → befB cl j b = true → rd s.1 (j : Int) + 1 ≤ rd (inGo cl b k a s).1 (b : Int) := by
  induction k with
  | zero => intro a s _ _; exact ⟨Int.le_refl _, fun j h1 h2 => by omega⟩
  | succ k ih =>
    intro a s hk hb
    simp only [inGo]
    have hl : b < (inStep cl b a s).1.length := by unfold inStep; split <;> simpa using hb
    obtain ⟨h1, h2⟩ := ih (a + 1) (inStep cl b a s) (by omega) hl
    have h3 : rd s.1 (b : Int) ≤ rd (inStep cl b a s).1 (b : Int) ∧ (befB cl a b = true → rd s.1 (a : Int) + 1 ≤ rd (inStep cl b a s).1 (b : Int)) := by
      unfold inStep
      split
      · rw [rd_set', if_pos ⟨rfl, hb⟩]; exact ⟨by omega, fun _ => by omega⟩
      · rename_i h; exact ⟨Int.le_refl _, fun h2 => absurd h2 h⟩
    have h4 : ∀ j : Nat, j ≠ b → rd (inStep cl b a s).1 (j : Int) = rd s.1 (j : Int) := fun j hj => inGo_other cl b 1 a s j hj
    refine ⟨by omega, fun j hj1 hj2 hbf => ?_⟩
    by_cases e : j = a
    · subst e; have := h3.2 hbf; omega
    · have := h2 j (by omega) (by omega) hbf
      rw [h4 j (by omega)] at this; exact this
theorem inGo_pairs (cl : List S50) (b : Nat) (k : Nat) : ∀ (a : Nat) (s : List Int × Int), (inGo cl b k a s).2 = s.2 + sumN (fun i => if befB cl ((a + i : Nat) : Int) b then 0 else 1) k := by
  induction k with
  | zero => intro a s; simp [inGo, sumN]
  | succ k ih =>
    intro a s
    simp only [inGo]
    rw [ih, sumN_shift]
    have e : (fun i => if befB cl ((a + 1 + i : Nat) : Int) b then (0 : Int) else 1) = (fun i => if befB cl ((a + (i + 1) : Nat) : Int) b then (0 : Int) else 1) := by
      funext i; rw [show a + 1 + i = a + (i + 1) by omega]
    rw [e, Nat.add_zero]
    unfold inStep
    by_cases h : befB cl a b = true
    · rw [if_pos h, if_pos h]; omega
    · rw [if_neg h, if_neg h]; omega
structure OfInv (cl : List S50) (b : Nat) (s : OfS) : Prop where
  len : s.h.length = cl.length
  lo : ∀ j : Nat, j < b → 1 ≤ rd s.h (j : Int) ∧ rd s.h (j : Int) ≤ s.ht
  up : ∀ i j : Nat, i < j → j < b → befB cl i j = true → rd s.h (i : Int) < rd s.h (j : Int)
  pa : s.pa = sumN (fun j => sumN (fun i => if befB cl (i : Int) (j : Int) then 0 else 1) j) b
  p : s.p = sumN (fun j => if (rd_T50 cl (j : Int)).f5 < 0 then 1 else 0) b
  h0 : 0 ≤ s.ht
  hb : HtB s.h ∧ s.ht ≤ (b : Int)
theorem inGo_ht (cl : List S50) (b : Nat) (k : Nat) : ∀ (a : Nat) (s : List Int × Int), a + k ≤ b → HtB s.1 → HtB (inGo cl b k a s).1 := by
  induction k with
  | zero => intro a s _ h; exact h
  | succ k ih =>
    intro a s hk h
    simp only [inGo]
    refine ih _ _ (by omega) ?_
    unfold inStep
    split
    · have h1 := h a
      have h2 := h b
      exact h.set b _ (by omega) (by omega)
    · exact h
theorem OfInv.step {cl : List S50} {b : Nat} {s : OfS} (h : OfInv cl b s) (hb : b < cl.length) : OfInv cl (b + 1) (ofStep cl b s) := by
  have hl : b < (s.h.set b 1).length := by rw [List.length_set, h.len]; exact hb
  obtain ⟨h1, h2⟩ := inGo_own cl b b 0 (s.h.set b 1, s.pa) (by omega) hl
  have h3 := inGo_other cl b b 0 (s.h.set b 1, s.pa)
  have h4 := inGo_pairs cl b b 0 (s.h.set b 1, s.pa)
  have h5 := inGo_ht cl b b 0 (s.h.set b 1, s.pa) (by omega) (h.hb.1.set b 1 (by omega) (by omega))
  have h6 := inGo_length cl b b 0 (s.h.set b 1, s.pa)
  unfold ofStep
  obtain ⟨r, hr⟩ : ∃ r, r = inGo cl b b 0 (s.h.set b 1, s.pa) := ⟨_, rfl⟩
  rw [← hr] at h1 h2 h3 h4 h5 h6 ⊢
  simp only at h1 h2 h3 h4 h6 ⊢
  have e1 : ∀ j : Nat, j ≠ b → rd r.1 (j : Int) = rd s.h (j : Int) := fun j hj => by rw [h3 j hj, rd_set', if_neg (fun h => hj h.1.symm)]
  have e2 : 1 ≤ rd r.1 (b : Int) := by
    rw [rd_set', if_pos ⟨rfl, by rw [h.len]; exact hb⟩] at h1; exact h1
  refine ⟨by rw [h6, List.length_set]; exact h.len, fun j hj => ?_, fun i j hij hj hbf => ?_, ?_, ?_, ?_, ?_, ?_⟩
  · show 1 ≤ rd r.1 (j : Int) ∧ rd r.1 (j : Int) ≤ max s.ht (rd r.1 (b : Int))
    by_cases e : j = b
    · subst e; omega
    · rw [e1 j e]; have := h.lo j (by omega); omega
  · show rd r.1 (i : Int) < rd r.1 (j : Int)
    rw [e1 i (by omega)]
    by_cases e : j = b
    · subst e
      have h7 := h2 i (by omega) (by omega) hbf
      rw [rd_set', if_neg (by omega)] at h7
      omega
    · rw [e1 j e]; exact h.up i j hij (by omega) hbf
  · show r.2 = _
    rw [h4, h.pa]
    simp only [sumN, Nat.zero_add]
  · show (if (rd_T50 cl (b : Int)).f5 < 0 then s.p + 1 else s.p) = _
    simp only [sumN]
    rw [← h.p]
    split <;> omega
  · show 0 ≤ max s.ht (rd r.1 (b : Int))
    have := h.h0; omega
  · exact h5
  · show max s.ht (rd r.1 (b : Int)) ≤ ((b + 1 : Nat) : Int)
    have h7 := h5 b
    have h8 := h.hb.2
    omega
end Go.Proofs.Ytofinglgnkdflaa
