/- The reference of layer 7: Events: its row, its own law. -/
import Derived.Test.YtofinglgnkdflaaLQq
import Derived.Test.YtofinglgnkdflaaLXG
namespace Go.Proofs.Ytofinglgnkdflaa
open Go.RowKit
open Go.Proofs.Ytofinglgnkdflaa.PHistoryChecks Go.Proofs.YtofinglgnkdflaaW.PrintWords Go.Proofs.YtofinglgnkdflaaW.PrintLast Go.Proofs.YtofinglgnkdflaaW.PrintMore
set_option linter.unusedVariables false
set_option linter.unusedSimpArgs false
def RowX (w : World) (g : Nat) (xs : List S47) : Prop := Blk 12 47 w g xs.length xs.length (fun j c => ∃ x, xs[j]? = some x ∧ Kd.FK k47 w (fun k => k ≠ g) x c)
theorem fk_step {w w1 : World} {g : Nat} {x : S47} {c : List Value} (h : Kd.FK k47 w (fun k => k ≠ g) x c) (hm : ∀ k, k ≠ g → k < w.heap.size → w1.heap[k]? = w.heap[k]?) : Kd.FK k47 w1 (fun k => k ≠ g) x c := Foot.step h hm
theorem RowX.below {w w1 : World} {g : Nat} {xs : List S47} (h : RowX w g xs) (hb : Below w.heap.size w w1) : RowX w1 g xs :=
  (Blk.move h (hb.block g h.lt)).imp fun j c _ hp => by
    obtain ⟨x, hx, hf⟩ := hp
    exact ⟨x, hx, fk_step hf (fun k _ hk => hb.block k hk)⟩
theorem RowX.C {w : World} {g : Nat} {xs : List S47} (h : RowX w g xs) : Kd.C k47 w (some ⟨g, 0, none⟩) xs.length xs := by
  obtain ⟨cur, h1, h2, h3, h4, h5⟩ := h
  have hml : maxLen ≤ 9223372036854775807 := by decide
  have ea : ∀ k, Addr.add ⟨g, 0, none⟩ k = ⟨g, k, none⟩ := by intro k; cases k <;> simp [Addr.add]
  refine ⟨rfl, by omega, fun hp => ⟨⟨g, 0, none⟩, rfl, fun j p hj => ?_⟩⟩
  have hjl : j < xs.length := by have := (List.getElem?_eq_some_iff.1 hj).1; omega
  obtain ⟨c, hc, x, hx, hK⟩ := h5 j hjl
  rw [hj] at hx
  cases hx
  refine ⟨c, hc.1, Kd.FK_now hK, fun i u hu => ?_⟩
  rw [ea]
  exact (blk_cell h1 (j * 12 + i)).trans (hc.2 i u hu)
theorem rowX_made (w : World) (n : Nat) (hn : n ≤ 2000000) : RowX (w.alloc (.cells (madeCells (c47 z47 none 0) (n * 12)) 47)) w.heap.size (List.replicate n z47) := by
  unfold RowX
  rw [List.length_replicate]
  exact ⟨_, heap_alloc_new w _, Nat.le_refl _, by unfold maxLen; omega, size_madeCells _ _, fun j hj => ⟨_, made_chunk (c47 z47 none 0) n rfl (by decide) j hj, z47, by rw [List.getElem?_replicate, if_pos hj], k47_mkF _ _ z47 (A8 := none) (c8 := 0) (Nat.le_refl _) (fun W' _ => Kd.C_nil _ _)⟩⟩
theorem RowX.put {w : World} {g i : Nat} {xs : List S47} {x : S47} {A : Option Addr} {c : Nat} (h : RowX w g xs) (hi : i < xs.length) (hc : x.f4.f4.length ≤ c) (hF : Kd.F k43 w (fun k => k ≠ g) A x.f4.f4.length x.f4.f4) :
    RowX (setsW g (i * 12) (c47 x A c).toList w) g (xs.set i x) := by
  have far : ∀ k, k ≠ g → k < w.heap.size → (setsW g (i * 12) (c47 x A c).toList w).heap[k]? = w.heap[k]? := fun k hk hlt => (setsW_grown g _ _ w).block k hlt (by simp; omega)
  unfold RowX
  rw [List.length_set]
  refine Blk.sets h (c47 x A c).toList rfl ⟨x, by rw [List.getElem?_set, if_pos rfl, if_pos hi], fk_step (k47_mkF w (fun k => k ≠ g) x hc hF) far⟩ (fun j d hj hne hp => ?_)
  obtain ⟨y, hy, hf⟩ := hp
  exact ⟨y, by rw [List.getElem?_set, if_neg (fun e => hne e.symm)]; exact hy, fk_step hf far⟩
theorem F_of_R {w : World} {base g : Nat} {A : Option Addr} {c : Nat} {l : List S43} (h : k43.R 43 w base (fun _ => True) (.slice A l.length c) l) (hg : g < base) : Kd.F k43 w (fun k => k ≠ g) A l.length l := fun W' hW =>
  (Kd.R_reads' (Kd.R_step (Kd.R_bound h) (fun k hk hlt => hW k (by have := hk.2.1; omega) hlt))).2.2
theorem F_of_C {W w : World} {g : Nat} {A : Option Addr} {l : List S43} (h : Kd.C k43 W A l.length l) (hb : Below W.heap.size W w) (hg : W.heap.size ≤ g) : Kd.F k43 w (fun k => k ≠ g) A l.length l := fun W' hW =>
  Kd.Heap.C k43_heap (fun k hk => by rw [hW k (by omega) (Nat.lt_of_lt_of_le hk hb.size)]; exact hb.block k hk) h
def revStep (P : PastL) (xs : List S47) (c : S50) : Option (List S47) := if c.f5 < -1 then none else evStep P xs c
def revFrom (P : PastL) : List S47 → List S50 → Option (List S47)
  | xs, [] => some xs
  | xs, c :: l => match revStep P xs c with
    | none => none
    | some ys => revFrom P ys l
def revL (P : PastL) : Option (List S47) := revFrom P (List.replicate (sizeL P.cl) z47) P.cl
def reventsF (P : PastL) : Option (List S47) := match revL P with
  | none => none
  | some xs => if (makeF xs).2.2 = 0 then if sameP P (makeF xs).1 then some xs else none else none
theorem rev_ev {P : PastL} (cs : List S50) : ∀ {xs ys : List S47}, revFrom P xs cs = some ys → evFrom P xs cs = some ys := by
  induction cs with
  | nil => intro xs ys h; exact h
  | cons c cs ih =>
    intro xs ys h
    simp only [revFrom] at h
    simp only [evFrom]
    unfold revStep at h
    by_cases h5 : c.f5 < -1
    · rw [if_pos h5] at h; cases h
    · rw [if_neg h5] at h
      rcases hs : evStep P xs c with _ | zs
      · rw [hs] at h; cases h
      · rw [hs] at h; exact ih h
theorem ev_rev {P : PastL} (cs : List S50) (h5 : ∀ c ∈ cs, -1 ≤ c.f5) : ∀ xs : List S47, revFrom P xs cs = evFrom P xs cs := by
  induction cs with
  | nil => intro xs; rfl
  | cons c cs ih =>
    intro xs
    have hc := h5 c (List.mem_cons_self ..)
    simp only [revFrom, evFrom]
    unfold revStep
    rw [if_neg (by omega)]
    rcases evStep P xs c with _ | zs
    · rfl
    · exact ih (fun d hd => h5 d (List.mem_cons_of_mem _ hd)) zs
theorem sameCL_f5 : ∀ (l m : List S50), sameCL l m = true → ∀ (i : Nat) c, l[i]? = some c → ∃ d, m[i]? = some d ∧ c.f5 = d.f5
  | [], [], _ => fun i c h => by simp at h
  | [], _ :: _, h => by simp [sameCL] at h
  | _ :: _, [], h => by simp [sameCL] at h
  | x :: l, y :: m, h => by
    simp only [sameCL, Bool.and_eq_true] at h
    have h2 := sameCL_f5 l m h.2
    intro i c hc
    cases i with
    | zero =>
      simp at hc; subst hc
      have hs := h.1
      unfold sameC at hs
      simp only [Bool.and_eq_true, decide_eq_true_eq] at hs
      exact ⟨y, rfl, hs.2.2.2.2.1⟩
    | succ i => exact h2 i c (by simpa using hc)
theorem revents_eq (P : PastL) : reventsF P = eventsF P := by
  unfold reventsF eventsF
  rcases hr : revL P with _ | xs
  · rcases he : eventsL P with _ | ys
    · rfl
    · simp only
      split
      · rename_i h0
        split
        · rename_i hs
          exfalso
          unfold sameP at hs
          simp only [Bool.and_eq_true] at hs
          have hc : (makeF ys).1.cl ≠ [] := fun hn => by
            rw [hn] at hs
            have : P.cl = [] := by
              rcases hcl : P.cl with _ | ⟨c, l⟩
              · rfl
              · rw [hcl] at hs; simp [sameCL] at hs
            unfold revL at hr
            rw [this] at hr; simp [revFrom] at hr
          obtain ⟨t, ha, _⟩ := make_calls ys h0 hc
          have h5 : ∀ c ∈ P.cl, -1 ≤ c.f5 := fun c hcm => by
            obtain ⟨i, hi⟩ := List.mem_iff_getElem?.1 hcm
            obtain ⟨d, hd, e5⟩ := sameCL_f5 _ _ hs.2.2 i c hi
            have := ha i d hd
            omega
          unfold revL at hr
          rw [ev_rev P.cl h5] at hr
          unfold eventsL at he
          rw [he] at hr; cases hr
        · rfl
      · rfl
  · have he : eventsL P = some xs := rev_ev P.cl hr
    rw [he]
end Go.Proofs.Ytofinglgnkdflaa
