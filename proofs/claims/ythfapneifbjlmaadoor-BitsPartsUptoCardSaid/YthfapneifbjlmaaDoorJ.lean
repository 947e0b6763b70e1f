/- Layer 3: what BitsSubsets's loops hold. -/
import Derived.Test.YthfapneifbjlmaaDoorI
import Derived.Test.YthfapneifbjlmaaDoorRef
import Derived.Test.YthfapneifbjlmaaDoorSepb
import Derived.Test.YthfapneifbjlmaaDoorGb
namespace Go.Proofs.YthfapneifbjlmaaDoor
open Go.RowKit Go.Shelf
open Go.Proofs.YthfapneifbjlmaaDoor.PBitsSubsets Go.Proofs.YthfapneifbjlmaaDoorW.PrintWords
set_option linter.unusedVariables false
set_option linter.unusedSimpArgs false

theorem reads_i64 {w : World} {A : Option Addr} {xs : List Int} (hA : A = none → xs.length = 0) (hl : xs.length ≤ 9223372036854775807)
    (hc : ∀ ad, A = some ad → ∀ j u, (i64s xs)[j]? = some u → w.cell? (ad.add j) = some u) : Kd.C (Kd.int .i64) w A xs.length xs := by
  refine Kd.C_of_reads (d := 0) ⟨rfl, hl, fun hn => ?_⟩
  cases A with
  | none => have := hA rfl; omega
  | some ad =>
    refine ⟨ad, rfl, fun j hj => ?_⟩
    refine hc ad rfl j _ ?_
    rw [i64s_get hj]; rfl
theorem reads_row {w : World} {g : Nat} {xs : List Int} {t : TypeId} (hl : xs.length ≤ 9223372036854775807) (h : w.heap[g]? = some (.cells (i64s xs).toArray t (0, 0))) : Kd.C (Kd.int .i64) w (some ⟨g, 0, none⟩) xs.length xs := by
  refine reads_i64 (by simp) hl fun ad had j u hu => ?_
  cases had
  have e : (⟨g, 0, none⟩ : Addr).add j = ⟨g, j, none⟩ := by unfold Addr.add; split <;> simp_all
  rw [e, heap_cell h]
  exact hu

theorem ints_pure (xs ys : List Int) (hl : xs.length ≤ 1000000000) : ∃ k, sextantlaw03_ints.f k xs ys = some (decide (xs = ys)) := by
  unfold sextantlaw03_ints.f
  by_cases hne : xs.length = ys.length
  · simp only [if_pos (show (xs.length : Int) = (ys.length : Int) by omega)]
    have loop : ∀ (d i : Nat), i + d = xs.length → Ev (fun k => sextantlaw03_ints.l0 k xs ys (i : Int)) (decide (xs.drop i = ys.drop i)) := by
      intro d
      induction d with
      | zero =>
        intro i hi
        refine Ev.step (f := fun _ => some true) (fun k => ?_) ?_
        · simp only [sextantlaw03_ints.l0]; rw [if_neg (by omega)]
        · have : decide (xs.drop i = ys.drop i) = true := by
            rw [List.drop_eq_nil_of_le (by omega), List.drop_eq_nil_of_le (by omega)]; rfl
          rw [this]; exact Ev.now true
      | succ d ih =>
        intro i hi
        have h1 : xs.drop i = xs[i] :: xs.drop (i + 1) := List.drop_eq_getElem_cons (by omega)
        have h2 : ys.drop i = ys[i] :: ys.drop (i + 1) := List.drop_eq_getElem_cons (by omega)
        have r1 : rd xs (i : Int) = xs[i] := by simp [rd, List.getElem?_eq_getElem (show i < xs.length by omega)]
        have r2 : rd ys (i : Int) = ys[i] := by simp [rd, List.getElem?_eq_getElem (show i < ys.length by omega)]
        by_cases he : xs[i]'(by omega) = ys[i]'(by omega)
        · refine Ev.step (f := fun k => sextantlaw03_ints.l0 k xs ys ((i + 1 : Nat) : Int)) (fun k => ?_) ?_
          · simp only [sextantlaw03_ints.l0]
            rw [if_pos (by omega), if_pos (by omega), if_pos (by omega), r1, r2, if_pos he, w64 (n := (i : Int) + 1) (by omega) (by omega)]; rfl
          · have := ih (i + 1) (by omega)
            have e : decide (xs.drop i = ys.drop i) = decide (xs.drop (i + 1) = ys.drop (i + 1)) := decide_eq_decide.2 (by
              rw [h1, h2]; exact ⟨fun h => (List.cons.inj h).2, fun h => by rw [he, h]⟩)
            rw [e]; exact this
        · refine Ev.step (f := fun _ => some false) (fun k => ?_) ?_
          · simp only [sextantlaw03_ints.l0]
            rw [if_pos (by omega), if_pos (by omega), if_pos (by omega), r1, r2, if_neg he]
          · have : decide (xs.drop i = ys.drop i) = false := decide_eq_false (by rw [h1, h2]; exact fun h => he (List.cons.inj h).1)
            rw [this]; exact Ev.now false
    have := (loop xs.length 0 (by omega)).rounds
    simpa using this
  · refine ⟨0, ?_⟩
    rw [if_neg (by omega)]
    have : xs ≠ ys := fun h => hne (by rw [h])
    simp [this]

/-- What the loops' bodies own: the three variables in memory, the result, and the list that is wanted. -/
def Own (ab rb s0 wb : Nat) (k : Nat) : Prop := k = ab ∨ k = rb ∨ (s0 ≤ k ∧ k ≤ wb + 1)
structure Sb (ab rb s0 wb : Nat) (A : Option Addr) (c : Nat) (at' : Int) (L : List (List Int)) (n : Nat) (b : Bool) (W : World) : Prop where
  at_ : W.heap[ab]? = some (.cells #[.int .i64 at'] 3 (0, 0))
  re : W.heap[rb]? = some (.cells #[.bool b] 4 (0, 0))
  wa : W.heap[wb]? = some (.cells #[.slice A L.length c] 27 (0, 0))
  no : W.heap[wb + 1]? = some (.cells #[.int .i64 n] 3 (0, 0))
  wn : Kd.N (Kd.slice 3 (Kd.int .i64)) 22 W s0 (fun k => s0 ≤ k ∧ k < wb) (.slice A L.length c) L
theorem Sb.kept {ab rb s0 wb : Nat} {A : Option Addr} {c : Nat} {at' : Int} {L : List (List Int)} {n : Nat} {b : Bool} {W W' : World} (h : Sb ab rb s0 wb A c at' L n b W) (hs : s0 ≤ wb)
    (hk : ∀ k, Own ab rb s0 wb k → W'.heap[k]? = W.heap[k]?) : Sb ab rb s0 wb A c at' L n b W' :=
  ⟨(hk _ (.inl rfl)).trans h.at_, (hk _ (.inr (.inl rfl))).trans h.re, (hk _ (.inr (.inr ⟨hs, by omega⟩))).trans h.wa, (hk _ (.inr (.inr ⟨by omega, Nat.le_refl _⟩))).trans h.no,
    Kd.N_step h.wn (fun k hk' _ => hk k (.inr (.inr ⟨hk'.1, by omega⟩)))⟩
theorem Sb.setN {ab rb s0 wb : Nat} {A : Option Addr} {c : Nat} {at' : Int} {L : List (List Int)} {n : Nat} {b : Bool} {W : World} (h : Sb ab rb s0 wb A c at' L n b W) (ha : ab < s0) (hr : rb < s0) (hs : s0 ≤ wb) (m : Nat) :
    Sb ab rb s0 wb A c at' L m b (W.setCell ⟨wb + 1, 0, none⟩ (.int .i64 m)) :=
  ⟨(Below.heap_setCell _ _ _ _ (by show ab ≠ wb + 1; omega)).trans h.at_, (Below.heap_setCell _ _ _ _ (by show rb ≠ wb + 1; omega)).trans h.re, (Below.heap_setCell _ _ _ _ (by show wb ≠ wb + 1; omega)).trans h.wa,
    heap_set_same h.no 0 _, Kd.N_far h.wn (fun k hk => by show k ≠ wb + 1; omega) _⟩
theorem Sb.setR {ab rb s0 wb : Nat} {A : Option Addr} {c : Nat} {at' : Int} {L : List (List Int)} {n : Nat} {b : Bool} {W : World} (h : Sb ab rb s0 wb A c at' L n b W) (ha : ab < rb) (hr : rb < s0) (hs : s0 ≤ wb) (b' : Bool) :
    Sb ab rb s0 wb A c at' L n b' (W.setCell ⟨rb, 0, none⟩ (.bool b')) :=
  ⟨(Below.heap_setCell _ _ _ _ (by show ab ≠ rb; omega)).trans h.at_, heap_set_same h.re 0 _, (Below.heap_setCell _ _ _ _ (by show wb ≠ rb; omega)).trans h.wa,
    (Below.heap_setCell _ _ _ _ (by show wb + 1 ≠ rb; omega)).trans h.no, Kd.N_far h.wn (fun k hk => by show k ≠ rb; omega) _⟩
theorem Sb.drewN {ab rb s0 wb : Nat} {A : Option Addr} {c : Nat} {at' : Int} {L : List (List Int)} {n : Nat} {b : Bool} {W : World} (h : Sb ab rb s0 wb A c at' L n b W) (m : Nat) : Sb ab rb s0 wb A c at' L n b (W.drewN m) :=
  ⟨h.at_, h.re, h.wa, h.no, Kd.N_drewN h.wn m⟩
theorem Sb.setFar {ab rb s0 wb : Nat} {A : Option Addr} {c : Nat} {at' : Int} {L : List (List Int)} {n : Nat} {b : Bool} {W : World} (h : Sb ab rb s0 wb A c at' L n b W) (hs : s0 ≤ wb) (p : Addr) (v : Value) (hp : ¬ Own ab rb s0 wb p.block) :
    Sb ab rb s0 wb A c at' L n b (W.setCell p v) := h.kept hs (fun k hk => Below.heap_setCell _ _ _ _ (fun e => hp (e ▸ hk)))

/-- Row number n of what is wanted. -/
theorem Sb.row {ab rb s0 wb : Nat} {A : Option Addr} {c : Nat} {at' : Int} {L : List (List Int)} {n m : Nat} {b : Bool} {W : World} (h : Sb ab rb s0 wb A c at' L m b W) (hn : n < L.length) :
    ∃ ad A0 c0, A = some ad ∧ W.cell? (ad.add n) = some (.slice A0 (L[n]).length c0) ∧ (L[n]).length ≤ c0 ∧ Kd.C (Kd.int .i64) W A0 (L[n]).length (L[n]) := by
  have h1 := (Kd.N_reads' h.wn).2.2
  have h2 := at_L1 h1 (n : Int) (by omega) (by omega)
  have e : rd_L1 L (n : Int) = L[n] := by simp [rd_L1, List.getElem?_eq_getElem hn]
  rwa [e] at h2

theorem prefix_snoc {α : Type} {pre L : List α} {x : α} (h : pre <+: L) (hn : pre.length < L.length) (hx : x = L[pre.length]) : pre ++ [x] <+: L := by
  obtain ⟨t, rfl⟩ := h
  cases t with
  | nil => simp at hn
  | cons y t =>
    have : x = y := by rw [hx]; simp
    subst this
    exact ⟨t, by simp⟩
theorem not_prefix_snoc {α : Type} {pre L : List α} {x : α} (h : ∀ hn : pre.length < L.length, x ≠ L[pre.length]) : ¬ (pre ++ [x] <+: L) := by
  rintro ⟨t, rfl⟩
  exact h (by simp) (by simp)

theorem subsL_big {xs : List Int} (h : 10 < xs.length) : (subsL xs).length = 0 := by simp [subsL, h]
theorem subsTo_small : ∀ n : Fin 11, (subsTo n n).length = 2 ^ n.val - 1 := by decide +kernel
theorem subsL_small {xs : List Int} (h : xs.length ≤ 10) : (subsL xs).length = 2 ^ xs.length - 1 := by
  rw [subsL, if_neg (by omega), List.length_map]
  exact subsTo_small ⟨xs.length, by omega⟩
theorem subsL_le (xs : List Int) : (subsL xs).length ≤ 1023 := by
  by_cases h : 10 < xs.length
  · rw [subsL_big h]; omega
  · rw [subsL_small (by omega)]
    have : 2 ^ xs.length ≤ 2 ^ 10 := Nat.pow_le_pow_right (by omega) (by omega)
    omega
/-- What a round finds; how a round breaks off; how it returns. -/
def BsI (ab rb s0 wb : Nat) (A : Option Addr) (c : Nat) (at' : Int) (L : List (List Int)) (pre : List (Nat × List Int)) (W : World) (D : Nat → Prop) : Prop :=
  (∀ k, D k ↔ Own ab rb s0 wb k) ∧ Sb ab rb s0 wb A c at' L pre.length false W ∧ pre.map (·.2) <+: L
def BsB (ab rb s0 wb : Nat) (A : Option Addr) (c : Nat) (at' : Int) (L : List (List Int)) (pre : List (Nat × List Int)) (W : World) (D : Nat → Prop) : Prop :=
  BsI ab rb s0 wb A c at' L pre W D ∧ (pre.length : Int) = at'
def BsR (L : List (List Int)) (pre : List (Nat × List Int)) (W : World) (D : Nat → Prop) : Prop := ¬ (pre.map (·.2) <+: L)
theorem BsI.foot {ab rb s0 wb : Nat} {A : Option Addr} {c : Nat} {at' : Int} {L : List (List Int)} (hs : s0 ≤ wb) : Foot (BsI ab rb s0 wb A c at' L) :=
  fun s W W' D h hk => ⟨h.1, h.2.1.kept hs (fun k hk' => hk k ((h.1 k).2 hk')), h.2.2⟩
theorem BsB.foot {ab rb s0 wb : Nat} {A : Option Addr} {c : Nat} {at' : Int} {L : List (List Int)} (hs : s0 ≤ wb) : Foot (BsB ab rb s0 wb A c at' L) :=
  fun s W W' D h hk => ⟨BsI.foot hs _ _ _ _ h.1 hk, h.2⟩
theorem BsR.foot {L : List (List Int)} : Foot (BsR L) := fun s W W' D h hk => h
/-- A round that does not fit. -/
theorem Bs_bad {ab rb s0 wb : Nat} {A : Option Addr} {c : Nat} {at' : Int} {L : List (List Int)} {pre : List (Nat × List Int)} {x : Nat × List Int} {W : World} {D : Nat → Prop} (hi : BsI ab rb s0 wb A c at' L pre W D) (hD : ∀ k, D k → k < W.heap.size) (m : Nat) (v : Value)
    (hx : ∀ hn : pre.length < L.length, x.2 ≠ L[pre.length]) : ∃ D', Round D (fun k => k = x.1) W ((W.drewN m).setCell ⟨rb, 0, none⟩ v) D' ∧ BsR L (pre ++ [x]) ((W.drewN m).setCell ⟨rb, 0, none⟩ v) D' := by
  refine ⟨D, ⟨(Fr.drewN _ W m).trans (Fr.setCell _ _ _ (fun _ => .inl ((hi.1 rb).2 (.inr (.inl rfl))))), fun k hk => ⟨.inl hk, by simpa [World.setCell] using hD k hk⟩⟩, ?_⟩
  unfold BsR
  rw [List.map_append]
  exact not_prefix_snoc (fun hn => by simpa using hx (by simpa using hn))
/-- A round that fits. -/
theorem Bs_good {ab rb s0 wb : Nat} {A : Option Addr} {c : Nat} {at' : Int} {L : List (List Int)} {pre : List (Nat × List Int)} {x : Nat × List Int} {W Wi : World} {D : Nat → Prop} (hs : s0 ≤ wb) (ha : ab < s0) (hr : rb < s0) (hi : BsI ab rb s0 wb A c at' L pre W D) (hD : ∀ k, D k → k < W.heap.size) (hf : Fr (fun k => k = x.1) W Wi) (hxD : ¬ D x.1)
    (hn : pre.length < L.length) (hx : x.2 = L[pre.length]) : ∃ D', Round D (fun k => k = x.1) W (Wi.setCell ⟨wb + 1, 0, none⟩ (.int .i64 ((pre.length + 1 : Nat) : Int))) D' ∧ BsI ab rb s0 wb A c at' L (pre ++ [x]) (Wi.setCell ⟨wb + 1, 0, none⟩ (.int .i64 ((pre.length + 1 : Nat) : Int))) D' := by
  have hown : Own ab rb s0 wb (wb + 1) := .inr (.inr ⟨by omega, Nat.le_refl _⟩)
  refine ⟨D, ⟨(hf.mono (fun k _ h => .inr h)).trans (Fr.setCell _ _ _ (fun _ => .inl ((hi.1 (wb + 1)).2 hown))), fun k hk => ⟨.inl hk, ?_⟩⟩, hi.1, ?_, ?_⟩
  · have := hD k hk; have := hf.size; simp [World.setCell]; omega
  · have h1 : Sb ab rb s0 wb A c at' L pre.length false Wi := hi.2.1.kept hs (fun k hk => hf.block k (hD k ((hi.1 k).2 hk)) (fun e => hxD (e ▸ (hi.1 k).2 hk)))
    have h2 := h1.setN ha hr hs (pre.length + 1)
    simpa using h2
  · rw [List.map_append]
    exact prefix_snoc hi.2.2 (by simpa using hn) (by simpa using hx)
end Go.Proofs.YthfapneifbjlmaaDoor
