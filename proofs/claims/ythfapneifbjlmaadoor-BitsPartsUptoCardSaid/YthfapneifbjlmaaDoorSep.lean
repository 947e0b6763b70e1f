/- A law for a range over a function: what the body owns is a set of blocks (a footprint); the iterator keeps what is the body's, the body what is the iterator's. -/
import Derived.RangeFuncNested
import Derived.RangeFuncLeaves
import Derived.RangeFuncCalls
import Derived.WalkKit
import Derived.Deep.Draws
namespace Go.Proofs.YthfapneifbjlmaaDoor
open Go.RowKit
set_option linter.unusedVariables false

/-- From W to W' nothing but the blocks of M has turned (and new blocks have come). -/
structure Fr (M : Nat → Prop) (W W' : World) : Prop where
  os : W'.os = W.os
  tape : W'.tape = W.tape
  output : W'.output = W.output
  size : W.heap.size ≤ W'.heap.size
  block : ∀ k, k < W.heap.size → ¬ M k → W'.heap[k]? = W.heap[k]?
theorem Fr.refl (M : Nat → Prop) (W : World) : Fr M W W := ⟨rfl, rfl, rfl, Nat.le_refl _, fun _ _ _ => rfl⟩
theorem Fr.trans {M : Nat → Prop} {a b c : World} (h : Fr M a b) (k : Fr M b c) : Fr M a c :=
  ⟨k.os.trans h.os, k.tape.trans h.tape, k.output.trans h.output, Nat.le_trans h.size k.size, fun i hi hm => (k.block i (Nat.lt_of_lt_of_le hi h.size) hm).trans (h.block i hi hm)⟩
/-- The second step may turn more of what is new. -/
theorem Fr.then_ {M M' : Nat → Prop} {a b c : World} (h : Fr M a b) (k : Fr M' b c) (hm : ∀ i, i < a.heap.size → M' i → M i) : Fr M a c :=
  ⟨k.os.trans h.os, k.tape.trans h.tape, k.output.trans h.output, Nat.le_trans h.size k.size, fun i hi hn => (k.block i (Nat.lt_of_lt_of_le hi h.size) (fun h2 => hn (hm i hi h2))).trans (h.block i hi hn)⟩
theorem Fr.mono {M M' : Nat → Prop} {a b : World} (h : Fr M a b) (hm : ∀ k, k < a.heap.size → M k → M' k) : Fr M' a b := ⟨h.os, h.tape, h.output, h.size, fun i hi hn => h.block i hi (fun h2 => hn (hm i hi h2))⟩
theorem Fr.of_grownBy {a b : World} {row : Option Nat} (h : a.grownBy b row) : Fr (fun k => some k = row) a b := ⟨h.os, h.tape, h.output, h.size, fun i hi hn => h.block i hi hn⟩
theorem Fr.of_below {M : Nat → Prop} {a b : World} (h : Below a.heap.size a b) : Fr M a b := ⟨h.os, h.tape, h.output, h.size, fun i hi _ => h.block i hi⟩
theorem Fr.drewN (M : Nat → Prop) (w : World) (n : Nat) : Fr M w (w.drewN n) := ⟨rfl, rfl, rfl, Nat.le_refl _, fun _ _ _ => rfl⟩
theorem Fr.alloc (M : Nat → Prop) (w : World) (o : Obj) : Fr M w (w.alloc o) := .of_below ((Below.refl _ w).alloc (Nat.le_refl _) o)
theorem Fr.setCell {M : Nat → Prop} (w : World) (p : Addr) (v : Value) (h : p.block < w.heap.size → M p.block) : Fr M w (w.setCell p v) :=
  ⟨rfl, rfl, rfl, by simp [World.setCell], fun k hk hn => Below.heap_setCell w p v k (fun e => hn (by subst e; exact h hk))⟩
theorem Fr.putObj {M : Nat → Prop} (w : World) (r : Nat) (o : Obj) (h : M r) : Fr M w (w.putObj r o) :=
  ⟨rfl, rfl, rfl, by simp, fun k hk hn => World.putObj_heap_other (fun e => hn (e ▸ h))⟩
/-- What lay below B and is not in M. -/
theorem Fr.below {M : Nat → Prop} {a b : World} (h : Fr M a b) (hm : ∀ k, k < a.heap.size → ¬ M k) : Below a.heap.size a b := ⟨h.os, h.tape, h.output, h.size, fun i hi => h.block i hi (hm i hi)⟩
theorem Fr.cell {M : Nat → Prop} {a b : World} (h : Fr M a b) {p : Addr} {v : Value} (hc : a.cell? p = some v) (hn : ¬ M p.block) : b.cell? p = some v :=
  (World.cell?_of_block (h.block p.block (World.block_lt_of_cell? a p hc) hn)).trans hc

/-- What is said of a set of blocks alone. -/
def Foot {β : Type} (J : β → World → (Nat → Prop) → Prop) : Prop := ∀ s W W' D, J s W D → (∀ k, D k → W'.heap[k]? = W.heap[k]?) → J s W' D

/-- What a round leaves: it has turned what was its own, and what was handed to it; what is its own now was so, was handed to it, or is new. -/
structure Round (D H : Nat → Prop) (W W' : World) (D' : Nat → Prop) : Prop where
  fr : Fr (fun k => D k ∨ H k) W W'
  own : ∀ k, D' k → (D k ∨ H k ∨ W.heap.size ≤ k) ∧ k < W'.heap.size

/-- AN ITERATOR's CONTRACT. -/
def SeqSep {α : Type} (P : Program) (g : Nat) (lb : Array Value) (encs : α → Array Value) (Hand : α → Nat → Prop) (Pre : α → World → Prop) (S Sp : List α → Prop) (Iw : World → (Nat → Prop) → Prop) : Prop :=
  ∀ (l n : Nat) (J Jx : List α → World → (Nat → Prop) → Prop) (W : World) (D : Nat → Prop), Iw W D → (∀ k, D k → k < W.heap.size) → Foot J → Foot Jx → J [] W D →
    (∀ pre x W1 D1, J pre W1 D1 → (∀ k, D1 k → k < W1.heap.size) → Pre x W1 → (∀ k, Hand x k → ¬ D1 k) →
      YieldAt Fence.wide n P l (encs x) W1 fun e W' => ∃ D', Round D1 (Hand x) W1 W' D' ∧ ((e = .returned (.bool true) ∧ J (pre ++ [x]) W' D') ∨ (e = .returned (.bool false) ∧ Jx (pre ++ [x]) W' D'))) →
    CallsIn Fence.wide (n + 1) P g (#[.func (.yield l) #[] #[]] ++ lb) W fun e W' => (∃ v, e = .returned v) ∧ ∃ D', Fr D W W' ∧ (∀ k, D' k → (D k ∨ W.heap.size ≤ k) ∧ k < W'.heap.size) ∧
      ((∃ xs, S xs ∧ J xs W' D') ∨ (∃ pre, Sp pre ∧ Jx pre W' D'))

/-- How the body of a round may be left. -/
def sepPost {α : Type} (I : List α → World → (Nat → Prop) → Prop) (Ix : Code → List α → World → (Nat → Prop) → Prop) (xs : List α) (D H : Nat → Prop) (W : World) : Exit → Act → World → Prop
  | .normal, _, W' => ∃ D', Round D H W W' D' ∧ I xs W' D'
  | .ret, _, W' => ∃ D', Round D H W W' D' ∧ Ix .ret xs W' D'
  | .exit id, _, W' => ∃ D', Round D H W W' D' ∧ Ix (.exit id) xs W' D'
  | .goto t, _, W' => ∃ D', Round D H W W' D' ∧ Ix (.goto t) xs W' D'
  | .panic _, _, _ => False
  | .outgrown, _, _ => False

/-- THE LAW. -/
theorem rangeFunc_sep {α : Type} {P : Program} {n : Nat} {g : Operand} {ps : Array Tmp} {assign body : Code} {Q : Exit → Act → World → Prop} {a : Act} {w : World}
    {gf : Nat} {lb : Array Value} (hg : a.eval g = .func (.func gf) #[] lb) (eg : ∀ args w, (callFunc gf args).run P w = .ok (.enter gf args) w)
    {encs : α → Array Value} {Hand : α → Nat → Prop} {Pre : α → World → Prop} {S Sp : List α → Prop} {Iw : World → (Nat → Prop) → Prop} (hseq : SeqSep P gf lb encs Hand Pre S Sp Iw)
    (hps : ∀ x, (encs x).size = ps.size) (hPre : ∀ x W W', (∀ k, Hand x k → W'.heap[k]? = W.heap[k]?) → Pre x W → Pre x W')
    (I : List α → World → (Nat → Prop) → Prop) (Ix : Code → List α → World → (Nat → Prop) → Prop) (D0 : Nat → Prop) (hD0 : ∀ k, D0 k → k < w.heap.size) (hI : Foot I) (hIx : ∀ c, Foot (Ix c)) (h0 : I [] w D0)
    (hIw : ∀ W1 D1, Below w.heap.size w W1 → (∀ k, D1 k → D0 k ∨ w.heap.size ≤ k) → Iw W1 D1) (a₁ : α → Act)
    (hassign : ∀ (l : Nat) (x : α) (W : World) (K : Act → World → Prop), K (a₁ x) W →
      assign.wpIn (Fence.wide.inRound l) n P (Exit.then K (fun _ _ _ => False)) { tmps := (ps.zip (encs x)).foldl (fun t (p, v) => t.setIfInBounds p v) a.tmps, defers := [] } W)
    (hbody : ∀ (l : Nat) (pre : List α) (x : α) (W : World) (D : Nat → Prop), I pre W D → (∀ k, D k → k < W.heap.size) → Pre x W → (∀ k, Hand x k → ¬ D k) → w.heap.size ≤ W.heap.size →
      body.wpIn (Fence.wide.inRound l) n P (sepPost I Ix (pre ++ [x]) D (Hand x) W) (a₁ x) W)
    (hdone : ∀ (xs : List α) (W : World) (D : Nat → Prop), S xs → I xs W D → Fr D0 w W → W.heap[w.heap.size]? = some (.deferred (some [])) → ¬ D w.heap.size → (∀ k, D k → D0 k ∨ w.heap.size ≤ k) → Q .normal { a with defers := { target := .collected w.heap.size, args := #[] } :: a.defers } W)
    (hstop : ∀ (c : Code) (pre : List α) (W : World) (D : Nat → Prop), Sp pre → Ix c pre W D → Fr D0 w W → W.heap[w.heap.size]? = some (.deferred (some [])) → ¬ D w.heap.size → (∀ k, D k → D0 k ∨ w.heap.size ≤ k) → c.wpIn Fence.wide (n + 2) P Q { a with defers := { target := .collected w.heap.size, args := #[] } :: a.defers } W) :
    (Code.rangeFunc g ps assign body).wpIn Fence.wide (n + 2) P Q a w := by
  refine wpIn_rangeFunc ?_
  intro fn hfn
  rw [show Fence.wide.round = none from rfl]
  obtain ⟨rec, hrec⟩ : ∃ rec : LoopState → Option Code → Loop, rec = fun st pe => { state := st, pending := pe, fn, tmps := a.tmps, params := ps, assign, body, defers := w.heap.size } := ⟨_, rfl⟩
  obtain ⟨W1, hW1⟩ : ∃ W1, (w.alloc (.deferred (some []))).alloc (.loop (rec .ready none)) = W1 := ⟨_, rfl⟩
  have hL1 : W1.heap[w.heap.size + 1]? = some (.loop (rec .ready none)) := by
    rw [← hW1]; have := World.alloc_heap_new (w.alloc (.deferred (some []))) (.loop (rec .ready none)); rwa [World.size_alloc] at this
  have hK1 : W1.heap[w.heap.size]? = some (.deferred (some [])) := by
    rw [← hW1]; exact (Below.heap_alloc _ _ _ (by simp)).trans (World.alloc_heap_new w _)
  have hbw : Below w.heap.size w W1 := by rw [← hW1]; exact ((Below.refl _ w).alloc (Nat.le_refl _) _).alloc (by simp) _
  have hsz : W1.heap.size = w.heap.size + 2 := by rw [← hW1]; simp
  have hI1 : I [] W1 D0 := hI _ _ _ _ h0 (fun k hk => hbw.block k (hD0 k hk))
  refine ⟨w.heap.size + 1, [{ target := .collected w.heap.size, args := #[] }], W1, { target := .fn (.func gf) lb, args := #[.func (.yield (w.heap.size + 1)) #[] #[]] }, W1, gf,
    #[.func (.yield (w.heap.size + 1)) #[] #[]] ++ lb, W1, ?_, ?_, ?_, ?_, (fun h => by cases h), ?_⟩
  · rw [← hW1, hrec]; exact run_enterLoop_outer _ _ _ _ _
  · simp only [resolve, hg]
    simp [go_sem]
  · intro f' hf'; trivial
  · simp [invoke, go_sem, eg]
  · let M : Nat → Prop := fun k => k = w.heap.size ∨ k = w.heap.size + 1
    refine (hseq (w.heap.size + 1) n
      (fun pre W E => ∃ D, (∀ k, D k → k ≠ w.heap.size ∧ k ≠ w.heap.size + 1) ∧ (∀ k, E k ↔ D k ∨ M k) ∧ I pre W D ∧ W.heap[w.heap.size + 1]? = some (.loop (rec .ready none)) ∧ W.heap[w.heap.size]? = some (.deferred (some [])))
      (fun pre W E => ∃ c D, (∀ k, D k → k ≠ w.heap.size ∧ k ≠ w.heap.size + 1) ∧ (∀ k, E k ↔ D k ∨ M k) ∧ Ix c pre W D ∧ W.heap[w.heap.size + 1]? = some (.loop (rec .done (some c))) ∧ W.heap[w.heap.size]? = some (.deferred (some [])))
      W1 (fun k => D0 k ∨ M k)
      (hIw _ _ hbw (fun k hk => hk.imp id (fun h => by rcases h with rfl | rfl <;> omega)))
      (fun k hk => by
        rcases hk with h | h
        · have := hD0 k h; omega
        · rcases h with rfl | rfl <;> omega)
      ?foot1 ?foot2 ⟨D0, fun k hk => by have := hD0 k hk; omega, fun k => Iff.rfl, hI1, hL1, hK1⟩ ?round).mono ?behind
    case foot1 =>
      rintro s A B E ⟨D, hd, hE, hi, hl, hk⟩ hag
      exact ⟨D, hd, hE, hI _ _ _ _ hi (fun k hk => hag k ((hE k).2 (.inl hk))), (hag _ ((hE _).2 (.inr (.inr rfl)))).trans hl, (hag _ ((hE _).2 (.inr (.inl rfl)))).trans hk⟩
    case foot2 =>
      rintro s A B E ⟨c, D, hd, hE, hi, hl, hk⟩ hag
      exact ⟨c, D, hd, hE, hIx c _ _ _ _ hi (fun k hk => hag k ((hE k).2 (.inl hk))), (hag _ ((hE _).2 (.inr (.inr rfl)))).trans hl, (hag _ ((hE _).2 (.inr (.inl rfl)))).trans hk⟩
    case round =>
      rintro pre x W E ⟨D, hd, hE, hi, hl, hk⟩ hEb hpre hhand
      have hlt : w.heap.size + 1 < W.heap.size := (Array.getElem?_eq_some_iff.1 hl).1
      have hy := run_yield (P := P) (args := encs x) hl (by rw [hrec]; exact hps x)
      rw [hrec] at hy
      refine ⟨fn, _, assign, body, hy, roundIn_of_wpIn hfn (hassign _ x W _ ⟨_, run_beginRound hl (by rw [hrec]), ?_⟩)⟩
      have hl2 : (W.putObj (w.heap.size + 1) (.loop { rec .ready none with state := .busy })).heap[w.heap.size + 1]? = some (.loop { rec .ready none with state := .busy }) := World.putObj_heap_same hlt
      have hk2 : (W.putObj (w.heap.size + 1) (.loop { rec .ready none with state := .busy })).heap[w.heap.size]? = some (.deferred (some [])) := (World.putObj_heap_other (by omega)).trans hk
      have hnl : ∀ k, D k ∨ Hand x k → k ≠ w.heap.size ∧ k ≠ w.heap.size + 1 := by
        rintro k (h | h)
        · exact hd k h
        · exact ⟨fun e => hhand k h ((hE k).2 (.inr (.inl e))), fun e => hhand k h ((hE k).2 (.inr (.inr e)))⟩
      have hi2 : I pre (W.putObj (w.heap.size + 1) (.loop { rec .ready none with state := .busy })) D := hI _ _ _ _ hi (fun k hk => World.putObj_heap_other (hd k hk).2)
      have hp2 := hPre x W (W.putObj (w.heap.size + 1) (.loop { rec .ready none with state := .busy })) (fun k hk => World.putObj_heap_other (hnl k (.inr hk)).2) hpre
      refine wpIn_mono (hbody _ pre x _ D hi2 (fun k hk => by rw [World.putObj_size]; exact hEb k ((hE k).2 (.inl hk))) hp2 (fun k hk h => hhand k hk ((hE k).2 (.inl h))) (by rw [World.putObj_size]; omega)) ?_
      have fin : ∀ (jump : Option Code) (W3 : World) (D3 : Nat → Prop), Round D (Hand x) (W.putObj (w.heap.size + 1) (.loop { rec .ready none with state := .busy })) W3 D3 →
          (Instr.endRound (w.heap.size + 1) jump).run P W3 = .ok (.bool jump.isNone) (W3.putObj (w.heap.size + 1) (.loop (rec (if jump.isNone then .ready else .done) jump))) ∧
          (W3.putObj (w.heap.size + 1) (.loop (rec (if jump.isNone then .ready else .done) jump))).heap[w.heap.size + 1]? = some (.loop (rec (if jump.isNone then .ready else .done) jump)) ∧
          (W3.putObj (w.heap.size + 1) (.loop (rec (if jump.isNone then .ready else .done) jump))).heap[w.heap.size]? = some (.deferred (some [])) ∧
          Round E (Hand x) W (W3.putObj (w.heap.size + 1) (.loop (rec (if jump.isNone then .ready else .done) jump))) (fun k => D3 k ∨ M k) ∧ (∀ k, D3 k → k ≠ w.heap.size ∧ k ≠ w.heap.size + 1) := fun jump W3 D3 hR => by
        have hs3 := hR.fr.size
        rw [World.putObj_size] at hs3
        have hl3 := (hR.fr.block (w.heap.size + 1) (by rw [World.putObj_size]; exact hlt) (fun h => (hnl _ h).2 rfl)).trans hl2
        have hk3 := (hR.fr.block w.heap.size (by rw [World.putObj_size]; omega) (fun h => (hnl _ h).1 rfl)).trans hk2
        have := run_endRound (P := P) jump hl3
        rw [hrec] at this ⊢
        refine ⟨this, World.putObj_heap_same (Array.getElem?_eq_some_iff.1 hl3).1, (World.putObj_heap_other (by omega)).trans hk3, ⟨?_, fun k hk => ?_⟩, fun k hk => ?_⟩
        · refine Fr.trans (Fr.putObj W _ _ (.inl ((hE _).2 (.inr (.inr rfl))))) (Fr.trans (hR.fr.mono (fun k _ h => h.imp (fun h => (hE k).2 (.inl h)) id)) (Fr.putObj W3 _ _ (.inl ((hE _).2 (.inr (.inr rfl))))))
        · rcases hk with hk | hk
          · obtain ⟨h1, h2⟩ := hR.own k hk
            rw [World.putObj_size] at h1 ⊢
            exact ⟨h1.imp (fun h => (hE k).2 (.inl h)) id, h2⟩
          · refine ⟨.inl ((hE k).2 (.inr hk)), ?_⟩
            rw [World.putObj_size]
            rcases hk with rfl | rfl <;> omega
        · obtain ⟨h1, h2⟩ := hR.own k hk
          rw [World.putObj_size] at h1
          rcases h1 with h1 | h1 | h1
          · exact hnl k (.inl h1)
          · exact hnl k (.inr h1)
          · omega
      rintro e a3 W3 hp
      have keepI : ∀ (A B : World) (D3 : Nat → Prop) (o : Obj), (∀ k, D3 k → k ≠ w.heap.size ∧ k ≠ w.heap.size + 1) → ∀ k, D3 k → (A.putObj (w.heap.size + 1) o).heap[k]? = A.heap[k]? := fun A _ D3 o h k hk => World.putObj_heap_other (h k hk).2
      cases e with
      | normal =>
        obtain ⟨D3, hR, hi3⟩ := hp
        obtain ⟨hr, hl4, hk4, hRR, hD3⟩ := fin none W3 D3 hR
        exact ⟨_, _, hr, _, hRR, .inl ⟨rfl, D3, hD3, fun k => Iff.rfl, hI _ _ _ _ hi3 (keepI W3 W3 D3 _ hD3), hl4, hk4⟩⟩
      | ret =>
        obtain ⟨D3, hR, hi3⟩ := hp
        obtain ⟨hr, hl4, hk4, hRR, hD3⟩ := fin (some .ret) W3 D3 hR
        exact ⟨_, _, hr, _, hRR, .inr ⟨rfl, .ret, D3, hD3, fun k => Iff.rfl, hIx _ _ _ _ _ hi3 (keepI W3 W3 D3 _ hD3), hl4, hk4⟩⟩
      | exit id =>
        obtain ⟨D3, hR, hi3⟩ := hp
        obtain ⟨hr, hl4, hk4, hRR, hD3⟩ := fin (some (.exit id)) W3 D3 hR
        exact ⟨_, _, hr, _, hRR, .inr ⟨rfl, .exit id, D3, hD3, fun k => Iff.rfl, hIx _ _ _ _ _ hi3 (keepI W3 W3 D3 _ hD3), hl4, hk4⟩⟩
      | goto t =>
        obtain ⟨D3, hR, hi3⟩ := hp
        obtain ⟨hr, hl4, hk4, hRR, hD3⟩ := fin (some (.goto t)) W3 D3 hR
        exact ⟨_, _, hr, _, hRR, .inr ⟨rfl, .goto t, D3, hD3, fun k => Iff.rfl, hIx _ _ _ _ _ hi3 (keepI W3 W3 D3 _ hD3), hl4, hk4⟩⟩
      | panic ch => exact hp.elim
      | outgrown => exact hp.elim
    case behind =>
      have fin2 : ∀ (W2 : World) (o : Obj), Fr (fun k => D0 k ∨ M k) W1 W2 → Fr D0 w (W2.putObj (w.heap.size + 1) o) := fun W2 o hf =>
        ⟨hf.os.trans hbw.os, hf.tape.trans hbw.tape, hf.output.trans hbw.output, by rw [World.putObj_size]; have := hf.size; omega, fun k hk hn => (World.putObj_heap_other (by omega)).trans ((hf.block k (by omega) (fun h => h.elim hn (fun h => by rcases h with rfl | rfl <;> omega))).trans (hbw.block k hk))⟩
      have fin3 : ∀ (E D : Nat → Prop), (∀ k, E k ↔ D k ∨ M k) → (∀ k, D k → k ≠ w.heap.size ∧ k ≠ w.heap.size + 1) → (∀ k, E k → (D0 k ∨ M k) ∨ W1.heap.size ≤ k) → ∀ k, D k → D0 k ∨ w.heap.size ≤ k := fun E D hE hd hb k hk => by
        rcases hb k ((hE k).2 (.inl hk)) with (h | h) | h
        · exact .inl h
        · rcases h with rfl | rfl <;> exact .inr (by omega)
        · exact .inr (by omega)
      rintro e W2 ⟨⟨v, rfl⟩, E, hfr, hEE, (⟨xs, hS, D, hd, hE, hi, hl, hk⟩ | ⟨pre, hSp, c, D, hd, hE, hi, hl, hk⟩)⟩
      · exact ⟨none, _, by have := run_endLoop (P := P) hl (by rw [hrec]; simp); rw [hrec] at this; exact this,
          hdone xs _ D hS (hI _ _ _ _ hi (fun k hk => World.putObj_heap_other (hd k hk).2)) (fin2 _ _ hfr) ((World.putObj_heap_other (by omega)).trans hk) (fun h => (hd _ h).1 rfl) (fin3 E D hE hd (fun k hk => (hEE k hk).1))⟩
      · exact ⟨some c, _, by have := run_endLoop (P := P) hl (by rw [hrec]; simp); rw [hrec] at this; exact this,
          hstop c pre _ D hSp (hIx c _ _ _ _ hi (fun k hk => World.putObj_heap_other (hd k hk).2)) (fin2 _ _ hfr) ((World.putObj_heap_other (by omega)).trans hk) (fun h => (hd _ h).1 rfl) (fin3 E D hE hd (fun k hk => (hEE k hk).1))⟩
#print axioms rangeFunc_sep
end Go.Proofs.YthfapneifbjlmaaDoor
