/- Layer 3: tells. -/
import Derived.Test.YthfapneifbjlmaaDoorMA
import Derived.Test.YthfapneifbjlmaaDoorME
import Derived.Maps.OwnIn
import Derived.StillTailTactics
section
namespace Go.Proofs.YthfapneifbjlmaaDoor.Sc
open Go.RowKit Go.Proofs.YthfapneifbjlmaaDoor
set_option linter.unusedVariables false

/-- AN ITERATOR's CONTRACT. -/
def SeqSep {α : Type} (P : Program) (g : Nat) (lb : Array Value) (encs : α → Array Value) (Hand : α → Nat → Prop) (Pre : α → World → Prop) (S Sp : List α → Prop) (Iw : World → (Nat → Prop) → Prop) : Prop :=
  ∀ (l n : Nat) (J Jx : List α → World → (Nat → Prop) → Prop) (W : World) (D : Nat → Prop), Iw W D → (∀ k, D k → k < W.heap.size) → Foot J → Foot Jx → J [] W D →
    (∀ pre x W1 D1, J pre W1 D1 → (∀ k, D1 k → k < W1.heap.size) → Pre x W1 → (∀ k, Hand x k → ¬ D1 k) → Sp (pre ++ [x]) →
      YieldAt Fence.wide n P l (encs x) W1 fun e W' => ∃ D', Round D1 (Hand x) W1 W' D' ∧ ((e = .returned (.bool true) ∧ J (pre ++ [x]) W' D') ∨ (e = .returned (.bool false) ∧ Jx (pre ++ [x]) W' D'))) →
    CallsIn Fence.wide (n + 1) P g (#[.func (.yield l) #[] #[]] ++ lb) W fun e W' => (∃ v, e = .returned v) ∧ ∃ D', Fr D W W' ∧ (∀ k, D' k → (D k ∨ W.heap.size ≤ k) ∧ k < W'.heap.size) ∧
      ((∃ xs, S xs ∧ J xs W' D') ∨ (∃ pre, Sp pre ∧ Jx pre W' D'))

/-- THE LAW. -/
theorem rangeFunc_sep {α : Type} {P : Program} {n : Nat} {g : Operand} {ps : Array Tmp} {assign body : Code} {Q : Exit → Act → World → Prop} {a : Act} {w : World}
    {gf : Nat} {lb : Array Value} (hg : a.eval g = .func (.func gf) #[] lb) (eg : ∀ args w, (callFunc gf args).run P w = .ok (.enter gf args) w)
    {encs : α → Array Value} {Hand : α → Nat → Prop} {Pre : α → World → Prop} {S Sp : List α → Prop} {Iw : World → (Nat → Prop) → Prop} (hseq : SeqSep P gf lb encs Hand Pre S Sp Iw)
    (hps : ∀ x, (encs x).size = ps.size) (hPre : ∀ x W W', (∀ k, Hand x k → W'.heap[k]? = W.heap[k]?) → Pre x W → Pre x W')
    (I : List α → World → (Nat → Prop) → Prop) (Ix : Code → List α → World → (Nat → Prop) → Prop) (D0 : Nat → Prop) (hD0 : ∀ k, D0 k → k < w.heap.size) (hI : Foot I) (hIx : ∀ c, Foot (Ix c)) (h0 : I [] w D0)
    (hIw : ∀ W1 D1, Below w.heap.size w W1 → (∀ k, D1 k → D0 k ∨ w.heap.size ≤ k) → Iw W1 D1) (a₁ : α → Act)
    (hassign : ∀ (l : Nat) (x : α) (W : World) (K : Act → World → Prop), K (a₁ x) W →
      assign.wpIn (Fence.wide.inRound l) n P (Exit.then K (fun _ _ _ => False)) { tmps := (ps.zip (encs x)).foldl (fun t (p, v) => t.setIfInBounds p v) a.tmps, defers := [] } W)
    (hbody : ∀ (l : Nat) (pre : List α) (x : α) (W : World) (D : Nat → Prop), I pre W D → (∀ k, D k → k < W.heap.size) → Pre x W → (∀ k, Hand x k → ¬ D k) → w.heap.size ≤ W.heap.size → Sp (pre ++ [x]) →
      body.wpIn (Fence.wide.inRound l) n P (sepPost I Ix (pre ++ [x]) D (Hand x) W) (a₁ x) W)
    (hdone : ∀ (xs : List α) (W : World) (D : Nat → Prop), S xs → I xs W D → Fr D0 w W → W.heap[w.heap.size]? = some (.deferred (some [])) → ¬ D w.heap.size → (∀ k, D k → D0 k ∨ w.heap.size ≤ k) → Q .normal { a with defers := { target := .collected w.heap.size, args := #[] } :: a.defers } W)
    (hstop : ∀ (c : Code) (pre : List α) (W : World) (D : Nat → Prop), Sp pre → Ix c pre W D → Fr D0 w W → W.heap[w.heap.size]? = some (.deferred (some [])) → ¬ D w.heap.size → (∀ k, D k → D0 k ∨ w.heap.size ≤ k) → c.wpIn Fence.wide (n + 2) P Q { a with defers := { target := .collected w.heap.size, args := #[] } :: a.defers } W) :
    (Code.rangeFunc g ps assign body).wpIn Fence.wide (n + 2) P Q a w := by
  refine wpIn_rangeFunc ?_
  intro fn hfn
  rw [show Fence.wide.round = none from rfl]
  obtain ⟨rec, hrec⟩ : ∃ rec : LoopState → Option Code → Loop, rec = fun st pe => { state := st, pending := pe, fn, tmps := a.tmps, params := ps, assign, body, defers := w.heap.size } := ⟨_, rfl⟩
  obtain ⟨W1, hW1⟩ : ∃ W1, (w.alloc (.deferred (some []))).alloc (.loop (rec .ready none)) = W1 := ⟨_, rfl⟩
  have hL1 : W1.heap[w.heap.size + 1]? = some (.loop (rec .ready none)) := by
    rw [← hW1]; have := World.alloc_heap_new (w.alloc (.deferred (some []))) (.loop (rec .ready none)); rwa [World.size_alloc] at this
  have hK1 : W1.heap[w.heap.size]? = some (.deferred (some [])) := by
    rw [← hW1]; exact (Below.heap_alloc _ _ _ (by simp)).trans (World.alloc_heap_new w _)
  have hbw : Below w.heap.size w W1 := by rw [← hW1]; exact ((Below.refl _ w).alloc (Nat.le_refl _) _).alloc (by simp) _
  have hsz : W1.heap.size = w.heap.size + 2 := by rw [← hW1]; simp
  have hI1 : I [] W1 D0 := hI _ _ _ _ h0 (fun k hk => hbw.block k (hD0 k hk))
  refine ⟨w.heap.size + 1, [{ target := .collected w.heap.size, args := #[] }], W1, { target := .fn (.func gf) lb, args := #[.func (.yield (w.heap.size + 1)) #[] #[]] }, W1, gf,
    #[.func (.yield (w.heap.size + 1)) #[] #[]] ++ lb, W1, ?_, ?_, ?_, ?_, (fun h => by cases h), ?_⟩
  · rw [← hW1, hrec]; exact run_enterLoop_outer _ _ _ _ _
  · simp only [resolve, hg]
    simp [go_sem]
  · intro f' hf'; trivial
  · simp [invoke, go_sem, eg]
  · let M : Nat → Prop := fun k => k = w.heap.size ∨ k = w.heap.size + 1
    refine (hseq (w.heap.size + 1) n
      (fun pre W E => ∃ D, (∀ k, D k → k ≠ w.heap.size ∧ k ≠ w.heap.size + 1) ∧ (∀ k, E k ↔ D k ∨ M k) ∧ I pre W D ∧ W.heap[w.heap.size + 1]? = some (.loop (rec .ready none)) ∧ W.heap[w.heap.size]? = some (.deferred (some [])))
      (fun pre W E => ∃ c D, (∀ k, D k → k ≠ w.heap.size ∧ k ≠ w.heap.size + 1) ∧ (∀ k, E k ↔ D k ∨ M k) ∧ Ix c pre W D ∧ W.heap[w.heap.size + 1]? = some (.loop (rec .done (some c))) ∧ W.heap[w.heap.size]? = some (.deferred (some [])))
      W1 (fun k => D0 k ∨ M k)
      (hIw _ _ hbw (fun k hk => hk.imp id (fun h => by rcases h with rfl | rfl <;> omega)))
      (fun k hk => by
        rcases hk with h | h
        · have := hD0 k h; omega
        · rcases h with rfl | rfl <;> omega)
      ?foot1 ?foot2 ⟨D0, fun k hk => by have := hD0 k hk; omega, fun k => Iff.rfl, hI1, hL1, hK1⟩ ?round).mono ?behind
    case foot1 =>
      rintro s A B E ⟨D, hd, hE, hi, hl, hk⟩ hag
      exact ⟨D, hd, hE, hI _ _ _ _ hi (fun k hk => hag k ((hE k).2 (.inl hk))), (hag _ ((hE _).2 (.inr (.inr rfl)))).trans hl, (hag _ ((hE _).2 (.inr (.inl rfl)))).trans hk⟩
    case foot2 =>
      rintro s A B E ⟨c, D, hd, hE, hi, hl, hk⟩ hag
      exact ⟨c, D, hd, hE, hIx c _ _ _ _ hi (fun k hk => hag k ((hE k).2 (.inl hk))), (hag _ ((hE _).2 (.inr (.inr rfl)))).trans hl, (hag _ ((hE _).2 (.inr (.inl rfl)))).trans hk⟩
    case round =>
      rintro pre x W E ⟨D, hd, hE, hi, hl, hk⟩ hEb hpre hhand hspx
      have hlt : w.heap.size + 1 < W.heap.size := (Array.getElem?_eq_some_iff.1 hl).1
      have hy := run_yield (P := P) (args := encs x) hl (by rw [hrec]; exact hps x)
      rw [hrec] at hy
      refine ⟨fn, _, assign, body, hy, roundIn_of_wpIn hfn (hassign _ x W _ ⟨_, run_beginRound hl (by rw [hrec]), ?_⟩)⟩
      have hl2 : (W.putObj (w.heap.size + 1) (.loop { rec .ready none with state := .busy })).heap[w.heap.size + 1]? = some (.loop { rec .ready none with state := .busy }) := World.putObj_heap_same hlt
      have hk2 : (W.putObj (w.heap.size + 1) (.loop { rec .ready none with state := .busy })).heap[w.heap.size]? = some (.deferred (some [])) := (World.putObj_heap_other (by omega)).trans hk
      have hnl : ∀ k, D k ∨ Hand x k → k ≠ w.heap.size ∧ k ≠ w.heap.size + 1 := by
        rintro k (h | h)
        · exact hd k h
        · exact ⟨fun e => hhand k h ((hE k).2 (.inr (.inl e))), fun e => hhand k h ((hE k).2 (.inr (.inr e)))⟩
      have hi2 : I pre (W.putObj (w.heap.size + 1) (.loop { rec .ready none with state := .busy })) D := hI _ _ _ _ hi (fun k hk => World.putObj_heap_other (hd k hk).2)
      have hp2 := hPre x W (W.putObj (w.heap.size + 1) (.loop { rec .ready none with state := .busy })) (fun k hk => World.putObj_heap_other (hnl k (.inr hk)).2) hpre
      refine wpIn_mono (hbody _ pre x _ D hi2 (fun k hk => by rw [World.putObj_size]; exact hEb k ((hE k).2 (.inl hk))) hp2 (fun k hk h => hhand k hk ((hE k).2 (.inl h))) (by rw [World.putObj_size]; omega) hspx) ?_
      have fin : ∀ (jump : Option Code) (W3 : World) (D3 : Nat → Prop), Round D (Hand x) (W.putObj (w.heap.size + 1) (.loop { rec .ready none with state := .busy })) W3 D3 →
          (Instr.endRound (w.heap.size + 1) jump).run P W3 = .ok (.bool jump.isNone) (W3.putObj (w.heap.size + 1) (.loop (rec (if jump.isNone then .ready else .done) jump))) ∧
          (W3.putObj (w.heap.size + 1) (.loop (rec (if jump.isNone then .ready else .done) jump))).heap[w.heap.size + 1]? = some (.loop (rec (if jump.isNone then .ready else .done) jump)) ∧
          (W3.putObj (w.heap.size + 1) (.loop (rec (if jump.isNone then .ready else .done) jump))).heap[w.heap.size]? = some (.deferred (some [])) ∧
          Round E (Hand x) W (W3.putObj (w.heap.size + 1) (.loop (rec (if jump.isNone then .ready else .done) jump))) (fun k => D3 k ∨ M k) ∧ (∀ k, D3 k → k ≠ w.heap.size ∧ k ≠ w.heap.size + 1) := fun jump W3 D3 hR => by
        have hs3 := hR.fr.size
        rw [World.putObj_size] at hs3
        have hl3 := (hR.fr.block (w.heap.size + 1) (by rw [World.putObj_size]; exact hlt) (fun h => (hnl _ h).2 rfl)).trans hl2
        have hk3 := (hR.fr.block w.heap.size (by rw [World.putObj_size]; omega) (fun h => (hnl _ h).1 rfl)).trans hk2
        have := run_endRound (P := P) jump hl3
        rw [hrec] at this ⊢
        refine ⟨this, World.putObj_heap_same (Array.getElem?_eq_some_iff.1 hl3).1, (World.putObj_heap_other (by omega)).trans hk3, ⟨?_, fun k hk => ?_⟩, fun k hk => ?_⟩
        · refine Fr.trans (Fr.putObj W _ _ (.inl ((hE _).2 (.inr (.inr rfl))))) (Fr.trans (hR.fr.mono (fun k _ h => h.imp (fun h => (hE k).2 (.inl h)) id)) (Fr.putObj W3 _ _ (.inl ((hE _).2 (.inr (.inr rfl))))))
        · rcases hk with hk | hk
          · obtain ⟨h1, h2⟩ := hR.own k hk
            rw [World.putObj_size] at h1 ⊢
            exact ⟨h1.imp (fun h => (hE k).2 (.inl h)) id, h2⟩
          · refine ⟨.inl ((hE k).2 (.inr hk)), ?_⟩
            rw [World.putObj_size]
            rcases hk with rfl | rfl <;> omega
        · obtain ⟨h1, h2⟩ := hR.own k hk
          rw [World.putObj_size] at h1
          rcases h1 with h1 | h1 | h1
          · exact hnl k (.inl h1)
          · exact hnl k (.inr h1)
          · omega
      rintro e a3 W3 hp
      have keepI : ∀ (A B : World) (D3 : Nat → Prop) (o : Obj), (∀ k, D3 k → k ≠ w.heap.size ∧ k ≠ w.heap.size + 1) → ∀ k, D3 k → (A.putObj (w.heap.size + 1) o).heap[k]? = A.heap[k]? := fun A _ D3 o h k hk => World.putObj_heap_other (h k hk).2
      cases e with
      | normal =>
        obtain ⟨D3, hR, hi3⟩ := hp
        obtain ⟨hr, hl4, hk4, hRR, hD3⟩ := fin none W3 D3 hR
        exact ⟨_, _, hr, _, hRR, .inl ⟨rfl, D3, hD3, fun k => Iff.rfl, hI _ _ _ _ hi3 (keepI W3 W3 D3 _ hD3), hl4, hk4⟩⟩
      | ret =>
        obtain ⟨D3, hR, hi3⟩ := hp
        obtain ⟨hr, hl4, hk4, hRR, hD3⟩ := fin (some .ret) W3 D3 hR
        exact ⟨_, _, hr, _, hRR, .inr ⟨rfl, .ret, D3, hD3, fun k => Iff.rfl, hIx _ _ _ _ _ hi3 (keepI W3 W3 D3 _ hD3), hl4, hk4⟩⟩
      | exit id =>
        obtain ⟨D3, hR, hi3⟩ := hp
        obtain ⟨hr, hl4, hk4, hRR, hD3⟩ := fin (some (.exit id)) W3 D3 hR
        exact ⟨_, _, hr, _, hRR, .inr ⟨rfl, .exit id, D3, hD3, fun k => Iff.rfl, hIx _ _ _ _ _ hi3 (keepI W3 W3 D3 _ hD3), hl4, hk4⟩⟩
      | goto t =>
        obtain ⟨D3, hR, hi3⟩ := hp
        obtain ⟨hr, hl4, hk4, hRR, hD3⟩ := fin (some (.goto t)) W3 D3 hR
        exact ⟨_, _, hr, _, hRR, .inr ⟨rfl, .goto t, D3, hD3, fun k => Iff.rfl, hIx _ _ _ _ _ hi3 (keepI W3 W3 D3 _ hD3), hl4, hk4⟩⟩
      | panic ch => exact hp.elim
      | outgrown => exact hp.elim
    case behind =>
      have fin2 : ∀ (W2 : World) (o : Obj), Fr (fun k => D0 k ∨ M k) W1 W2 → Fr D0 w (W2.putObj (w.heap.size + 1) o) := fun W2 o hf =>
        ⟨hf.os.trans hbw.os, hf.tape.trans hbw.tape, hf.output.trans hbw.output, by rw [World.putObj_size]; have := hf.size; omega, fun k hk hn => (World.putObj_heap_other (by omega)).trans ((hf.block k (by omega) (fun h => h.elim hn (fun h => by rcases h with rfl | rfl <;> omega))).trans (hbw.block k hk))⟩
      have fin3 : ∀ (E D : Nat → Prop), (∀ k, E k ↔ D k ∨ M k) → (∀ k, D k → k ≠ w.heap.size ∧ k ≠ w.heap.size + 1) → (∀ k, E k → (D0 k ∨ M k) ∨ W1.heap.size ≤ k) → ∀ k, D k → D0 k ∨ w.heap.size ≤ k := fun E D hE hd hb k hk => by
        rcases hb k ((hE k).2 (.inl hk)) with (h | h) | h
        · exact .inl h
        · rcases h with rfl | rfl <;> exact .inr (by omega)
        · exact .inr (by omega)
      rintro e W2 ⟨⟨v, rfl⟩, E, hfr, hEE, (⟨xs, hS, D, hd, hE, hi, hl, hk⟩ | ⟨pre, hSp, c, D, hd, hE, hi, hl, hk⟩)⟩
      · exact ⟨none, _, by have := run_endLoop (P := P) hl (by rw [hrec]; simp); rw [hrec] at this; exact this,
          hdone xs _ D hS (hI _ _ _ _ hi (fun k hk => World.putObj_heap_other (hd k hk).2)) (fin2 _ _ hfr) ((World.putObj_heap_other (by omega)).trans hk) (fun h => (hd _ h).1 rfl) (fin3 E D hE hd (fun k hk => (hEE k hk).1))⟩
      · exact ⟨some c, _, by have := run_endLoop (P := P) hl (by rw [hrec]; simp); rw [hrec] at this; exact this,
          hstop c pre _ D hSp (hIx c _ _ _ _ hi (fun k hk => World.putObj_heap_other (hd k hk).2)) (fin2 _ _ hfr) ((World.putObj_heap_other (by omega)).trans hk) (fun h => (hd _ h).1 rfl) (fin3 E D hE hd (fun k hk => (hEE k hk).1))⟩

attribute [local go_sem] Oper.semAt_some
set_option linter.unusedSimpArgs false
open Go.Shelf
theorem all_set (Bx g h room : Nat) (ws : List Nat) :
    SeqSep Tryd.prog 53 #[.pointer (some ⟨Bx, 0, none⟩)] (fun i : Nat => #[.int .i64 i]) (fun _ _ => False) (fun i _ => i < 64 * ws.length) (fun xs => xs = mems 0 ws) (fun pre => pre <+: mems 0 ws)
      (fun W D => W.cell? ⟨Bx, 0, none⟩ = some (.pointer (some ⟨g, 0, none⟩)) ∧ IsSet W g h room ws ∧ Tab W ∧ ¬ D 0) := by
  intro l n J Jx W D ⟨hBx, hS, hT, hD0⟩ hD hJ hJx h0 hY
  have al := Lib.hid (callsIn_wide (n := n).2 (alive_set hS))
  obtain ⟨cap0, hc0, hc1, hc2, hcap⟩ := hS.cells
  have hl : ws.length ≤ 17592186044416 := by have := hS.len; omega
  have hl2 : ws.length ≤ 64 := by have := hS.len; omega
  have hcl := Lib.hid (callsIn_wide (n := n).2 (clone_words W ⟨h, 0, none⟩ ws cap0 hS.wordCells hl))
  have h1n : 1 ≤ n + 1 := by omega
  have hWp : 0 < W.heap.size := World.block_lt_of_cell? W _ (hT 0 (by omega))
  refine callsIn_of_wp Tryd.func53 rfl trivial ?_ rfl
  simp only [Tryd.ntmps53, List.size_toArray, List.length_cons, List.length_nil, Nat.reduceAdd, Nat.reduceSub, Array.replicate_succ, Array.replicate_zero, List.push_toArray, List.append_toArray, List.nil_append, List.cons_append]
  gi_wp2_with (first | (refine ⟨trivial, ?_⟩; gi_at_call 42; refine al.out.mono ?_; rintro e w' ⟨rfl, rfl⟩) | (refine ⟨trivial, ?_⟩; gi_at_call 43; refine hcl.out.mono ?_; rintro e w1 ⟨c, cap, rfl, ho, hb⟩))
  obtain ⟨hcb, hclt, hcc⟩ := row_cells ho rfl
  have hInv : AllInv J W D c ws [] w1 D := ⟨hJ _ _ _ _ h0 (fun k hk => hb.block k (hD k hk)), fun k hk => ⟨.inl hk, Nat.lt_of_lt_of_le (hD k hk) hb.size⟩, fun hk => by have := hD c hk; omega, .of_below hb, hcc, hT.kept (M := fun _ => False) (.of_below hb) id, hD0⟩
  clear ho hcc h0
  gi_loopw [14] (fun i wr => ∃ (k : Nat) (D1 : Nat → Prop), k ≤ ws.length ∧ i = .int .i64 k ∧ AllInv J W D c ws (mems 0 (ws.take k)) wr D1) (fun i _ => ws.length - (intOf i).toNat)
  case atStart => exact ⟨0, D, Nat.zero_le _, rfl, hInv⟩
  case round =>
    obtain ⟨k, D1, hk, rfl, hi⟩ := hrel
    by_cases hlt : k < ws.length
    · have hcell := hi.cells k hlt
      have hk64 : (k : Int) < 64 := by omega
      have hvlt : wd ws k < 18446744073709551616 := hS.getD_lt k
      have hsnoc := mems_snoc (wd ws k) (ws.take k) 0
      have htk : ws.take (k + 1) = ws.take k ++ [wd ws k] := by
        rw [List.take_succ_eq_append_getElem hlt]; simp [wd, List.getElem?_eq_getElem hlt]
      have hlen : (ws.take k).length = k := by simp; omega
      rw [← htk, hlen, Nat.zero_add] at hsnoc
      have HSN := Lib.hid hsnoc
      clear hsnoc htk hlen
      obtain ⟨wo, rfl⟩ : ∃ wo : World, wo = wr := ⟨_, rfl⟩
      gi_wp2
      gi_loopw [4] (fun x wr => ∃ (v : Nat) (pre : List Nat) (D2 : Nat → Prop), v < 18446744073709551616 ∧ x = .int .u64 v ∧ mems 0 (ws.take (k + 1)) = pre ++ (wbits v).map (fun j => 64 * k + j) ∧ AllInv J W D c ws pre wr D2) (fun x _ => (intOf x).toNat)
      case atStart => exact ⟨wd ws k, _, D1, hvlt, rfl, HSN.out, hi⟩
      case round =>
        obtain ⟨v, pre, D2, hv, rfl, hpre, hi2⟩ := hrel
        by_cases hv0 : v = 0
        · subst hv0
          gi_wp2
          go_roundw
          case rel => exact ⟨k + 1, D2, by omega, by simp, by rw [hpre, wbits_zero, List.map_nil, List.append_nil]; exact hi2⟩
          case measure => simp [intOf]; omega
        · obtain ⟨hst, hc64⟩ := wbits_step v hv0 hv
          have htz := Lib.hid (callsIn_wide (n := n).2 (tz_any v hv0 hv wr hi2.tab))
          have hne : ((v : Int) != 0) = true := by rw [bne_iff_ne]; omega
          have hslt := step_lt v hv0
          have hand := u64_and_nat v (v - 1) hv (by omega)
          rw [show ((v - 1 : Nat) : Int) = (v : Int) - 1 from by omega] at hand
          have HA := Lib.hid hand
          clear hand
          have hpre2 : mems 0 (ws.take (k + 1)) = (pre ++ [64 * k + Lib.ctz 64 v]) ++ (wbits (v &&& (v - 1))).map (fun j => 64 * k + j) := by
            rw [hpre, hst]; simp
          have hj := hY pre (64 * k + Lib.ctz 64 v) wr D2 hi2.j (fun k hk => (hi2.own k hk).2) (by omega) (fun _ h => h.elim) ((List.prefix_append _ _).trans (hpre2 ▸ mems_take ws (k + 1)))
          have HP := Lib.hid hpre2
          clear hpre2 hpre hst
          generalize Lib.ctz 64 v = t at *
          have hpos : 0 < (v : Int) := by omega
          have hv64 : (v : Int) < 18446744073709551616 := by omega
          clear hv0
          obtain ⟨fn, tmps, assign, body, hy, hR⟩ := hj
          have hcast : (((64 * k + t : Nat)) : Int) = 64 * (k : Int) + (t : Int) := by omega
          rw [hcast] at hy
          clear hcast
          gi_wp2_with (first | (refine ⟨trivial, ?_⟩; gi_at_call 54; refine htz.out.mono ?_; rintro e w' ⟨rfl, rfl⟩))
          refine hR.mono ?_
          rintro e W3 ⟨D', hRd, (⟨rfl, hJ3⟩ | ⟨rfl, hJx3⟩)⟩
          · have hi3 := hi2.round (by omega) hWp hRd hJ3
            gi_wp2
            go_roundw
            case rel => exact ⟨v &&& (v - 1), _, D', and_lt _ hv, by rw [HA.out], HP.out, hi3⟩
            case measure => rw [HA.out]; simp only [intOf]; omega
          · have hi3 : AllInv Jx W D c ws (pre ++ [64 * k + t]) W3 D' := hi2.round (by omega) hWp hRd hJx3
            gi_wp2
            refine bodyPost_ret (results_none rfl _ _ _) rfl ?_
            exact ⟨⟨_, rfl⟩, D', hi3.fr, hi3.own, .inr ⟨_, (show pre ++ [64 * k + t] <+: mems 0 ws from List.IsPrefix.trans ⟨_, HP.out.symm⟩ (mems_take ws (k + 1))), hi3.j⟩⟩
    · obtain rfl : k = ws.length := by omega
      gi_wp2
      go_end0
      exact ⟨⟨_, rfl⟩, D1, hi.fr, hi.own, .inl ⟨_, by rw [List.take_length], hi.j⟩⟩
end Go.Proofs.YthfapneifbjlmaaDoor.Sc
end

section
namespace Go.Proofs.YthfapneifbjlmaaDoor
open Go.RowKit Go.Shelf
open Go.Proofs.YthfapneifbjlmaaDoorW.PrintWords
attribute [local go_sem] Oper.semAt_some
set_option linter.unusedVariables false
set_option linter.unusedSimpArgs false

set_option maxHeartbeats 2000000 in
set_option maxRecDepth 100000 in
theorem tells_any (W : World) (hT : Tab W) {g h room : Nat} {ws : List Nat} (H : IsSet W g h room ws) (hh : NoHigh room ws) {gp : Nat} {A : Option Addr} (hR : RIs W gp A (inOf room ws)) (hg0 : g ≠ 0) (hh0 : h ≠ 0) (n : Int) :
    Calls Tryd.prog 14 #[.pointer (some ⟨g, 0, none⟩), .pointer (some ⟨gp, 0, none⟩), .int .i64 n] W fun e w' => e = .returned (.bool true) ∧ IsSet w' g h room ws ∧ Fr (fun k => k = g ∨ k = h) W w' := by
  refine callsIn_wide (n := 3).1 ?_
  have HT := Lib.hid hT
  have HS := Lib.hid H
  have HR := Lib.hid hR
  have HH := Lib.hid hh
  have hlt := H.lt
  clear hT H hR hh
  refine callsIn_of_wp_marks Tryd.func14 rfl trivial ?_ rfl
  simp only [Tryd.ntmps14, List.size_toArray, List.length_cons, List.length_nil, Nat.reduceAdd, Nat.reduceSub, Array.replicate_succ, Array.replicate_zero, List.push_toArray, List.append_toArray, List.nil_append, List.cons_append]
  gi_wp2_with fail
  refine ⟨trivial, ?_⟩
  refine (callsIn_wide (n := 2).2 (All_any _ _ (.inr ⟨_, rfl⟩))).mono ?_
  rintro e w2 ⟨rfl, rfl⟩
  have hn1 := fun w => run_eql_func_nil Tryd.underlying71 (.func 53) #[] #[.pointer (some ⟨W.heap.size + 1, 0, none⟩)] w
  gi_wp2_with fail
  have hbx : ((((W.alloc (.cells #[.pointer (some ⟨g, 0, none⟩)] 33)).alloc (.cells #[.pointer (some ⟨g, 0, none⟩)] 33))).alloc (.cells #[.slice none 0 0] 22)).heap[W.heap.size]? = some (.cells #[.pointer (some ⟨g, 0, none⟩)] 33 (0, 0)) :=
    (Below.heap_alloc _ _ _ (by simp; omega)).trans ((Below.heap_alloc _ _ _ (by simp)).trans (heap_alloc_new W _))
  have hT0 : 0 < W.heap.size := by simpa using World.block_lt_of_cell? W _ (HT.out 0 (by omega))
  refine Sc.rangeFunc_sep (n := 1) rfl (enters_of Tryd.func53 (by kernel_rfl) rfl) (Sc.all_set (W.heap.size + 1) g h room ws) (fun x => rfl) (fun _ _ _ _ h => h) (TsI W.heap.size (W.heap.size + 2) g h room ws) no_exit
    (fun k => k = W.heap.size ∨ k = W.heap.size + 2 ∨ k = g ∨ k = h)
    (fun k hk => by simp only [World.size_alloc]; omega) (TsI.foot _ _ _ _ _ _) (fun _ _ _ _ _ h _ => h) ?h0 ?iw ?a1 ?assign ?body ?done ?stop
  case assign =>
    intro l x W' K hK
    gi_wp2
    exact hK
  case stop => exact fun _ _ _ _ _ h => h.elim
  case h0 =>
    refine ⟨.slice none 0 0, fun k => by simp [Value.ownBlock], hbx, ?_, ⟨by simp [i64s, ints], .inl ⟨rfl, by simp⟩⟩, ?_⟩
    · have := heap_alloc_new ((W.alloc (.cells #[.pointer (some ⟨g, 0, none⟩)] 33)).alloc (.cells #[.pointer (some ⟨g, 0, none⟩)] 33)) (.cells #[.slice none 0 0] 22)
      simpa using this
    · exact HS.out.below ((((Below.refl W.heap.size W).alloc (Nat.le_refl _) _).alloc (by simp) _).alloc (by simp; omega) _) hlt.1 hlt.2.1
  case iw =>
    intro W1 D1 hb hd
    have hb0 : Below W.heap.size W ((((W.alloc (.cells #[.pointer (some ⟨g, 0, none⟩)] 33)).alloc (.cells #[.pointer (some ⟨g, 0, none⟩)] 33))).alloc (.cells #[.slice none 0 0] 22)) := (((Below.refl W.heap.size W).alloc (Nat.le_refl _) _).alloc (by simp) _).alloc (by simp; omega) _
    have hb1 : Below W.heap.size W W1 := hb0.trans (hb.mono (by simp; omega))
    have hbc : ((((W.alloc (.cells #[.pointer (some ⟨g, 0, none⟩)] 33)).alloc (.cells #[.pointer (some ⟨g, 0, none⟩)] 33))).alloc (.cells #[.slice none 0 0] 22)).heap[W.heap.size + 1]? = some (.cells #[.pointer (some ⟨g, 0, none⟩)] 33 (0, 0)) := by
      have := heap_alloc_new (W.alloc (.cells #[.pointer (some ⟨g, 0, none⟩)] 33)) (.cells #[.pointer (some ⟨g, 0, none⟩)] 33)
      rw [World.size_alloc] at this
      exact (Below.heap_alloc _ _ _ (by simp)).trans this
    simp only [World.size_alloc] at hd
    refine ⟨heap_cell (cs := [.pointer (some ⟨g, 0, none⟩)]) ((hb.block _ (by simp)).trans hbc) 0, HS.out.below hb1 hlt.1 hlt.2.1, HT.out.kept (M := fun _ => False) (.of_below hb1) id, fun h0 => ?_⟩
    have := hd 0 h0
    omega
  case body =>
    rintro l pre x W' D ⟨v, hD, hsb, hlb, hown, hset⟩ hDl hx hhand hle hsp
    have hcs := heap_cell (cs := [.pointer (some ⟨g, 0, none⟩)]) hsb 0
    have hcl := heap_cell (cs := [v]) hlb 0
    have hfl := heap_free hlb 0
    simp only [List.getElem?_cons_zero] at hcs hcl
    have HD := Lib.hid hD
    have HSB := Lib.hid hsb
    have HLB := Lib.hid hlb
    have HOW := Lib.hid hown
    have HSET := Lib.hid hset
    clear hD hsb hlb hown hset
    have hpl : pre.length ≤ 4096 := by
      have h1 := hsp.length_le
      have h2 := mems_len_le ws 0
      have h3 := HS.out.small.1
      simp at h1; omega
    obtain ⟨i0, hi0, hz0, hz1, hz2⟩ := info_parts info3
    have hDr := Lib.hid (fun (W2 : World) (H2 : IsSet W2 g h room (pre.foldl (dropI room) ws)) => CallsIn.inRound l (callsIn_wide (n := 0).2 (Drop_some H2 x)))
    gi_wp2_with (gi_at_builtin; refine wpListIn_append_own_at _ rfl _ _ 22 rfl 0 3 i0 (.int .i64 0) 1 8 Tryd.underlying22 hi0 hz0 hz1 hz2 rfl (by decide) v pre.length (i64s (ints pre)) rfl ?c0 ⟨W'.heap.size, 0, none⟩ 1 1 [.int .i64 x] rfl rfl ?c2 ?c3 ?c4 ?c5 ?c6 ?_)
    case c0 => exact HOW.out.alloc _
    case c2 => exact cell_one_new _ _ _
    case c3 => intro u hu; simp at hu; subst hu; rfl
    case c4 => simp [maxLen]; omega
    case c5 => omega
    case c6 => omega
    intro v' w1 hown1 hgr1 hnn hwh
    obtain ⟨rg, rcap, rfl, -⟩ := own_form hown1 hnn
    have hrowt : ∀ k, v.ownBlock = some k → ∃ cs, W'.heap[k]? = some (.cells cs 3 (0, 0)) := by
      intro k hk
      rcases HOW.out.2 with ⟨h1, _⟩ | ⟨g', cap', cur, h1, h2, h3, r⟩
      · rw [h1] at hk; cases hk
      · rw [h1] at hk; cases hk; exact ⟨_, h3⟩
    have hne : ∀ (k : Nat) (cs : Array Value) (ty : Nat), W'.heap[k]? = some (.cells cs ty (0, 0)) → ty ≠ 3 → ¬ v.ownBlock = some k := by
      intro k cs ty hk hty hv
      obtain ⟨cs', hk'⟩ := hrowt k hv
      rw [hk] at hk'
      injection hk' with hk'
      injection hk' with _ h2 _
      exact hty h2
    have hng : ¬ v.ownBlock = some g := by obtain ⟨_, _, hh, _⟩ := HSET.out; exact hne g _ _ hh (by decide)
    have hnh : ¬ v.ownBlock = some h := by obtain ⟨_, _, _, hh, _⟩ := HSET.out; exact hne h _ _ hh (by decide)
    have hns := hne _ _ _ HSB.out (by decide)
    have hnl := hne _ _ _ HLB.out (by decide)
    have hsl : W.heap.size < W'.heap.size := (Array.getElem?_eq_some_iff.1 HSB.out).1
    have hll : W.heap.size + 2 < W'.heap.size := (Array.getElem?_eq_some_iff.1 HLB.out).1
    have hfr1 : Fr (fun k => v.ownBlock = some k) W' w1 := (Fr.alloc _ W' _).trans ((Fr.of_grownBy hgr1).mono (fun k _ hk => hk.symm))
    have hlb1 := (hfr1.block _ hll hnl).trans HLB.out
    have hsb1 := (hfr1.block _ hsl hns).trans HSB.out
    have hset1 := HSET.out.fr hfr1 hng hnh
    have hlt1 := HSET.out.lt
    have hgl : g ≠ W.heap.size + 2 ∧ h ≠ W.heap.size + 2 := by omega
    have hset2 : IsSet (w1.setCell ⟨W.heap.size + 2, 0, none⟩ (.slice (some ⟨rg, 0, none⟩) (pre.length + 1) rcap)) g h room (pre.foldl (dropI room) ws) := hset1.move (Below.heap_setCell _ _ _ _ hgl.1) (Below.heap_setCell _ _ _ _ hgl.2)
    have hlb2 := heap_set_same hlb1 0 (.slice (some ⟨rg, 0, none⟩) (pre.length + 1) rcap)
    have hsb2 : (w1.setCell ⟨W.heap.size + 2, 0, none⟩ (.slice (some ⟨rg, 0, none⟩) (pre.length + 1) rcap)).heap[W.heap.size]? = _ := (Below.heap_setCell _ _ _ _ (by show W.heap.size ≠ W.heap.size + 2; omega)).trans hsb1
    have hcl1 := heap_cell (cs := [v]) hlb1 0
    have hfl1 := heap_free hlb1 0
    have hcs1 := heap_cell (cs := [.pointer (some ⟨g, 0, none⟩)]) hsb1 0
    simp only [List.getElem?_cons_zero] at hcl1 hcs1
    have HDR := Lib.hid (hDr.out _ hset2)
    have H1 := Lib.hid hown1
    have H2 := Lib.hid hfr1
    have H3 := Lib.hid hlb2
    have H4 := Lib.hid hsb2
    have H5 := Lib.hid hwh
    have H6 := Lib.hid hset2
    clear hown1 hgr1 hrowt hne hfr1 hlb1 hsb1 hset1 hset2 hlb2 hsb2 hwh hnn hcs hcl hfl
    gi_wp2_with fail
    refine ⟨trivial, ?_⟩
    refine HDR.out.mono ?_
    rintro e w' ⟨r, rfl, hsetd, hfd⟩
    have K1 := Lib.hid hsetd
    have K2 := Lib.hid hfd
    clear hsetd hfd
    gi_wp2
    have hrgl := (H1.out.lt rg rfl).2
    have hrg2 : (w1.setCell ⟨W.heap.size + 2, 0, none⟩ (.slice (some ⟨rg, 0, none⟩) (pre.length + 1) rcap)).heap.size = w1.heap.size := by simp
    have hs1 := H2.out.size
    have hs2 := K2.out.size
    rw [hrg2] at hs2
    obtain ⟨_, _, _, hht, _⟩ := H6.out
    have hrgt : ∃ cs, w1.heap[rg]? = some (.cells cs 3 (0, 0)) := by
      rcases H1.out.2 with ⟨h1, _⟩ | ⟨g', cap', cur, h1, h2, h3, r⟩
      · cases h1
      · injection h1 with a _ _; injection a with a; injection a with a; subst a; exact ⟨_, h3⟩
    have hrgh : rg ≠ h := by
      rintro rfl
      obtain ⟨cs, hc⟩ := hrgt
      rw [Below.heap_setCell _ _ _ _ hgl.2, hc] at hht
      injection hht with hht
      injection hht with _ h2 _
      cases h2
    have hrgb : rg ≠ W.heap.size + 2 := by
      rintro rfl
      obtain ⟨cs, hc⟩ := hrgt
      have := H3.out
      rw [heap_set_same hc 0 _] at this
      injection this with this
      injection this with _ h2 _
      cases h2
    refine ⟨fun k => k = W.heap.size ∨ k = W.heap.size + 2 ∨ k = g ∨ k = h ∨ rg = k, ⟨?_, ?_⟩, .slice (some ⟨rg, 0, none⟩) (pre.length + 1) rcap, ?_, ?_, ?_, ?_, ?_⟩
    · refine Fr.trans (Fr.trans (H2.out.mono (fun k _ hk => .inl ((HD.out k).2 (.inr (.inr (.inr (.inr hk))))))) (Fr.setCell _ _ _ (fun _ => .inl ((HD.out _).2 (.inr (.inl rfl)))))) (K2.out.mono (fun k _ hk => .inl ((HD.out k).2 (.inr (.inr (.inr (.inl hk)))))))
    · rintro k (rfl | rfl | rfl | rfl | rfl)
      · exact ⟨.inl ((HD.out _).2 (.inl rfl)), by omega⟩
      · exact ⟨.inl ((HD.out _).2 (.inr (.inl rfl))), by omega⟩
      · exact ⟨.inl ((HD.out _).2 (.inr (.inr (.inl rfl)))), by omega⟩
      · exact ⟨.inl ((HD.out _).2 (.inr (.inr (.inr (.inl rfl))))), by omega⟩
      · refine ⟨?_, by omega⟩
        rcases H5.out with h1 | h1
        · exact .inl ((HD.out _).2 (.inr (.inr (.inr (.inr (h1.symm.trans rfl))))))
        · have h2 : rg = W'.heap.size + 1 := by simpa [Value.ownBlock] using h1
          exact .inr (.inr (by omega))
    · intro k; simp [Value.ownBlock, eq_comm]
    · exact (K2.out.block _ (by rw [hrg2]; omega) (by omega)).trans H4.out
    · exact (K2.out.block _ (by rw [hrg2]; omega) (by omega)).trans H3.out
    · have hk := ownsRow_kept H1.out (W' := w') (fun k hk => by
        obtain rfl : rg = k := by simpa [Value.ownBlock] using hk
        exact (K2.out.block _ (by rw [hrg2]; omega) hrgh).trans (Below.heap_setCell _ _ _ _ hrgb))
      simpa [i64s, ints] using hk
    · rw [List.foldl_append]; exact K1.out
  case done =>
    rintro xs W9 D9 rfl ⟨v, hD9, hsb9, hlb9, hown9, hset9⟩ hf9 hdef9 hnd9 hdd9
    have hcs := heap_cell (cs := [.pointer (some ⟨g, 0, none⟩)]) hsb9 0
    have hcl := heap_cell (cs := [v]) hlb9 0
    simp only [List.getElem?_cons_zero] at hcs hcl
    have HD9 := Lib.hid hD9
    have HSB := Lib.hid hsb9
    have HLB := Lib.hid hlb9
    have HOW := Lib.hid hown9
    have HSET := Lib.hid hset9
    have HF9 := Lib.hid hf9
    have HDEF := Lib.hid hdef9
    clear hD9 hsb9 hlb9 hown9 hset9 hf9 hdef9 hnd9 hdd9
    gi_wp2_with fail
    refine wpIn_wide.2 ?_
    obtain ⟨vA, vc, rfl⟩ : ∃ vA vc, v = .slice vA (mems 0 ws).length vc := by
      rcases HOW.out.2 with ⟨h1, h2⟩ | ⟨g', cap', cur, h1, _⟩
      · exact ⟨none, 0, by rw [h1, show (mems 0 ws).length = 0 from by simpa using h2]⟩
      · exact ⟨_, _, h1⟩
    have hread : ∀ k, k < (mems 0 ws).length → ∃ rg, vA = some ⟨rg, 0, none⟩ ∧ W9.cell? ⟨rg, k, none⟩ = some (.int .i64 ((mems 0 ws).getD k 0 : Nat)) ∧ (Value.slice vA (mems 0 ws).length vc).ownBlock = some rg := by
      intro k hk
      have hnn : Value.slice vA (mems 0 ws).length vc ≠ .slice none 0 0 := by
        intro h; injection h with _ h2 _; omega
      obtain ⟨rg, cap, he, -⟩ := own_form HOW.out hnn
      injection he with h1 _ h3
      subst h1
      refine ⟨rg, rfl, ?_, rfl⟩
      have := (irow_cells (ws := ints (mems 0 ws)) HOW.out (by simp [ints])).2.2 k (by simpa [ints] using hk)
      rw [this]; simp [nd, ints, List.getElem?_eq_getElem hk]
    have HRD := Lib.hid hread
    clear hread
    have hml : (mems 0 ws).length ≤ 4096 := by
      have h2 := mems_len_le ws 0
      have h3 := HS.out.small.1
      omega
    simp only [World.size_alloc]
    go_loopw [10] (fun i wr => ∃ k : Nat, k ≤ (mems 0 ws).length ∧ i = .int .i64 k ∧ IsSet wr g h room (((mems 0 ws).take k).foldl (putI room) ((mems 0 ws).foldl (dropI room) ws)) ∧ Fr (fun k => k = h) W9 wr) (fun i _ => (mems 0 ws).length - (intOf i).toNat)
    case atStart => exact ⟨0, Nat.zero_le _, rfl, by simpa using HSET.out, Fr.refl _ _⟩
    case round =>
      obtain ⟨k, hk, rfl, hset, hfr⟩ := hrel
      have hrh : ∀ rg, (Value.slice vA (mems 0 ws).length vc).ownBlock = some rg → rg ≠ h := by
        intro rg hrg e
        rcases HOW.out.2 with ⟨h1, _⟩ | ⟨g', cap', cur, h1, h2, h3, r⟩
        · rw [h1] at hrg; cases hrg
        · rw [h1] at hrg; cases hrg
          obtain ⟨_, _, _, hh, _⟩ := HSET.out
          rw [← e, h3] at hh
          injection hh with hh; injection hh with _ h2 _; cases h2
      have hltw := HSET.out.lt
      have hcsr : wr.cell? ⟨W.heap.size, 0, none⟩ = some (.pointer (some ⟨g, 0, none⟩)) := hfr.cell hcs (by show ¬ W.heap.size = h; omega)
      have hclr : wr.cell? ⟨W.heap.size + 2, 0, none⟩ = some (.slice vA (mems 0 ws).length vc) := hfr.cell hcl (by show ¬ W.heap.size + 2 = h; omega)
      by_cases hlk : k < (mems 0 ws).length
      · obtain ⟨rg, rfl, hrc, hro⟩ := HRD.out k hlk
        obtain ⟨x, hx⟩ : ∃ x : Nat, x = (mems 0 ws).getD k 0 := ⟨_, rfl⟩
        rw [← hx] at hrc
        have hrcr := hfr.cell hrc (hrh rg hro)
        have hput := Lib.hid (fun m => Put_numb (hset.drewN m) x)
        have HX := Lib.hid hx
        clear hx
        have HSr := Lib.hid hset
        have HFr := Lib.hid hfr
        clear hset hfr hrc
        go_wp2_with fail
        refine wp_region_still_tail 5 (by kernel_rfl) (by kernel_rfl) ?_
        simp only [List.take_succ_cons, List.take_zero, List.drop_succ_cons, List.drop_zero]
        repeat still_step
        try refine wpStill_nil ?_
        change wpList _ _ _ _ _ wr.drew
        go_wp2_with fail
        go_at_call 16
        refine (hput.out 1).mono ?_
        rintro e w' ⟨r, rfl, hs', hf'⟩
        have K1 := Lib.hid hs'
        have K2 := Lib.hid hf'
        clear hs' hf'
        go_wp2
        go_roundw
        case rel =>
          refine ⟨k + 1, by omega, by simp, ?_, HFr.out.trans ((Fr.drewN _ wr 1).trans K2.out)⟩
          rw [List.take_succ_eq_append_getElem hlk, List.foldl_append]
          have hxx : (mems 0 ws)[k] = x := by rw [HX.out]; simp [List.getElem?_eq_getElem hlk]
          rw [hxx]
          exact K1.out
        case measure => simp [intOf]; omega
      · go_wp2_with fail
        refine wpIn_wide.2 ?_
        obtain rfl : k = (mems 0 ws).length := by omega
        obtain ⟨wo, rfl⟩ : ∃ wo : World, wo = wr := ⟨_, rfl⟩
        have hset2 : IsSet wo g h room ws := by
          rw [List.take_length, back_again room ws HS.out.len.1 HS.out.len.2.2] at hset
          exact hset
        clear hset
        have hb0 : Below W.heap.size W ((((W.alloc (.cells #[.pointer (some ⟨g, 0, none⟩)] 33)).alloc (.cells #[.pointer (some ⟨g, 0, none⟩)] 33))).alloc (.cells #[.slice none 0 0] 22)) := (((Below.refl W.heap.size W).alloc (Nat.le_refl _) _).alloc (by simp) _).alloc (by simp; omega) _
        have hfW : Fr (fun k => k = g ∨ k = h) W wo := ((Fr.of_below hb0).then_ HF9.out (fun i hi hm => by
          rcases hm with rfl | rfl | hm | hm
          · omega
          · omega
          · exact .inl hm
          · exact .inr hm)).then_ hfr (fun i hi hm => .inr hm)
        have hty : ∀ k cs ty, W.heap[k]? = some (.cells cs ty (0, 0)) → ty ≠ 55 → ty ≠ 42 → ¬ (k = g ∨ k = h) := by
          obtain ⟨_, _, hg1, hh1, _⟩ := HS.out
          rintro k cs ty hk h55 h42 (rfl | rfl)
          · rw [hg1] at hk; injection hk with hk; injection hk with _ h2 _; exact h55 h2.symm
          · rw [hh1] at hk; injection hk with hk; injection hk with _ h2 _; exact h42 h2.symm
        have hRr : RIs wo gp A (inOf room ws) := HR.out.fr hfW (by obtain ⟨⟨_, ha, _⟩, _⟩ := HR.out; exact hty _ _ _ ha (by decide) (by decide)) (fun rb cs _ hrb => hty _ _ _ hrb (by decide) (by decide))
        have hownr : wo.ownsRow 0 3 1 (.slice vA (mems 0 ws).length vc) (mems 0 ws).length (i64s (ints (mems 0 ws))) := ownsRow_kept HOW.out (fun k hk => hfr.block k (HOW.out.lt k hk).2 (hrh k hk))
        have hlen := HS.out.len
        obtain ⟨n0, hn0⟩ : ∃ n0, n0 = ws.length := ⟨_, rfl⟩
        have HSR := Lib.hid hset2
        have HRR := Lib.hid hRr
        have HOR := Lib.hid hownr
        have HFR := Lib.hid hfr
        have HFW := Lib.hid hfW
        have HTY := Lib.hid hty
        have hWd := Lib.hid (Words_set hset2)
        have HSZ := hfW.size
        clear hset2 hRr hownr hfr hfW hty hrh hcs hcl hn0 n0 hlen
        go_wp2_with fail
        go_at_call 32
        refine hWd.out.mono ?_
        rintro e w1 ⟨kw, cw, rfl, how, hb1⟩
        have hRW := Lib.hid (rWords (HRR.out.below hb1 (Nat.le_refl _)) (n := ws.length) (by rw [inOf_length]; exact HS.out.len.1))
        have HW1 := Lib.hid how
        have HB1 := Lib.hid hb1
        clear how hb1
        go_wp2_with fail
        go_at_call 36
        refine hRW.out.mono ?_
        rintro e w2 ⟨rfl, hv2, hb2⟩
        rw [inOf_length, part_all room ws HS.out.len.1 HS.out.len.2.2 HH.out] at hv2
        have HV2 := Lib.hid hv2
        have HB2 := Lib.hid hb2
        clear hv2 hb2
        go_wp2_with fail
        have hws : ws.length ≤ 64 := HS.out.small.1
        obtain ⟨hkw1, hkw2⟩ := HW1.out.lt kw rfl
        have hcur0 : ∃ cur : Array Value, w1.heap[kw]? = some (.cells cur 42 (0, 0)) ∧ ∀ j, j < ws.length → cur[j]? = some (.int .u64 (wd ws j)) := by
          rcases HW1.out.2 with ⟨h1, _⟩ | ⟨g', cap', cur, h1, _, hh', _, _, _, ht⟩
          · cases h1
          · injection h1 with a _ _; injection a with a; injection a with a; subst a
            refine ⟨cur, hh', fun j hj => ?_⟩
            have h2 : (cur.toList.take (ws.length * 1))[j]? = some (.int .u64 (wd ws j)) := by
              rw [ht]; simp [u64s, wd, List.getElem?_eq_getElem hj]
            rw [List.getElem?_take, if_pos (by omega), Array.getElem?_toList] at h2
            exact h2
        have HC0 := Lib.hid hcur0
        clear hcur0
        go_loopw [13] (fun i wr => ∃ k : Nat, k ≤ ws.length ∧ i = .int .i64 k ∧ (∃ cur : Array Value, wr.heap[kw]? = some (.cells cur 42 (0, 0)) ∧ ∀ j, k ≤ j → j < ws.length → cur[j]? = some (.int .u64 (wd ws j))) ∧ Fr (fun k => k = kw) w2 wr) (fun i _ => ws.length - (intOf i).toNat)
        case atStart =>
          obtain ⟨cur, hc1, hc2⟩ := HC0.out
          exact ⟨0, Nat.zero_le _, rfl, ⟨cur, (HB2.out.block kw hkw2).trans hc1, fun j _ hj => hc2 j hj⟩, Fr.refl _ _⟩
        case round =>
          obtain ⟨k, hk, rfl, ⟨cur, hcur, hcj⟩, hfr2⟩ := hrel
          have hneq : w1.heap.size ≠ kw := by omega
          have hv3 := (hfr2.block w1.heap.size (Array.getElem?_eq_some_iff.1 HV2.out).1 hneq).trans HV2.out
          by_cases hlk2 : k < ws.length
          · obtain ⟨hvc, -⟩ := wset_cell hv3 hlk2
            have hkc : wr.cell? ⟨kw, k, none⟩ = some (.int .u64 (wd ws k)) := (cell_of_row wr kw k _ _ _ hcur).trans (hcj k (Nat.le_refl _) hlk2)
            have hkf : wr.frozen? ⟨kw, k, none⟩ = false := by simp [World.frozen?, hcur]
            have hbn : (((wd ws k : Nat) : Int) != ((wd ws k : Nat) : Int)) = false := by simp
            have HCU := Lib.hid hcur
            have HCJ := Lib.hid hcj
            have HFR2 := Lib.hid hfr2
            clear hcur hcj hfr2 hv3
            have hk0 : (0 : Int) ≤ (k : Int) := by omega
            have hk1 : (k : Int) < (ws.length : Int) := by omega
            go_wp2_with fail
            go_quiet (fail)
            go_wp2
            go_roundw
            case rel =>
              refine ⟨k + 1, by omega, by simp, ⟨cur.setIfInBounds k (.int .u64 77), heap_set_same HCU.out k _, fun j hj hj2 => ?_⟩, ?_⟩
              · rw [Array.getElem?_setIfInBounds_ne (by omega)]
                exact HCJ.out j (by omega) hj2
              · exact HFR2.out.trans ((Fr.drewN _ _ _).trans (Fr.setCell _ _ _ (fun _ => rfl)))
            case measure => simp [intOf]; omega
          · obtain rfl : k = ws.length := by omega
            have hbw : Below wo.heap.size wo wr := HB1.out.trans ((HB2.out.mono HB1.out.size).trans (hfr2.below2 (fun k hk => by omega) (by have := HB1.out.size; have := HB2.out.size; omega)))
            have hTI : TInv g h gp W.heap.size (W.heap.size + 1 + 1) room ws A vA vc wr := TInv.below (w := wo) ⟨HSR.out, HRR.out, HOR.out, hcsr, hclr⟩ hbw
            have hcsr2 := (hbw.cell (World.block_lt_of_cell? wo _ hcsr)).trans hcsr
            have hclr2 := (hbw.cell (World.block_lt_of_cell? wo _ hclr)).trans hclr
            obtain ⟨rcap, -, hgc, -⟩ := hTI.2.1.cells
            rw [inOf_length] at hgc
            have HTI := Lib.hid hTI
            have HFW2 := Lib.hid (HFW.out.trans ((Fr.of_below (M := fun _ => False) (hbw.mono (by omega))).mono (fun _ _ => False.elim)))
            have hA := Lib.hid (fun (w' : World) (hi : TInv g h gp W.heap.size (W.heap.size + 1 + 1) room ws A vA vc w') => rAll' hi.2.1 (by have := HS.out.len.1; omega) HH.out hml)
            have hI := Lib.hid (fun (w' : World) (v3 : Option Addr) (c3 : Nat) (hi : TInv g h gp W.heap.size (W.heap.size + 1 + 1) room ws A vA vc w') (hc3 : (mems 0 ws).length ≤ c3) (hC3 : Kd.C (Kd.int .i64) w' v3 (mems 0 ws).length (ints (mems 0 ws))) =>
              tells_ints (c1 := vc) (by simp [ints]) (kdC_of_own hi.2.2.1 (by simp [ints]) (by omega)).1 (kdC_of_own hi.2.2.1 (by simp [ints]) (by omega)).2 hC3 hc3 (by omega))
            obtain ⟨B, hB⟩ : ∃ B, B = hasB room ws n := ⟨_, rfl⟩
            have hH := Lib.hid (fun (w' : World) (hi : TInv g h gp W.heap.size (W.heap.size + 1 + 1) room ws A vA vc w') => tHas hi.1 n)
            have hrH := Lib.hid (fun (w' : World) (hi : TInv g h gp W.heap.size (W.heap.size + 1 + 1) room ws A vA vc w') => trHas hi.2.1 n)
            rw [← hB] at hH hrH
            have HBW := Lib.hid hbw
            clear hfr2 hcj hcur hv3 hTI hbw hB
            go_wp2_with fail
            go_region_held3 (fun w' => w'.cell? ⟨W.heap.size, 0, none⟩ = some (.pointer (some ⟨g, 0, none⟩)) ∧ w'.cell? ⟨W.heap.size + 1 + 1, 0, none⟩ = some (.slice vA (mems 0 ws).length vc) ∧ w'.cell? ⟨gp, 1, none⟩ = some (.slice A room rcap) ∧ TInv g h gp W.heap.size (W.heap.size + 1 + 1) room ws A vA vc w')
              (first | exact HTI.out.cells hgc ((Below.refl _ _).drew) | exact hK3.out)
              (first | (go_at_call 37; refine (hA.out wr.drew HTI.out).mono ?_; rintro e w3 ⟨v3, c3, rfl, hc3, hC3, hb3⟩; have hK3 := Lib.hid (HTI.out.cells hgc ((Below.refl _ _).drew.trans hb3)); have HC3 := Lib.hid hC3; have HB3 := Lib.hid hb3; clear hC3 hb3) | (go_at_call 11; refine (hI.out w3 v3 c3 hK3.out.2.2.2 hc3 HC3.out).mono ?_; rintro e w4 ⟨rfl, m4, rfl⟩) | (go_at_call 21; refine (Count_set (g := g) (h := h) (room := room) (ws := ws) (by exact hK3.out.2.2.2.1)).mono ?_; rintro e w5 ⟨rfl, rfl⟩) | (go_at_call 38; refine (hH.out _ (by exact hK3.out.2.2.2)).mono ?_; rintro e w6 ⟨rfl, m6, rfl⟩) | (go_at_call 39; refine (hrH.out _ (by exact hK3.out.2.2.2)).mono ?_; rintro e w7 ⟨rfl, rfl⟩) | (go_at_call 40; refine (Room_set (g := g) (h := h) (room := room) (ws := ws) (by exact hK3.out.2.2.2.1)).mono ?_; rintro e w8 ⟨rfl, rfl⟩))
            go_wp2
            have hd9 : W9.heap[W.heap.size + 1 + 1 + 1]? = some (.deferred (some [])) := by simpa using HDEF.out
            have hdo := (HFR.out.block _ (Array.getElem?_eq_some_iff.1 hd9).1 (show ¬ W.heap.size + 1 + 1 + 1 = h by omega)).trans hd9
            have hdr := (HBW.out.block _ (Array.getElem?_eq_some_iff.1 hdo).1).trans hdo
            have hd3 := (HB3.out.block _ (show _ < wr.drew.heap.size from (Array.getElem?_eq_some_iff.1 hdr).1)).trans hdr
            have hdf : (w3.drewN (m4 + m6)).heap[W.heap.size + 1 + 1 + 1]? = some (.deferred (some [])) := hd3
            refine ⟨by simp, .inl ⟨_, _, rfl, run_takeDeferred hdf, ?_⟩⟩
            have hend : Fr (fun k => k = g ∨ k = h) W (w3.drewN (m4 + m6)) := (HFW2.out.trans ((Fr.drewN _ wr 1).trans ((Fr.of_below (M := fun _ => False) HB3.out).mono (fun _ _ => False.elim)))).trans (Fr.drewN _ w3 _)
            have hset3 : IsSet (w3.drewN (m4 + m6)) g h room ws := hK3.out.2.2.2.1
            have hpo : ∀ o, Fr (fun k => k = W.heap.size + 1 + 1 + 1) (w3.drewN (m4 + m6)) ((w3.drewN (m4 + m6)).putObj (W.heap.size + 1 + 1 + 1) o) := fun o => Fr.putObj _ _ _ rfl
            exact ⟨_, results_tmp rfl _ _ _, rfl, hset3.fr (hpo _) (by show ¬ g = _; omega) (by show ¬ h = _; omega), hend.then_ (hpo _) (fun i hi hm => by omega)⟩
end Go.Proofs.YthfapneifbjlmaaDoor
end
