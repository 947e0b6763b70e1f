/- The law for a range over a function inside its block: the loop may run out, be broken off, or return. -/
import Derived.Test.YthfapneifbjlmaaDoorSep
namespace Go.Proofs.YthfapneifbjlmaaDoor
open Go.RowKit
set_option linter.unusedVariables false

def sepExit {α : Type} (id : Nat) (Ib Ir : List α → World → (Nat → Prop) → Prop) : Code → List α → World → (Nat → Prop) → Prop
  | .exit i => fun pre W D => i = id ∧ Ib pre W D
  | .ret => Ir
  | _ => fun _ _ _ => False
theorem sepExit_foot {α : Type} {id : Nat} {Ib Ir : List α → World → (Nat → Prop) → Prop} (hb : Foot Ib) (hr : Foot Ir) : ∀ c, Foot (sepExit id Ib Ir c) := by
  intro c s W W' D h hk
  cases c <;> simp only [sepExit] at h ⊢
  case exit i => exact ⟨h.1, hb _ _ _ _ h.2 hk⟩
  case ret => exact hr _ _ _ _ h hk

theorem rangeFunc_block {α : Type} {P : Program} {n : Nat} {g : Operand} {ps : Array Tmp} {assign body : Code} {id : Nat} {Q : Exit → Act → World → Prop} {a : Act} {w : World}
    {gf : Nat} {lb : Array Value} (hg : a.eval g = .func (.func gf) #[] lb) (eg : ∀ args w, (callFunc gf args).run P w = .ok (.enter gf args) w)
    {encs : α → Array Value} {Hand : α → Nat → Prop} {Pre : α → World → Prop} {S Sp : List α → Prop} {Iw : World → (Nat → Prop) → Prop} (hseq : SeqSep P gf lb encs Hand Pre S Sp Iw)
    (hps : ∀ x, (encs x).size = ps.size) (hPre : ∀ x W W', (∀ k, Hand x k → W'.heap[k]? = W.heap[k]?) → Pre x W → Pre x W')
    (I Ib Ir : List α → World → (Nat → Prop) → Prop) (D0 : Nat → Prop) (Mid : World → Prop) (hD0 : ∀ k, D0 k → k < w.heap.size) (hI : Foot I) (hIb : Foot Ib) (hIr : Foot Ir) (h0 : I [] w D0)
    (hIw : ∀ W1 D1, Below w.heap.size w W1 → (∀ k, D1 k → D0 k ∨ w.heap.size ≤ k) → Iw W1 D1) (a₁ : α → Act)
    (hassign : ∀ (l : Nat) (x : α) (W : World) (K : Act → World → Prop), K (a₁ x) W →
      assign.wpIn (Fence.wide.inRound l) n P (Exit.then K (fun _ _ _ => False)) { tmps := (ps.zip (encs x)).foldl (fun t (p, v) => t.setIfInBounds p v) a.tmps, defers := [] } W)
    (hbody : ∀ (l : Nat) (pre : List α) (x : α) (W : World) (D : Nat → Prop), I pre W D → (∀ k, D k → k < W.heap.size) → Pre x W → (∀ k, Hand x k → ¬ D k) → w.heap.size ≤ W.heap.size →
      body.wpIn (Fence.wide.inRound l) n P (sepPost I (sepExit id Ib Ir) (pre ++ [x]) D (Hand x) W) (a₁ x) W)
    (hmid : ∀ W, Mid W → Q .normal { a with defers := { target := .collected w.heap.size, args := #[] } :: a.defers } W)
    (hdone : ∀ (xs : List α) (W : World) (D : Nat → Prop), S xs → I xs W D → Fr D0 w W → W.heap[w.heap.size]? = some (.deferred (some [])) → ¬ D w.heap.size → (∀ k, D k → D0 k ∨ w.heap.size ≤ k) → Mid W)
    (hbrk : ∀ (pre : List α) (W : World) (D : Nat → Prop), Sp pre → Ib pre W D → Fr D0 w W → W.heap[w.heap.size]? = some (.deferred (some [])) → ¬ D w.heap.size → (∀ k, D k → D0 k ∨ w.heap.size ≤ k) → Mid W)
    (hret : ∀ (pre : List α) (W : World) (D : Nat → Prop), Sp pre → Ir pre W D → Fr D0 w W → W.heap[w.heap.size]? = some (.deferred (some [])) → ¬ D w.heap.size → (∀ k, D k → D0 k ∨ w.heap.size ≤ k) → Code.ret.wpIn Fence.wide (n + 2) P (Exit.inBlock id Q) { a with defers := { target := .collected w.heap.size, args := #[] } :: a.defers } W) :
    (Code.rangeFunc g ps assign body).wpIn Fence.wide (n + 2) P (Exit.inBlock id Q) a w := by
  refine rangeFunc_sep hg eg hseq hps hPre I (sepExit id Ib Ir) D0 hD0 hI (sepExit_foot hIb hIr) h0 hIw a₁ hassign hbody (fun xs W D h1 h2 h3 h4 h5 h6 => ?_) (fun c pre W D h1 h2 h3 h4 h5 h6 => ?_)
  · exact hmid W (hdone xs W D h1 h2 h3 h4 h5 h6)
  · cases c <;> simp only [sepExit] at h2
    case exit i =>
      obtain ⟨rfl, h2⟩ := h2
      refine wpIn_exit ?_
      simpa [Exit.inBlock] using hmid W (hbrk pre W D h1 h2 h3 h4 h5 h6)
    case ret => exact hret pre W D h1 h2 h3 h4 h5 h6
end Go.Proofs.YthfapneifbjlmaaDoor
