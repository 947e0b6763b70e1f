/- Layer 3: what BitsSubsets's loops hold. -/
import Derived.Test.YthfapneifbjlmaaDoorPBitsSubsetsx1
import Derived.Test.YthfapneifbjlmaaDoorMB
import Derived.Test.YthfapneifbjlmaaDoorMA
section
namespace Go.Proofs.YthfapneifbjlmaaDoor
open Go.RowKit Go.Proofs.YthfapneifbjlmaaDoor.PBitsSubsets Go.Proofs.YthfapneifbjlmaaDoorW.PrintWords
set_option linter.unusedVariables false
set_option linter.unusedSimpArgs false

theorem w64 {n : Int} (h1 : -9223372036854775808 ≤ n) (h2 : n ≤ 9223372036854775807) : wrap64 n = n := by unfold wrap64; omega

theorem rowsL_len (N : Nat) (hN : N ≤ 10) : ∀ k f, (rowsL N k f).length ≤ 10 ^ k
  | 0, f => by simp [rowsL]
  | k + 1, f => by
    rw [rowsL, List.length_flatMap]
    have h : ∀ (l : List Nat), l.length ≤ 10 → (l.map fun i => ((rowsL N k (i + 1)).map (i :: ·)).length).sum ≤ l.length * 10 ^ k := by
      intro l
      induction l with
      | nil => intro _; simp
      | cons a l ih =>
        intro hl
        have := ih (by simp at hl; omega)
        have h2 := rowsL_len N hN k (a + 1)
        simp only [List.map_cons, List.sum_cons, List.length_map, List.length_cons] at this ⊢
        rw [Nat.succ_mul]
        omega
    have := h (List.range' f (N - k - f)) (by simp; omega)
    have h3 : (List.range' f (N - k - f)).length * 10 ^ k ≤ 10 * 10 ^ k := Nat.mul_le_mul_right _ (by simp; omega)
    rw [Nat.pow_succ]
    omega
theorem rowsL_each (N : Nat) : ∀ k f r, r ∈ rowsL N k f → r.length = k
  | 0, f, r, h => by simp [rowsL] at h; simp [h]
  | k + 1, f, r, h => by
    rw [rowsL, List.mem_flatMap] at h
    obtain ⟨i, _, h⟩ := h
    obtain ⟨q, hq, rfl⟩ := List.mem_map.1 h
    simp [rowsL_each N k (i + 1) q hq]
theorem pow10 {k : Nat} (h : k ≤ 10) : (10 : Nat) ^ k ≤ 10000000000 := Nat.le_trans (Nat.pow_le_pow_right (by omega) h) (by decide)

/-- The inner loop: the item is laid ahead of each row of the rest. -/
theorem l1_pure (l : List Int) (a1 : Int) (i : Nat) (hi : i < l.length) (t : List (List Int)) (ht : ∀ r ∈ t, r.length ≤ 10) (R : List (List Int)) : ∀ (d j : Nat) (acc : List (List Int)), j + d = t.length → t.length ≤ 10000000000 → acc.length + d ≤ 2000000000000 →
    Ev (fun k => sextantref03_rows.l0 k l a1 (acc ++ (t.drop j).map (nd l i :: ·)) (wrap64 ((i : Int) + 1))) R → Ev (fun k => sextantref03_rows.l1 k l a1 acc i t j) R
  | 0, j, acc, hj, htl, hacc, h => by
    refine Ev.step (f := fun k => sextantref03_rows.l0 k l a1 acc (wrap64 ((i : Int) + 1))) (fun k => ?_) ?_
    · simp only [sextantref03_rows.l1]; rw [if_neg (by omega)]
    · have e : t.drop j = [] := List.drop_eq_nil_of_le (by omega)
      simpa [e] using h
  | d + 1, j, acc, hj, htl, hacc, h => by
    have hjt : j < t.length := by omega
    have hr : rd_L1 t j = t[j] := by simp [rd_L1, List.getElem?_eq_getElem hjt]
    have hrl : (rd_L1 t j).length ≤ 10 := by rw [hr]; exact ht _ (List.getElem_mem hjt)
    have hrd : rd l i = nd l i := by simp [rd, nd]
    refine Ev.step (f := fun k => sextantref03_rows.l1 k l a1 (acc ++ [nd l i :: t[j]]) i t ((j + 1 : Nat) : Int)) (fun k => ?_) ?_
    · simp only [sextantref03_rows.l1, Option.bind_some]
      rw [if_pos (by omega), if_pos (by omega), if_pos (by omega), if_pos (by omega), if_pos (by simp only [List.length_cons, List.length_nil]; omega), if_pos (by omega), w64 (n := (j : Int) + 1) (by omega) (by omega), hr, hrd]
      simp
    · refine l1_pure l a1 i hi t ht R d (j + 1) _ (by omega) htl (by simp; omega) ?_
      rw [List.drop_eq_getElem_cons hjt, List.map_cons] at h
      rw [List.append_assoc, List.singleton_append]
      exact h

theorem rows_pure (l : List Int) (hl : l.length ≤ 10) : ∀ (n f : Nat), f ≤ 20 → n ≤ 10 → Ev (fun k => sextantref03_rows.f k l n f) ((rowsL l.length n f).map (pick l))
  | 0, f, hf, hn => by
    refine Ev.step (f := fun _ => some [[]]) (fun k => ?_) ?_
    · simp [sextantref03_rows.f]
    · simpa [rowsL, pick] using Ev.now [[]]
  | n + 1, f, hf, hn => by
    refine Ev.step (f := fun k => sextantref03_rows.l0 k l ((n + 1 : Nat) : Int) [] f) (fun k => ?_) ?_
    · simp only [sextantref03_rows.f]; rw [if_neg (by omega)]
    · have loop : ∀ (d i : Nat) (acc : List (List Int)), i ≤ 20 → l.length - n - i = d → acc.length + d * 10000000000 ≤ 200000000000 →
          Ev (fun k => sextantref03_rows.l0 k l ((n + 1 : Nat) : Int) acc i) (acc ++ ((List.range' i d).flatMap fun i => (rowsL l.length n (i + 1)).map (i :: ·)).map (pick l)) := by
        intro d
        induction d with
        | zero =>
          intro i acc hi hd hacc
          refine Ev.step (f := fun _ => some acc) (fun k => ?_) (by simpa using Ev.now acc)
          simp only [sextantref03_rows.l0]; rw [w64 (by omega) (by omega), if_neg (by omega)]
        | succ d ih =>
          intro i acc hi hd hacc
          have hil : i < l.length := by omega
          refine Ev.step (f := fun k => (sextantref03_rows.f k l (n : Int) ((i + 1 : Nat) : Int)).bind fun t => sextantref03_rows.l1 k l ((n + 1 : Nat) : Int) acc i t 0) (fun k => ?_) ?_
          · simp only [sextantref03_rows.l0]
            rw [w64 (n := (i : Int) + ((n + 1 : Nat) : Int)) (by omega) (by omega), if_pos (by omega), w64 (n := ((n + 1 : Nat) : Int) - 1) (by omega) (by omega), w64 (n := (i : Int) + 1) (by omega) (by omega), show ((n + 1 : Nat) : Int) - 1 = (n : Int) from by omega, show (i : Int) + 1 = ((i + 1 : Nat) : Int) from by omega]
          · have hle := rowsL_len l.length hl n (i + 1)
            have hp := pow10 (k := n) (by omega)
            refine Ev.bind (rows_pure l hl n (i + 1) (by omega) (by omega)) ?_
            refine l1_pure l _ i hil _ (fun r hr => ?_) _ ((rowsL l.length n (i + 1)).map (pick l)).length 0 acc (Nat.zero_add _) (by simp; omega) (by simp; omega) ?_
            · obtain ⟨q, hq, rfl⟩ := List.mem_map.1 hr
              have := rowsL_each _ _ _ _ hq
              simp [pick]; omega
            · rw [w64 (n := (i : Int) + 1) (by omega) (by omega), show (i : Int) + 1 = ((i + 1 : Nat) : Int) from by omega, List.drop_zero]
              have := ih (i + 1) (acc ++ ((rowsL l.length n (i + 1)).map (pick l)).map (nd l i :: ·)) (by omega) (by omega) (by simp; omega)
              rw [List.range'_succ, List.flatMap_cons, List.map_append]
              rw [List.append_assoc] at this
              have e : ((rowsL l.length n (i + 1)).map (i :: ·)).map (pick l) = ((rowsL l.length n (i + 1)).map (pick l)).map (nd l i :: ·) := by
                rw [List.map_map, List.map_map]; exact List.map_congr_left fun r _ => by simp [pick]
              rw [e]
              exact this
      have := loop (l.length - n - f) f [] hf rfl (by simp; omega)
      rw [rowsL]
      simpa using this

theorem subs_pure (l : List Int) : ∃ k, sextantref03_Subsets.f k l = some (subsL l) := by
  unfold sextantref03_Subsets.f subsL
  by_cases hl : 10 < l.length
  · exact ⟨0, by rw [if_pos (by omega), if_pos hl]⟩
  · rw [if_neg hl]
    simp only [if_neg (show ¬ ((l.length : Int) > 10) by omega)]
    have loop : ∀ (d m : Nat) (acc : List (List Int)), 1 ≤ m → l.length + 1 - m = d → acc.length + d * 10000000000 ≤ 200000000000 →
        Ev (fun k => sextantref03_Subsets.l0 k l acc m) (acc ++ ((List.range' m d).flatMap fun k => rowsL l.length k 0).map (pick l)) := by
      intro d
      induction d with
      | zero =>
        intro m acc hm hd hacc
        refine Ev.step (f := fun _ => some acc) (fun k => ?_) (by simpa using Ev.now acc)
        simp only [sextantref03_Subsets.l0]; rw [if_neg (by omega)]
      | succ d ih =>
        intro m acc hm hd hacc
        have hml : m ≤ l.length := by omega
        have hle := rowsL_len l.length (by omega) m 0
        have hp := pow10 (k := m) (by omega)
        refine Ev.step (f := fun k => (sextantref03_rows.f k l (m : Int) ((0 : Nat) : Int)).bind fun t => if acc.length + t.length < 5864062014805 then sextantref03_Subsets.l0 k l (acc ++ t) ((m + 1 : Nat) : Int) else none) (fun k => ?_) ?_
        · simp only [sextantref03_Subsets.l0]
          rw [if_pos (by omega), w64 (n := (m : Int) + 1) (by omega) (by omega), show (m : Int) + 1 = ((m + 1 : Nat) : Int) from by omega]
          rfl
        · refine Ev.bind (rows_pure l (by omega) m 0 (by omega) (by omega)) ?_
          simp only [if_pos (show acc.length + ((rowsL l.length m 0).map (pick l)).length < 5864062014805 by simp; omega)]
          have := ih (m + 1) (acc ++ (rowsL l.length m 0).map (pick l)) (by omega) (by omega) (by simp; omega)
          rw [List.range'_succ, List.flatMap_cons, List.map_append]
          rwa [List.append_assoc] at this
    have := (loop l.length 1 [] (Nat.le_refl _) (by omega) (by simp; omega)).rounds
    simpa [subsTo] using this
end Go.Proofs.YthfapneifbjlmaaDoor
end

section
namespace Go.Proofs.YthfapneifbjlmaaDoor
open Go.RowKit
set_option linter.unusedVariables false

def sepExit {α : Type} (id : Nat) (Ib Ir : List α → World → (Nat → Prop) → Prop) : Code → List α → World → (Nat → Prop) → Prop
  | .exit i => fun pre W D => i = id ∧ Ib pre W D
  | .ret => Ir
  | _ => fun _ _ _ => False
theorem sepExit_foot {α : Type} {id : Nat} {Ib Ir : List α → World → (Nat → Prop) → Prop} (hb : Foot Ib) (hr : Foot Ir) : ∀ c, Foot (sepExit id Ib Ir c) := by
  intro c s W W' D h hk
  cases c <;> simp only [sepExit] at h ⊢
  case exit i => exact ⟨h.1, hb _ _ _ _ h.2 hk⟩
  case ret => exact hr _ _ _ _ h hk

theorem rangeFunc_block {α : Type} {P : Program} {n : Nat} {g : Operand} {ps : Array Tmp} {assign body : Code} {id : Nat} {Q : Exit → Act → World → Prop} {a : Act} {w : World}
    {gf : Nat} {lb : Array Value} (hg : a.eval g = .func (.func gf) #[] lb) (eg : ∀ args w, (callFunc gf args).run P w = .ok (.enter gf args) w)
    {encs : α → Array Value} {Hand : α → Nat → Prop} {Pre : α → World → Prop} {S Sp : List α → Prop} {Iw : World → (Nat → Prop) → Prop} (hseq : SeqSep P gf lb encs Hand Pre S Sp Iw)
    (hps : ∀ x, (encs x).size = ps.size) (hPre : ∀ x W W', (∀ k, Hand x k → W'.heap[k]? = W.heap[k]?) → Pre x W → Pre x W')
    (I Ib Ir : List α → World → (Nat → Prop) → Prop) (D0 : Nat → Prop) (Mid : World → Prop) (hD0 : ∀ k, D0 k → k < w.heap.size) (hI : Foot I) (hIb : Foot Ib) (hIr : Foot Ir) (h0 : I [] w D0)
    (hIw : ∀ W1 D1, Below w.heap.size w W1 → (∀ k, D1 k → D0 k ∨ w.heap.size ≤ k) → Iw W1 D1) (a₁ : α → Act)
    (hassign : ∀ (l : Nat) (x : α) (W : World) (K : Act → World → Prop), K (a₁ x) W →
      assign.wpIn (Fence.wide.inRound l) n P (Exit.then K (fun _ _ _ => False)) { tmps := (ps.zip (encs x)).foldl (fun t (p, v) => t.setIfInBounds p v) a.tmps, defers := [] } W)
    (hbody : ∀ (l : Nat) (pre : List α) (x : α) (W : World) (D : Nat → Prop), I pre W D → (∀ k, D k → k < W.heap.size) → Pre x W → (∀ k, Hand x k → ¬ D k) → w.heap.size ≤ W.heap.size →
      body.wpIn (Fence.wide.inRound l) n P (sepPost I (sepExit id Ib Ir) (pre ++ [x]) D (Hand x) W) (a₁ x) W)
    (hmid : ∀ W, Mid W → Q .normal { a with defers := { target := .collected w.heap.size, args := #[] } :: a.defers } W)
    (hdone : ∀ (xs : List α) (W : World) (D : Nat → Prop), S xs → I xs W D → Fr D0 w W → W.heap[w.heap.size]? = some (.deferred (some [])) → ¬ D w.heap.size → (∀ k, D k → D0 k ∨ w.heap.size ≤ k) → Mid W)
    (hbrk : ∀ (pre : List α) (W : World) (D : Nat → Prop), Sp pre → Ib pre W D → Fr D0 w W → W.heap[w.heap.size]? = some (.deferred (some [])) → ¬ D w.heap.size → (∀ k, D k → D0 k ∨ w.heap.size ≤ k) → Mid W)
    (hret : ∀ (pre : List α) (W : World) (D : Nat → Prop), Sp pre → Ir pre W D → Fr D0 w W → W.heap[w.heap.size]? = some (.deferred (some [])) → ¬ D w.heap.size → (∀ k, D k → D0 k ∨ w.heap.size ≤ k) → Code.ret.wpIn Fence.wide (n + 2) P (Exit.inBlock id Q) { a with defers := { target := .collected w.heap.size, args := #[] } :: a.defers } W) :
    (Code.rangeFunc g ps assign body).wpIn Fence.wide (n + 2) P (Exit.inBlock id Q) a w := by
  refine rangeFunc_sep hg eg hseq hps hPre I (sepExit id Ib Ir) D0 hD0 hI (sepExit_foot hIb hIr) h0 hIw a₁ hassign hbody (fun xs W D h1 h2 h3 h4 h5 h6 => ?_) (fun c pre W D h1 h2 h3 h4 h5 h6 => ?_)
  · exact hmid W (hdone xs W D h1 h2 h3 h4 h5 h6)
  · cases c <;> simp only [sepExit] at h2
    case exit i =>
      obtain ⟨rfl, h2⟩ := h2
      refine wpIn_exit ?_
      simpa [Exit.inBlock] using hmid W (hbrk pre W D h1 h2 h3 h4 h5 h6)
    case ret => exact hret pre W D h1 h2 h3 h4 h5 h6
end Go.Proofs.YthfapneifbjlmaaDoor
end

section
namespace Go.Proofs.YthfapneifbjlmaaDoor.Bd
open Go.RowKit Go.Shelf Go.Proofs.YthfapneifbjlmaaDoor
attribute [local go_sem] Oper.semAt_some
set_option linter.unusedVariables false
set_option linter.unusedSimpArgs false

def YieldWord (J Jx : List (Nat × List Int) → World → (Nat → Prop) → Prop) (nY yl : Nat) : Prop :=
  ∀ pre (x : Nat × List Int) W1 D1, J pre W1 D1 → (∀ k, D1 k → k < W1.heap.size) → W1.heap[x.1]? = some (.cells (i64s x.2).toArray 3 (0, 0)) ∧ x.2.length ≤ 10 → (∀ k, k = x.1 → ¬ D1 k) →
      YieldAt Fence.wide nY Tryd.prog yl #[.slice (some ⟨x.1, 0, none⟩) x.2.length x.2.length] W1 fun e W' => ∃ D', Round D1 (fun k => k = x.1) W1 W' D' ∧ ((e = .returned (.bool true) ∧ J (pre ++ [x]) W' D') ∨ (e = .returned (.bool false) ∧ Jx (pre ++ [x]) W' D'))

/-- A row of places all of which are chosen: it is handed to the function that makes the items' row. -/
theorem rows_zero {J Jx : List (Nat × List Int) → World → (Nat → Prop) → Prop} {nY yl : Nat} (hJ : Foot J) (hY : YieldWord J Jx nY yl) (kb Bl lb yb cap cb : Nat) (xs : List Int) (C : List Nat) (pre : List (Nat × List Int)) (W : World) (D : Nat → Prop)
    (hC : ∀ p, p ∈ C → p < xs.length) (hK : C.length ≤ 10) (hxl : xs.length ≤ 10) (hi : RowsInv J kb Bl lb yb cap yl C.length cb xs C pre W D) :
    Calls Tryd.prog 31 #[.slice (some ⟨cb, 0, none⟩) C.length C.length, .pointer (some ⟨kb, 0, none⟩), .pointer (some ⟨Bl, 0, none⟩), .pointer (some ⟨yb, 0, none⟩)] W (RowsPost J Jx kb Bl lb yb cap yl C.length cb xs C pre [[]] W D) := by
  have hcells : ∀ j, j < C.length → W.cell? ⟨cb, j, none⟩ = some (.int .i64 (C.getD j 0 : Nat)) := fun j hj => by
    have := (irow_cells (ws := C.map fun x : Nat => (x : Int)) hi.row (by simp)).2.2 j (by simpa using hj)
    rw [this]; simp [nd, List.getElem?_eq_getElem hj]
  refine cb_any W kb Bl lb yb cap yl cb C.length nY xs C hi.env hcells hC hK hxl _ ?_ ?_
  · rintro e w' ⟨ys, D', _, _, ⟨rfl, _⟩ | ⟨rfl, _⟩⟩
    · exact ⟨_, rfl⟩
    · exact ⟨_, rfl⟩
  · intro W2 hb hrow
    have hf2 : Fr (fun _ => False) W W2 := .of_below hb
    have hn : ∀ k, D k → k ≠ W.heap.size := fun k hk => by have := hi.own k hk; omega
    obtain ⟨fn, tmps, assign, body, hy, hR⟩ := hY pre (W.heap.size, pick xs C) W2 D (hJ _ _ _ _ hi.j (fun k hk => hb.block k (hi.own k hk))) (fun k hk => Nat.lt_of_lt_of_le (hi.own k hk) hb.size) ⟨hrow, by simpa [pick] using hK⟩ (fun k hk h => hn k h hk)
    refine ⟨fn, tmps, assign, body, hy, hR.mono ?_⟩
    rintro e W3 ⟨D', hRd, hj⟩
    have hlt : W.heap.size < W2.heap.size := (Array.getElem?_eq_some_iff.1 hrow).1
    have hown : ∀ k, D' k → (D k ∨ W.heap.size ≤ k) ∧ k < W3.heap.size := fun k hk => by
      obtain ⟨h1, h2⟩ := hRd.own k hk
      refine ⟨?_, h2⟩
      rcases h1 with h1 | h1 | h1
      · exact .inl h1
      · exact .inr (by omega)
      · exact .inr (by have := hb.size; omega)
    have hcb := (hi.lts).2.2.2.2
    have hfr : Fr (fun k => D k ∨ k = W.heap.size) W W3 := (Fr.of_below hb).trans hRd.fr
    refine ⟨[(W.heap.size, pick xs C)], D', (Fr.of_below hb).then_ hRd.fr (fun k hk h => h.elim .inl (fun h => by omega)), hown, ?_⟩
    rcases hj with ⟨rfl, hj⟩ | ⟨rfl, hj⟩
    · refine .inl ⟨rfl, by simp, hi.step hfr (fun k hk h => h.elim .inl (fun h => by omega)) hown hj (own_apart hi.row hfr (fun h => h.elim hi.away.2.2.2.2 (fun h => by omega)))⟩
    · exact .inr ⟨rfl, by simp, hj⟩

set_option maxHeartbeats 1000000 in
/-- bits.rows. -/
theorem rows_any {J Jx : List (Nat × List Int) → World → (Nat → Prop) → Prop} {nY yl : Nat} (hJ : Foot J) (hY : YieldWord J Jx nY yl) (kb Bl lb yb cap cb K : Nat) (xs : List Int) (hK : K ≤ 10) (hxl : xs.length ≤ 10) :
    ∀ (k f : Nat) (C : List Nat) (pre : List (Nat × List Int)) (W : World) (D : Nat → Prop), C.length + k = K → f ≤ 20 → (∀ p, p ∈ C → p < xs.length) → RowsInv J kb Bl lb yb cap yl K cb xs C pre W D →
    Calls Tryd.prog 30 #[.int .i64 xs.length, .int .i64 f, .int .i64 k, .slice (some ⟨cb, 0, none⟩) C.length K, .func (.func 31) #[] #[.pointer (some ⟨kb, 0, none⟩), .pointer (some ⟨Bl, 0, none⟩), .pointer (some ⟨yb, 0, none⟩)]] W (RowsPost J Jx kb Bl lb yb cap yl K cb xs C pre (rowsL xs.length k f) W D)
  | 0, f, C, pre, W, D, hCk, hf, hC, hi => by
    obtain rfl : C.length = K := by omega
    have h0 := Lib.hid (rows_zero hJ hY kb Bl lb yb cap cb xs C pre W D hC hK hxl hi)
    clear hi hC hY hJ
    go_enter Tryd.func30, Tryd.ntmps30
    go_wp2_with (go_at_call 31; refine h0.out.mono ?_; rintro e w' hp; obtain ⟨b, rfl⟩ := hp.ret; have hp := Lib.hid hp)
    go_ret
    exact hp.out
  | k + 1, f, C, pre, W, D, hCk, hf, hC, hi => by
    have ih := Lib.hid (fun (i' : Nat) (pre : List (Nat × List Int)) (W1 : World) (D1 : Nat → Prop) (h20 : i' + 1 ≤ 20) (hix : i' < xs.length) (hinv : RowsInv J kb Bl lb yb cap yl K cb xs (C ++ [i']) pre W1 D1) => by
      have h := rows_any hJ hY kb Bl lb yb cap cb K xs hK hxl k (i' + 1) (C ++ [i']) pre W1 D1 (by simp; omega) h20 (fun p hp => by
        rcases List.mem_append.1 hp with hp | hp
        · exact hC p hp
        · simp at hp; omega) hinv
      rw [show ((i' + 1 : Nat) : Int) = (i' : Int) + 1 from by omega, show ((k : Nat) : Int) = ((k + 1 : Nat) : Int) - 1 from by omega, show (C ++ [i']).length = C.length + 1 from by simp] at h
      exact h)
    obtain ⟨i0, hi0, hz0, hz1, hz2⟩ := info_parts info3
    have hI := Lib.hid hi
    have hCC := Lib.hid hC
    have hkne : (((k + 1 : Nat) : Int) == 0) = false := by rw [beq_eq_false_iff_ne]; omega
    have hk10 : ((k + 1 : Nat) : Int) ≤ 10 := by omega
    have hk0 : 1 ≤ ((k + 1 : Nat) : Int) := by omega
    have hCK := Lib.hid hCk
    have hCl : C.length + 1 ≤ K := by omega
    obtain ⟨kk, hkk⟩ : ∃ kk : Nat, kk = k + 1 := ⟨_, rfl⟩
    rw [← hkk] at hkne hk10 hk0 ih
    have HKK := Lib.hid hkk
    rw [← hkk]
    have HJ := Lib.hid hJ
    clear hi hC hY hJ hCk hkk
    go_enter Tryd.func30, Tryd.ntmps30
    go_wp2
    go_loopw [11] (fun i wr => ∃ (i' : Nat) (ys : List (Nat × List Int)) (D1 : Nat → Prop), i = .int .i64 i' ∧ f ≤ i' ∧ i' ≤ 20 ∧ (i' = f ∨ i' + k ≤ xs.length) ∧ ys.map (·.2) = ((List.range' f (i' - f)).flatMap (fun i => (rowsL xs.length k (i + 1)).map (i :: ·))).map (fun r => pick xs (C ++ r)) ∧
        Fr (fun k => D k ∨ k = cb) W wr ∧ (∀ k, D1 k → (D k ∨ W.heap.size ≤ k) ∧ k < wr.heap.size) ∧ RowsInv J kb Bl lb yb cap yl K cb xs C (pre ++ ys) wr D1) (fun i _ => 20 - (intOf i).toNat)
    case atStart => exact ⟨f, [], D, rfl, Nat.le_refl _, hf, .inl rfl, by simp, Fr.refl _ _, fun k hk => ⟨.inl hk, hI.out.own k hk⟩, by simpa using hI.out⟩
    case round =>
      obtain ⟨i', ys, D1, rfl, hfi, hi20, hor, hys, hfr, hD1, hinv⟩ := hrel
      by_cases hlt : (i' : Int) + (kk : Int) ≤ (xs.length : Int)
      · have hrow := hinv.row
        have hix : i' < xs.length := by omega
        have hi19 : i' + 1 ≤ 20 := by omega
        have HIN := Lib.hid hinv
        have HYS := Lib.hid hys
        clear hinv hys
        go_wp2_with (first | (at_builtin; refine wpList_append_fits _ rfl _ _ 22 rfl 0 3 i0 1 Tryd.underlying22 hi0 hz1 cb C.length K (i64s (C.map fun x : Nat => (x : Int))) rfl (hrow.alloc _) ⟨wr.heap.size, 0, none⟩ 1 1 [.int .i64 i'] rfl rfl (cell_one_new _ _ _) (fun x hx => by simp at hx; subst hx; rfl) hCl ?_; intro w1 hown1 hgr1; have hinv1 := Lib.hid (chosen_more HJ.out HIN.out i' hown1 hgr1); have hf1 := Lib.hid (fr_append (cb := cb) hgr1)))
        refine (ih.out i' _ w1 D1 hi19 hix hinv1.out).mono ?_
        rintro e W3 ⟨ys2, D2, hfr2, hD2, (⟨rfl, hys2, hinv2⟩ | ⟨rfl, hys2, hj2⟩)⟩
        · go_wp2
          go_roundw
          case rel =>
            have hkk := HKK.out
            refine ⟨i' + 1, ys ++ ys2, D2, by simp, by omega, by omega, .inr (by omega), ?_, ?_, ?_, ?_⟩
            · rw [rowsL_succ xs.length k f i' hfi (by omega), List.map_append, List.map_append, HYS.out, hys2, List.map_map]
              congr 1
              exact List.map_congr_left fun r _ => by simp
            · exact (hfr.then_ hf1.out (fun k _ h => .inr h)).then_ hfr2 (fun k hk h => h.elim (fun h => (hD1 k h).1.elim .inl (fun h2 => by omega)) .inr)
            · exact own_later hD1 hf1.out.size hfr.size hD2
            · exact hinv2.less (List.append_assoc pre ys ys2)
          case measure => simp [intOf]; omega
        · go_wp2
          go_ret
          have hkk := HKK.out
          refine ⟨ys ++ ys2, D2, (hfr.then_ hf1.out (fun k _ h => .inr h)).then_ hfr2 (fun k hk h => h.elim (fun h => (hD1 k h).1.elim .inl (fun h2 => by omega)) .inr), own_later hD1 hf1.out.size hfr.size hD2, .inr ⟨rfl, ?_, ?_⟩⟩
          · rw [hkk]
            refine List.IsPrefix.trans ?_ (List.IsPrefix.map _ (rowsL_pre xs.length k f i' hfi (by omega)))
            rw [rowsL_succ xs.length k f i' hfi (by omega), List.map_append, List.map_append, HYS.out, List.map_map]
            refine (List.prefix_append_right_inj _).2 ?_
            rwa [show ((fun r => pick xs (C ++ r)) ∘ fun x => i' :: x) = (fun r => pick xs ((C ++ [i']) ++ r)) from by funext r; simp]
          · rw [← List.append_assoc]; exact hj2
      · go_wp2
        go_ret
        have hkk := HKK.out
        refine ⟨ys, D1, hfr, hD1, .inl ⟨rfl, ?_, hinv⟩⟩
        rw [hys, hkk, rowsL, show i' - f = xs.length - k - f from by omega]
set_option maxHeartbeats 1000000 in
theorem subs_small (Bl lb cap yl nY : Nat) (xs : List Int) (hxl : xs.length ≤ 10) {J Jx : List (Nat × List Int) → World → (Nat → Prop) → Prop} (hJ : Foot J) (hY : YieldWord J Jx nY yl) (W : World) (D : Nat → Prop) (hB : LBox W Bl lb cap xs) (hlb : lb < W.heap.size) (hDB : ¬ D Bl) (hDl : ¬ D lb)
    (hD : ∀ k, D k → k < W.heap.size) (h0 : J [] W D) :
    Calls Tryd.prog 29 #[.func (.yield yl) #[] #[], .pointer (some ⟨Bl, 0, none⟩)] W fun e W' => (∃ v, e = .returned v) ∧ ∃ D', Fr D W W' ∧ (∀ k, D' k → (D k ∨ W.heap.size ≤ k) ∧ k < W'.heap.size) ∧
      ((∃ ys, ys.map (·.2) = (subsTo xs.length xs.length).map (pick xs) ∧ J ys W' D') ∨ (∃ ys, ys.map (·.2) <+: (subsTo xs.length xs.length).map (pick xs) ∧ Jx ys W' D')) := by
  have hbl : Bl < W.heap.size := World.block_lt_of_cell? W _ hB.box
  have hi0 : SubInv J W D Bl lb W.heap.size cap yl xs [] (W.alloc (.cells #[.func (.yield yl) #[] #[]] 67)) D :=
    ⟨hJ _ _ _ _ h0 (fun k hk => Below.heap_alloc _ _ _ (hD k hk)), fun k hk => ⟨.inl hk, by rw [World.size_alloc]; have := hD k hk; omega⟩, Fr.alloc _ _ _, ⟨cell_al _ hB.box, fun j hj => cell_al _ (hB.cells j hj)⟩, by rw [World.size_alloc]; omega,
      cell_of_row _ W.heap.size 0 _ 67 (0, 0) (heap_alloc_new W _), hDB, hDl, fun h => by have := hD _ h; omega⟩
  have hbox := hB.box
  have HI := Lib.hid hi0
  have hx10 : ¬ ((10 : Int) < (xs.length : Int)) := by omega
  clear hi0 hB
  go_enter Tryd.func29, Tryd.ntmps29
  go_wp2
  go_loopw [3] (fun v wr => ∃ (kb k : Nat) (ys : List (Nat × List Int)) (D1 : Nat → Prop), v = .pointer (some ⟨kb, 0, none⟩) ∧ wr.cell? ⟨kb, 0, none⟩ = some (.int .i64 k) ∧ wr.frozen? ⟨kb, 0, none⟩ = false ∧ 1 ≤ k ∧ k ≤ xs.length + 1 ∧ W.heap.size < kb ∧ ¬ D1 kb ∧
      ys.map (·.2) = (subsTo xs.length (k - 1)).map (pick xs) ∧ SubInv J W D Bl lb W.heap.size cap yl xs ys wr D1) (fun v wr => xs.length + 1 - boxN wr v)
  case atStart =>
    have hI := HI.out
    refine ⟨W.heap.size + 1, 1, [], D, rfl, ?_, ?_, Nat.le_refl _, by omega, by omega, fun h => by have := hD _ h; omega, by simp [subsTo], ?_⟩
    · exact cell_of_row _ _ 0 _ 3 (0, 0) (by have := heap_alloc_new (W.alloc (.cells #[.func (.yield yl) #[] #[]] 67)) (.cells #[.int .i64 1] 3); rwa [World.size_alloc] at this)
    · exact heap_free (t := 3) (by have := heap_alloc_new (W.alloc (.cells #[.func (.yield yl) #[] #[]] 67)) (.cells #[.int .i64 1] 3); rwa [World.size_alloc] at this) 0
    · exact ⟨hJ _ _ _ _ hI.j (fun i hi => Below.heap_alloc _ _ _ (hI.own i hi).2), fun i hi => ⟨(hI.own i hi).1, by rw [World.size_alloc]; have := (hI.own i hi).2; omega⟩, hI.fr.trans (Fr.alloc _ _ _), ⟨cell_al _ hI.box.box, fun j hj => cell_al _ (hI.box.cells j hj)⟩, by rw [World.size_alloc]; have := hI.lt; omega,
        cell_al _ hI.y, hI.away⟩
  case round =>
    obtain ⟨kb, k, ys, D1, rfl, hkc, hkf, hk1, hkn, hkb, hkD, hys, hi⟩ := hrel
    have hbx := hi.box.box
    by_cases hlt : (k : Int) ≤ (xs.length : Int)
    · have HIN := Lib.hid hi
      have HYS := Lib.hid hys
      have hk10 : k ≤ 10 := by omega
      obtain ⟨i0, hi0, hz0, hz1, hz2⟩ := info_parts info3
      have hmk := fun wx => run_make (P := Tryd.prog) wx 22 3 i0 (.int .i64 0) Tryd.underlying22 hi0 hz0 .i64 .i64 0 (k : Int) (by omega) (by omega) (by rw [hz2]; omega) (by omega)
      simp only [hz1, Int.toNat_natCast, Int.toNat_zero, made_ints] at hmk
      have hr := Lib.hid (fun (w2 : World) (h2 : RowsInv J kb Bl lb W.heap.size cap yl k wr.heap.size xs [] ys w2 D1) => rows_any hJ hY kb Bl lb W.heap.size cap wr.heap.size k xs hk10 hxl k 0 [] ys w2 D1 (by simp) (by omega) (by simp) h2)
      have hRI := Lib.hid ((HIN.out.drew hJ).rows hJ hkc hkD hk10)
      have hkeep := Lib.hid (fun (e : Ending) (W3 : World) (hp : RowsPost J Jx kb Bl lb W.heap.size cap yl k wr.heap.size xs [] ys (rowsL xs.length k 0) (wr.drew.alloc (.cells (i64s (List.replicate k 0)).toArray 3)) D1 e W3) => subs_keep HIN.out hkc hkD hp)
      clear hi hys hz0 hz1 hz2 hi0
      go_wp2
      go_region_held3 (fun w' => w'.cell? ⟨Bl, 0, none⟩ = some (.slice (some ⟨lb, 0, none⟩) xs.length cap) ∧ w'.cell? ⟨kb, 0, none⟩ = some (.int .i64 k))
        (first | exact ⟨hbx, hkc⟩ | exact ⟨cell_al _ hbx, cell_al _ hkc⟩ | exact hkeep.out _ _ hp.out)
        ((go_at_call 30; refine (hr.out _ hRI.out).mono ?_; rintro e W3 hp; obtain ⟨b, rfl⟩ := hp.ret; have hp := Lib.hid hp))
      all_goals
        have hkp := hkeep.out _ _ hp.out
        obtain ⟨hb3, hk3⟩ := hkp
        obtain ⟨ys2, D2, hf2, hD2, (⟨hbt, hys2, hr2⟩ | ⟨hbt, hys2, hj2⟩)⟩ := hp.out
        · cases hbt
          go_wp2
          go_roundw
          case rel =>
            refine ⟨W3.heap.size, k + 1, ys ++ ys2, D2, rfl, ?_, ?_, by omega, by omega, ?_, ?_, ?_, ?_⟩
            · exact cell_of_row _ W3.heap.size 0 _ 3 (0, 0) (heap_alloc_new W3 _)
            · exact heap_free (heap_alloc_new W3 _) 0
            · have := hf2.size; have := World.block_lt_of_cell? wr _ hkc; simp at *; omega
            · intro h; have := (hD2 _ h).2; omega
            · rw [List.map_append, HYS.out, hys2, Nat.add_sub_cancel, show subsTo xs.length k = subsTo xs.length (k - 1) ++ rowsL xs.length k 0 from by
                have := subsTo_succ xs.length (k - 1); rwa [show k - 1 + 1 = k from by omega] at this, List.map_append]
              simp
            · exact HIN.out.next (hJ) hkc hkD hf2 hD2 hr2
          case measure => 
            rw [boxN_eq hkc, boxN_eq (cell_of_row _ W3.heap.size 0 _ 3 (0, 0) (heap_alloc_new W3 _) |>.trans rfl)]
            omega
        · cases hbt
          go_wp2
          refine bodyPost_ret (results_none rfl _ _ _) rfl ?_
          obtain ⟨h1, h2⟩ := HIN.out.ends hf2 hD2
          refine ⟨⟨_, rfl⟩, D2, h1, h2, .inr ⟨ys ++ ys2, ?_, hj2⟩⟩
          have hsub := subsTo_succ xs.length (k - 1)
          rw [show k - 1 + 1 = k from by omega] at hsub
          refine List.IsPrefix.trans ?_ (List.IsPrefix.map _ (subsTo_pre xs.length k xs.length (by omega)))
          rw [List.map_append, HYS.out, hsub, List.map_append]
          exact (List.prefix_append_right_inj _).2 (by simpa using hys2)
    · go_wp2
      go_end0
      obtain rfl : k = xs.length + 1 := by omega
      exact ⟨⟨_, rfl⟩, hi.fr, D1, hi.own, .inl ⟨ys, by simpa using hys, hi.j⟩⟩

theorem subs_seq (Bl lb cap : Nat) (xs : List Int) :
    SeqSep Tryd.prog 29 #[.pointer (some ⟨Bl, 0, none⟩)] (fun x : Nat × List Int => #[.slice (some ⟨x.1, 0, none⟩) x.2.length x.2.length]) (fun x k => k = x.1) (fun x W => W.heap[x.1]? = some (.cells (i64s x.2).toArray 3 (0, 0)) ∧ x.2.length ≤ 10)
      (fun ys => ys.map (·.2) = subsL xs) (fun ys => ys.map (·.2) <+: subsL xs) (fun W D => LBox W Bl lb cap xs ∧ lb < W.heap.size ∧ ¬ D Bl ∧ ¬ D lb) := by
  intro l n J Jx W D ⟨hB, hlb, hDB, hDl⟩ hD hJ hJx h0 hY
  refine callsIn_wide.2 ?_
  unfold subsL
  by_cases hxl : 10 < xs.length
  · refine (subs_large Bl lb cap l xs hxl W hB).mono ?_
    rintro e W' ⟨hv, hb⟩
    exact ⟨hv, D, .of_below hb, fun k hk => ⟨.inl hk, Nat.lt_of_lt_of_le (hD k hk) hb.size⟩, .inl ⟨[], by simp [hxl], hJ _ _ _ _ h0 (fun k hk => hb.block k (hD k hk))⟩⟩
  · rw [if_neg hxl]
    exact subs_small Bl lb cap l n xs (by omega) hJ hY W D hB hlb hDB hDl hD h0
set_option maxHeartbeats 400000 in
theorem Subsets_any (W : World) (ad : Addr) (xs : List Int) (c : Nat) (hc : ∀ j u, (i64s xs)[j]? = some u → W.cell? (ad.add j) = some u) (hl : xs.length ≤ 17592186044416) :
    Calls Tryd.prog 8 #[.slice (some ad) xs.length c] W fun e w' => ∃ Bl lb cap, e = .returned (.func (.func 29) #[] #[.pointer (some ⟨Bl, 0, none⟩)]) ∧ LBox w' Bl lb cap xs ∧ W.heap.size ≤ Bl ∧ W.heap.size ≤ lb ∧ lb < w'.heap.size ∧ Below W.heap.size W w' := by
  have hcl := Lib.hid (clone_ints W ad xs c hc hl)
  clear hc
  go_enter Tryd.func8, Tryd.ntmps8
  go_wp2_with (go_at_call 28; refine hcl.out.mono ?_; rintro e w1 ⟨h, cap, rfl, ho, hb⟩)
  go_ret
  obtain ⟨h1, h2, h3⟩ := irow_cells ho rfl
  refine ⟨w1.heap.size, h, cap, rfl, ⟨cell_of_row _ w1.heap.size 0 _ 22 (0, 0) (heap_alloc_new w1 _), fun j hj => cell_al _ (h3 j hj)⟩, hb.size, h1, (by rw [World.size_alloc]; omega), hb.alloc hb.size _⟩

end Go.Proofs.YthfapneifbjlmaaDoor.Bd
end

section
namespace Go.Proofs.YthfapneifbjlmaaDoor
open Go.RowKit Go.Shelf
open Go.Proofs.YthfapneifbjlmaaDoor.PBitsSubsets Go.Proofs.YthfapneifbjlmaaDoorW.PrintWords
set_option linter.unusedVariables false
set_option linter.unusedSimpArgs false

theorem reads_i64 {w : World} {A : Option Addr} {xs : List Int} (hA : A = none → xs.length = 0) (hl : xs.length ≤ 9223372036854775807)
    (hc : ∀ ad, A = some ad → ∀ j u, (i64s xs)[j]? = some u → w.cell? (ad.add j) = some u) : Kd.C (Kd.int .i64) w A xs.length xs := by
  refine Kd.C_of_reads (d := 0) ⟨rfl, hl, fun hn => ?_⟩
  cases A with
  | none => have := hA rfl; omega
  | some ad =>
    refine ⟨ad, rfl, fun j hj => ?_⟩
    refine hc ad rfl j _ ?_
    rw [i64s_get hj]; rfl
theorem reads_row {w : World} {g : Nat} {xs : List Int} {t : TypeId} (hl : xs.length ≤ 9223372036854775807) (h : w.heap[g]? = some (.cells (i64s xs).toArray t (0, 0))) : Kd.C (Kd.int .i64) w (some ⟨g, 0, none⟩) xs.length xs := by
  refine reads_i64 (by simp) hl fun ad had j u hu => ?_
  cases had
  have e : (⟨g, 0, none⟩ : Addr).add j = ⟨g, j, none⟩ := by unfold Addr.add; split <;> simp_all
  rw [e, heap_cell h]
  exact hu

theorem ints_pure (xs ys : List Int) (hl : xs.length ≤ 1000000000) : ∃ k, sextantlaw03_ints.f k xs ys = some (decide (xs = ys)) := by
  unfold sextantlaw03_ints.f
  by_cases hne : xs.length = ys.length
  · simp only [if_pos (show (xs.length : Int) = (ys.length : Int) by omega)]
    have loop : ∀ (d i : Nat), i + d = xs.length → Ev (fun k => sextantlaw03_ints.l0 k xs ys (i : Int)) (decide (xs.drop i = ys.drop i)) := by
      intro d
      induction d with
      | zero =>
        intro i hi
        refine Ev.step (f := fun _ => some true) (fun k => ?_) ?_
        · simp only [sextantlaw03_ints.l0]; rw [if_neg (by omega)]
        · have : decide (xs.drop i = ys.drop i) = true := by
            rw [List.drop_eq_nil_of_le (by omega), List.drop_eq_nil_of_le (by omega)]; rfl
          rw [this]; exact Ev.now true
      | succ d ih =>
        intro i hi
        have h1 : xs.drop i = xs[i] :: xs.drop (i + 1) := List.drop_eq_getElem_cons (by omega)
        have h2 : ys.drop i = ys[i] :: ys.drop (i + 1) := List.drop_eq_getElem_cons (by omega)
        have r1 : rd xs (i : Int) = xs[i] := by simp [rd, List.getElem?_eq_getElem (show i < xs.length by omega)]
        have r2 : rd ys (i : Int) = ys[i] := by simp [rd, List.getElem?_eq_getElem (show i < ys.length by omega)]
        by_cases he : xs[i]'(by omega) = ys[i]'(by omega)
        · refine Ev.step (f := fun k => sextantlaw03_ints.l0 k xs ys ((i + 1 : Nat) : Int)) (fun k => ?_) ?_
          · simp only [sextantlaw03_ints.l0]
            rw [if_pos (by omega), if_pos (by omega), if_pos (by omega), r1, r2, if_pos he, w64 (n := (i : Int) + 1) (by omega) (by omega)]; rfl
          · have := ih (i + 1) (by omega)
            have e : decide (xs.drop i = ys.drop i) = decide (xs.drop (i + 1) = ys.drop (i + 1)) := decide_eq_decide.2 (by
              rw [h1, h2]; exact ⟨fun h => (List.cons.inj h).2, fun h => by rw [he, h]⟩)
            rw [e]; exact this
        · refine Ev.step (f := fun _ => some false) (fun k => ?_) ?_
          · simp only [sextantlaw03_ints.l0]
            rw [if_pos (by omega), if_pos (by omega), if_pos (by omega), r1, r2, if_neg he]
          · have : decide (xs.drop i = ys.drop i) = false := decide_eq_false (by rw [h1, h2]; exact fun h => he (List.cons.inj h).1)
            rw [this]; exact Ev.now false
    have := (loop xs.length 0 (by omega)).rounds
    simpa using this
  · refine ⟨0, ?_⟩
    rw [if_neg (by omega)]
    have : xs ≠ ys := fun h => hne (by rw [h])
    simp [this]

/-- What the loops' bodies own: the three variables in memory, the result, and the list that is wanted. -/
def Own (ab rb s0 wb : Nat) (k : Nat) : Prop := k = ab ∨ k = rb ∨ (s0 ≤ k ∧ k ≤ wb + 1)
structure Sb (ab rb s0 wb : Nat) (A : Option Addr) (c : Nat) (at' : Int) (L : List (List Int)) (n : Nat) (b : Bool) (W : World) : Prop where
  at_ : W.heap[ab]? = some (.cells #[.int .i64 at'] 3 (0, 0))
  re : W.heap[rb]? = some (.cells #[.bool b] 4 (0, 0))
  wa : W.heap[wb]? = some (.cells #[.slice A L.length c] 27 (0, 0))
  no : W.heap[wb + 1]? = some (.cells #[.int .i64 n] 3 (0, 0))
  wn : Kd.N (Kd.slice 3 (Kd.int .i64)) 22 W s0 (fun k => s0 ≤ k ∧ k < wb) (.slice A L.length c) L
theorem Sb.kept {ab rb s0 wb : Nat} {A : Option Addr} {c : Nat} {at' : Int} {L : List (List Int)} {n : Nat} {b : Bool} {W W' : World} (h : Sb ab rb s0 wb A c at' L n b W) (hs : s0 ≤ wb)
    (hk : ∀ k, Own ab rb s0 wb k → W'.heap[k]? = W.heap[k]?) : Sb ab rb s0 wb A c at' L n b W' :=
  ⟨(hk _ (.inl rfl)).trans h.at_, (hk _ (.inr (.inl rfl))).trans h.re, (hk _ (.inr (.inr ⟨hs, by omega⟩))).trans h.wa, (hk _ (.inr (.inr ⟨by omega, Nat.le_refl _⟩))).trans h.no,
    Kd.N_step h.wn (fun k hk' _ => hk k (.inr (.inr ⟨hk'.1, by omega⟩)))⟩
theorem Sb.setN {ab rb s0 wb : Nat} {A : Option Addr} {c : Nat} {at' : Int} {L : List (List Int)} {n : Nat} {b : Bool} {W : World} (h : Sb ab rb s0 wb A c at' L n b W) (ha : ab < s0) (hr : rb < s0) (hs : s0 ≤ wb) (m : Nat) :
    Sb ab rb s0 wb A c at' L m b (W.setCell ⟨wb + 1, 0, none⟩ (.int .i64 m)) :=
  ⟨(Below.heap_setCell _ _ _ _ (by show ab ≠ wb + 1; omega)).trans h.at_, (Below.heap_setCell _ _ _ _ (by show rb ≠ wb + 1; omega)).trans h.re, (Below.heap_setCell _ _ _ _ (by show wb ≠ wb + 1; omega)).trans h.wa,
    heap_set_same h.no 0 _, Kd.N_far h.wn (fun k hk => by show k ≠ wb + 1; omega) _⟩
theorem Sb.setR {ab rb s0 wb : Nat} {A : Option Addr} {c : Nat} {at' : Int} {L : List (List Int)} {n : Nat} {b : Bool} {W : World} (h : Sb ab rb s0 wb A c at' L n b W) (ha : ab < rb) (hr : rb < s0) (hs : s0 ≤ wb) (b' : Bool) :
    Sb ab rb s0 wb A c at' L n b' (W.setCell ⟨rb, 0, none⟩ (.bool b')) :=
  ⟨(Below.heap_setCell _ _ _ _ (by show ab ≠ rb; omega)).trans h.at_, heap_set_same h.re 0 _, (Below.heap_setCell _ _ _ _ (by show wb ≠ rb; omega)).trans h.wa,
    (Below.heap_setCell _ _ _ _ (by show wb + 1 ≠ rb; omega)).trans h.no, Kd.N_far h.wn (fun k hk => by show k ≠ rb; omega) _⟩
theorem Sb.drewN {ab rb s0 wb : Nat} {A : Option Addr} {c : Nat} {at' : Int} {L : List (List Int)} {n : Nat} {b : Bool} {W : World} (h : Sb ab rb s0 wb A c at' L n b W) (m : Nat) : Sb ab rb s0 wb A c at' L n b (W.drewN m) :=
  ⟨h.at_, h.re, h.wa, h.no, Kd.N_drewN h.wn m⟩
theorem Sb.setFar {ab rb s0 wb : Nat} {A : Option Addr} {c : Nat} {at' : Int} {L : List (List Int)} {n : Nat} {b : Bool} {W : World} (h : Sb ab rb s0 wb A c at' L n b W) (hs : s0 ≤ wb) (p : Addr) (v : Value) (hp : ¬ Own ab rb s0 wb p.block) :
    Sb ab rb s0 wb A c at' L n b (W.setCell p v) := h.kept hs (fun k hk => Below.heap_setCell _ _ _ _ (fun e => hp (e ▸ hk)))

/-- Row number n of what is wanted. -/
theorem Sb.row {ab rb s0 wb : Nat} {A : Option Addr} {c : Nat} {at' : Int} {L : List (List Int)} {n m : Nat} {b : Bool} {W : World} (h : Sb ab rb s0 wb A c at' L m b W) (hn : n < L.length) :
    ∃ ad A0 c0, A = some ad ∧ W.cell? (ad.add n) = some (.slice A0 (L[n]).length c0) ∧ (L[n]).length ≤ c0 ∧ Kd.C (Kd.int .i64) W A0 (L[n]).length (L[n]) := by
  have h1 := (Kd.N_reads' h.wn).2.2
  have h2 := at_L1 h1 (n : Int) (by omega) (by omega)
  have e : rd_L1 L (n : Int) = L[n] := by simp [rd_L1, List.getElem?_eq_getElem hn]
  rwa [e] at h2

theorem prefix_snoc {α : Type} {pre L : List α} {x : α} (h : pre <+: L) (hn : pre.length < L.length) (hx : x = L[pre.length]) : pre ++ [x] <+: L := by
  obtain ⟨t, rfl⟩ := h
  cases t with
  | nil => simp at hn
  | cons y t =>
    have : x = y := by rw [hx]; simp
    subst this
    exact ⟨t, by simp⟩
theorem not_prefix_snoc {α : Type} {pre L : List α} {x : α} (h : ∀ hn : pre.length < L.length, x ≠ L[pre.length]) : ¬ (pre ++ [x] <+: L) := by
  rintro ⟨t, rfl⟩
  exact h (by simp) (by simp)

theorem subsL_big {xs : List Int} (h : 10 < xs.length) : (subsL xs).length = 0 := by simp [subsL, h]
theorem subsTo_small : ∀ n : Fin 11, (subsTo n n).length = 2 ^ n.val - 1 := by decide +kernel
theorem subsL_small {xs : List Int} (h : xs.length ≤ 10) : (subsL xs).length = 2 ^ xs.length - 1 := by
  rw [subsL, if_neg (by omega), List.length_map]
  exact subsTo_small ⟨xs.length, by omega⟩
theorem subsL_le (xs : List Int) : (subsL xs).length ≤ 1023 := by
  by_cases h : 10 < xs.length
  · rw [subsL_big h]; omega
  · rw [subsL_small (by omega)]
    have : 2 ^ xs.length ≤ 2 ^ 10 := Nat.pow_le_pow_right (by omega) (by omega)
    omega
/-- What a round finds; how a round breaks off; how it returns. -/
def BsI (ab rb s0 wb : Nat) (A : Option Addr) (c : Nat) (at' : Int) (L : List (List Int)) (pre : List (Nat × List Int)) (W : World) (D : Nat → Prop) : Prop :=
  (∀ k, D k ↔ Own ab rb s0 wb k) ∧ Sb ab rb s0 wb A c at' L pre.length false W ∧ pre.map (·.2) <+: L
def BsB (ab rb s0 wb : Nat) (A : Option Addr) (c : Nat) (at' : Int) (L : List (List Int)) (pre : List (Nat × List Int)) (W : World) (D : Nat → Prop) : Prop :=
  BsI ab rb s0 wb A c at' L pre W D ∧ (pre.length : Int) = at'
def BsR (L : List (List Int)) (pre : List (Nat × List Int)) (W : World) (D : Nat → Prop) : Prop := ¬ (pre.map (·.2) <+: L)
theorem BsI.foot {ab rb s0 wb : Nat} {A : Option Addr} {c : Nat} {at' : Int} {L : List (List Int)} (hs : s0 ≤ wb) : Foot (BsI ab rb s0 wb A c at' L) :=
  fun s W W' D h hk => ⟨h.1, h.2.1.kept hs (fun k hk' => hk k ((h.1 k).2 hk')), h.2.2⟩
theorem BsB.foot {ab rb s0 wb : Nat} {A : Option Addr} {c : Nat} {at' : Int} {L : List (List Int)} (hs : s0 ≤ wb) : Foot (BsB ab rb s0 wb A c at' L) :=
  fun s W W' D h hk => ⟨BsI.foot hs _ _ _ _ h.1 hk, h.2⟩
theorem BsR.foot {L : List (List Int)} : Foot (BsR L) := fun s W W' D h hk => h
/-- A round that does not fit. -/
theorem Bs_bad {ab rb s0 wb : Nat} {A : Option Addr} {c : Nat} {at' : Int} {L : List (List Int)} {pre : List (Nat × List Int)} {x : Nat × List Int} {W : World} {D : Nat → Prop} (hi : BsI ab rb s0 wb A c at' L pre W D) (hD : ∀ k, D k → k < W.heap.size) (m : Nat) (v : Value)
    (hx : ∀ hn : pre.length < L.length, x.2 ≠ L[pre.length]) : ∃ D', Round D (fun k => k = x.1) W ((W.drewN m).setCell ⟨rb, 0, none⟩ v) D' ∧ BsR L (pre ++ [x]) ((W.drewN m).setCell ⟨rb, 0, none⟩ v) D' := by
  refine ⟨D, ⟨(Fr.drewN _ W m).trans (Fr.setCell _ _ _ (fun _ => .inl ((hi.1 rb).2 (.inr (.inl rfl))))), fun k hk => ⟨.inl hk, by simpa [World.setCell] using hD k hk⟩⟩, ?_⟩
  unfold BsR
  rw [List.map_append]
  exact not_prefix_snoc (fun hn => by simpa using hx (by simpa using hn))
/-- A round that fits. -/
theorem Bs_good {ab rb s0 wb : Nat} {A : Option Addr} {c : Nat} {at' : Int} {L : List (List Int)} {pre : List (Nat × List Int)} {x : Nat × List Int} {W Wi : World} {D : Nat → Prop} (hs : s0 ≤ wb) (ha : ab < s0) (hr : rb < s0) (hi : BsI ab rb s0 wb A c at' L pre W D) (hD : ∀ k, D k → k < W.heap.size) (hf : Fr (fun k => k = x.1) W Wi) (hxD : ¬ D x.1)
    (hn : pre.length < L.length) (hx : x.2 = L[pre.length]) : ∃ D', Round D (fun k => k = x.1) W (Wi.setCell ⟨wb + 1, 0, none⟩ (.int .i64 ((pre.length + 1 : Nat) : Int))) D' ∧ BsI ab rb s0 wb A c at' L (pre ++ [x]) (Wi.setCell ⟨wb + 1, 0, none⟩ (.int .i64 ((pre.length + 1 : Nat) : Int))) D' := by
  have hown : Own ab rb s0 wb (wb + 1) := .inr (.inr ⟨by omega, Nat.le_refl _⟩)
  refine ⟨D, ⟨(hf.mono (fun k _ h => .inr h)).trans (Fr.setCell _ _ _ (fun _ => .inl ((hi.1 (wb + 1)).2 hown))), fun k hk => ⟨.inl hk, ?_⟩⟩, hi.1, ?_, ?_⟩
  · have := hD k hk; have := hf.size; simp [World.setCell]; omega
  · have h1 : Sb ab rb s0 wb A c at' L pre.length false Wi := hi.2.1.kept hs (fun k hk => hf.block k (hD k ((hi.1 k).2 hk)) (fun e => hxD (e ▸ (hi.1 k).2 hk)))
    have h2 := h1.setN ha hr hs (pre.length + 1)
    simpa using h2
  · rw [List.map_append]
    exact prefix_snoc hi.2.2 (by simpa using hn) (by simpa using hx)
end Go.Proofs.YthfapneifbjlmaaDoor
end
