/- Layer 3: what is no set: the other calls; BitsNobody's walk. -/
import Derived.Test.YthfapneifbjlmaaDoorMA
section
namespace Go.Proofs.YthfapneifbjlmaaDoor
open Go.RowKit Go.Shelf
attribute [local go_sem] Oper.semAt_some
set_option linter.unusedVariables false
set_option linter.unusedSimpArgs false

/-- yield's word, as the iterator's contract hands it over. -/
def YieldWord (J Jx : List (Nat × List Int) → World → (Nat → Prop) → Prop) (nY yl : Nat) : Prop :=
  ∀ pre (x : Nat × List Int) W1 D1, J pre W1 D1 → (∀ k, D1 k → k < W1.heap.size) → W1.heap[x.1]? = some (.cells (i64s x.2).toArray 3 (0, 0)) → (∀ k, k = x.1 → ¬ D1 k) →
      YieldAt Fence.wide nY Tryd.prog yl #[.slice (some ⟨x.1, 0, none⟩) x.2.length x.2.length] W1 fun e W' => ∃ D', Round D1 (fun k => k = x.1) W1 W' D' ∧ ((e = .returned (.bool true) ∧ J (pre ++ [x]) W' D') ∨ (e = .returned (.bool false) ∧ Jx (pre ++ [x]) W' D'))

/-- A row of places all of which are chosen: it is handed to the function that makes the items' row. -/
theorem rows_zero {J Jx : List (Nat × List Int) → World → (Nat → Prop) → Prop} {nY yl : Nat} (hJ : Foot J) (hY : YieldWord J Jx nY yl) (kb Bl lb yb cap cb : Nat) (xs : List Int) (C : List Nat) (pre : List (Nat × List Int)) (W : World) (D : Nat → Prop)
    (hC : ∀ p, p ∈ C → p < xs.length) (hK : C.length ≤ 10) (hxl : xs.length ≤ 10) (hi : RowsInv J kb Bl lb yb cap yl C.length cb xs C pre W D) :
    Calls Tryd.prog 31 #[.slice (some ⟨cb, 0, none⟩) C.length C.length, .pointer (some ⟨kb, 0, none⟩), .pointer (some ⟨Bl, 0, none⟩), .pointer (some ⟨yb, 0, none⟩)] W (RowsPost J Jx kb Bl lb yb cap yl C.length cb xs C pre [[]] W D) := by
  have hcells : ∀ j, j < C.length → W.cell? ⟨cb, j, none⟩ = some (.int .i64 (C.getD j 0 : Nat)) := fun j hj => by
    have := (irow_cells (ws := C.map fun x : Nat => (x : Int)) hi.row (by simp)).2.2 j (by simpa using hj)
    rw [this]; simp [nd, List.getElem?_eq_getElem hj]
  refine cb_any W kb Bl lb yb cap yl cb C.length nY xs C hi.env hcells hC hK hxl _ ?_ ?_
  · rintro e w' ⟨ys, D', _, _, ⟨rfl, _⟩ | ⟨rfl, _⟩⟩
    · exact ⟨_, rfl⟩
    · exact ⟨_, rfl⟩
  · intro W2 hb hrow
    have hf2 : Fr (fun _ => False) W W2 := .of_below hb
    have hn : ∀ k, D k → k ≠ W.heap.size := fun k hk => by have := hi.own k hk; omega
    obtain ⟨fn, tmps, assign, body, hy, hR⟩ := hY pre (W.heap.size, pick xs C) W2 D (hJ _ _ _ _ hi.j (fun k hk => hb.block k (hi.own k hk))) (fun k hk => Nat.lt_of_lt_of_le (hi.own k hk) hb.size) hrow (fun k hk h => hn k h hk)
    refine ⟨fn, tmps, assign, body, hy, hR.mono ?_⟩
    rintro e W3 ⟨D', hRd, hj⟩
    have hlt : W.heap.size < W2.heap.size := (Array.getElem?_eq_some_iff.1 hrow).1
    have hown : ∀ k, D' k → (D k ∨ W.heap.size ≤ k) ∧ k < W3.heap.size := fun k hk => by
      obtain ⟨h1, h2⟩ := hRd.own k hk
      refine ⟨?_, h2⟩
      rcases h1 with h1 | h1 | h1
      · exact .inl h1
      · exact .inr (by omega)
      · exact .inr (by have := hb.size; omega)
    have hcb := (hi.lts).2.2.2.2
    have hfr : Fr (fun k => D k ∨ k = W.heap.size) W W3 := (Fr.of_below hb).trans hRd.fr
    refine ⟨[(W.heap.size, pick xs C)], D', (Fr.of_below hb).then_ hRd.fr (fun k hk h => h.elim .inl (fun h => by omega)), hown, ?_⟩
    rcases hj with ⟨rfl, hj⟩ | ⟨rfl, hj⟩
    · refine .inl ⟨rfl, by simp, hi.step hfr (fun k hk h => h.elim .inl (fun h => by omega)) hown hj (own_apart hi.row hfr (fun h => h.elim hi.away.2.2.2.2 (fun h => by omega)))⟩
    · exact .inr ⟨rfl, by simp, hj⟩

theorem fr_append {wr w1 : World} {o : Obj} {cb : Nat} (hg : (wr.alloc o).grownBy w1 (some cb)) : Fr (fun k => k = cb) wr w1 :=
  (Fr.alloc _ wr o).trans ((Fr.of_grownBy hg).mono (fun k _ h => by injection h))
theorem chosen_more {J : List (Nat × List Int) → World → (Nat → Prop) → Prop} {kb Bl lb yb cap yl K cb : Nat} {xs : List Int} {C : List Nat} {pre : List (Nat × List Int)} {wr w1 : World} {D1 : Nat → Prop} {o : Obj} (hJ : Foot J)
    (h : RowsInv J kb Bl lb yb cap yl K cb xs C pre wr D1) (i : Nat) (ho : w1.ownsRow 0 3 1 (.slice (some ⟨cb, 0, none⟩) (C.length + 1) K) (C.length + 1) (i64s (C.map fun x : Nat => (x : Int)) ++ [.int .i64 i])) (hg : (wr.alloc o).grownBy w1 (some cb)) :
    RowsInv J kb Bl lb yb cap yl K cb xs (C ++ [i]) pre w1 D1 := by
  have hf := fr_append hg
  refine h.step hf (fun k _ hk => .inr hk) (fun k hk => ⟨.inl hk, Nat.lt_of_lt_of_le (h.own k hk) hf.size⟩) (hJ _ _ _ _ h.j (fun k hk => hf.block k (h.own k hk) (fun e => h.away.2.2.2.2 (e ▸ hk)))) ?_
  simpa [i64s] using ho
theorem own_later {D D1 D2 : Nat → Prop} {W wr w1 W3 : World} (h1 : ∀ k, D1 k → (D k ∨ W.heap.size ≤ k) ∧ k < wr.heap.size) (hs : wr.heap.size ≤ w1.heap.size) (hs0 : W.heap.size ≤ wr.heap.size) (h2 : ∀ k, D2 k → (D1 k ∨ w1.heap.size ≤ k) ∧ k < W3.heap.size) :
    ∀ k, D2 k → (D k ∨ W.heap.size ≤ k) ∧ k < W3.heap.size := fun k hk => by
  obtain ⟨a, b⟩ := h2 k hk
  exact ⟨a.elim (fun h => (h1 k h).1) (fun h => .inr (by omega)), b⟩
theorem RowsInv.less {J : List (Nat × List Int) → World → (Nat → Prop) → Prop} {kb Bl lb yb cap yl K cb : Nat} {xs : List Int} {C : List Nat} {i : Nat} {pre pre' : List (Nat × List Int)} {W : World} {D : Nat → Prop}
    (h : RowsInv J kb Bl lb yb cap yl K cb xs (C ++ [i]) pre W D) (e : pre = pre') : RowsInv J kb Bl lb yb cap yl K cb xs C pre' W D := by
  subst e
  refine ⟨h.j, h.own, h.env, h.away, h.apart, ?_⟩
  have := h.row
  simp only [List.length_append, List.length_cons, List.length_nil, List.map_append, List.map_cons, List.map_nil, i64s] at this
  exact own_take this (by simp [i64s])
theorem rowsL_pre (n k f i : Nat) (hfi : f ≤ i) (hi : i + (k + 1) ≤ n) : (List.range' f (i + 1 - f)).flatMap (fun i => (rowsL n k (i + 1)).map (i :: ·)) <+: rowsL n (k + 1) f := by
  rw [rowsL, show n - k - f = (i + 1 - f) + (n - k - (i + 1)) from by omega, ← List.range'_append_1, List.flatMap_append]
  exact List.prefix_append _ _
theorem RowsPost.ret {J Jx : List (Nat × List Int) → World → (Nat → Prop) → Prop} {kb Bl lb yb cap yl K cb : Nat} {xs : List Int} {C : List Nat} {pre : List (Nat × List Int)} {L : List (List Nat)} {W W' : World} {D : Nat → Prop} {e : Ending} (h : RowsPost J Jx kb Bl lb yb cap yl K cb xs C pre L W D e W') :
    ∃ b : Bool, e = .returned (.bool b) := by
  obtain ⟨ys, D', _, _, ⟨rfl, _⟩ | ⟨rfl, _⟩⟩ := h
  · exact ⟨_, rfl⟩
  · exact ⟨_, rfl⟩

set_option maxHeartbeats 1000000 in
/-- bits.rows. -/
theorem rows_any {J Jx : List (Nat × List Int) → World → (Nat → Prop) → Prop} {nY yl : Nat} (hJ : Foot J) (hY : YieldWord J Jx nY yl) (kb Bl lb yb cap cb K : Nat) (xs : List Int) (hK : K ≤ 10) (hxl : xs.length ≤ 10) :
    ∀ (k f : Nat) (C : List Nat) (pre : List (Nat × List Int)) (W : World) (D : Nat → Prop), C.length + k = K → f ≤ 20 → (∀ p, p ∈ C → p < xs.length) → RowsInv J kb Bl lb yb cap yl K cb xs C pre W D →
    Calls Tryd.prog 30 #[.int .i64 xs.length, .int .i64 f, .int .i64 k, .slice (some ⟨cb, 0, none⟩) C.length K, .func (.func 31) #[] #[.pointer (some ⟨kb, 0, none⟩), .pointer (some ⟨Bl, 0, none⟩), .pointer (some ⟨yb, 0, none⟩)]] W (RowsPost J Jx kb Bl lb yb cap yl K cb xs C pre (rowsL xs.length k f) W D)
  | 0, f, C, pre, W, D, hCk, hf, hC, hi => by
    obtain rfl : C.length = K := by omega
    have h0 := Lib.hid (rows_zero hJ hY kb Bl lb yb cap cb xs C pre W D hC hK hxl hi)
    clear hi hC hY hJ
    go_enter Tryd.func30, Tryd.ntmps30
    go_wp2_with (go_at_call 31; refine h0.out.mono ?_; rintro e w' hp; obtain ⟨b, rfl⟩ := hp.ret; have hp := Lib.hid hp)
    go_ret
    exact hp.out
  | k + 1, f, C, pre, W, D, hCk, hf, hC, hi => by
    have ih := Lib.hid (fun (i' : Nat) (pre : List (Nat × List Int)) (W1 : World) (D1 : Nat → Prop) (h20 : i' + 1 ≤ 20) (hix : i' < xs.length) (hinv : RowsInv J kb Bl lb yb cap yl K cb xs (C ++ [i']) pre W1 D1) => by
      have h := rows_any hJ hY kb Bl lb yb cap cb K xs hK hxl k (i' + 1) (C ++ [i']) pre W1 D1 (by simp; omega) h20 (fun p hp => by
        rcases List.mem_append.1 hp with hp | hp
        · exact hC p hp
        · simp at hp; omega) hinv
      rw [show ((i' + 1 : Nat) : Int) = (i' : Int) + 1 from by omega, show ((k : Nat) : Int) = ((k + 1 : Nat) : Int) - 1 from by omega, show (C ++ [i']).length = C.length + 1 from by simp] at h
      exact h)
    obtain ⟨i0, hi0, hz0, hz1, hz2⟩ := info_parts info3
    have hI := Lib.hid hi
    have hCC := Lib.hid hC
    have hkne : (((k + 1 : Nat) : Int) == 0) = false := by rw [beq_eq_false_iff_ne]; omega
    have hk10 : ((k + 1 : Nat) : Int) ≤ 10 := by omega
    have hk0 : 1 ≤ ((k + 1 : Nat) : Int) := by omega
    have hCK := Lib.hid hCk
    have hCl : C.length + 1 ≤ K := by omega
    obtain ⟨kk, hkk⟩ : ∃ kk : Nat, kk = k + 1 := ⟨_, rfl⟩
    rw [← hkk] at hkne hk10 hk0 ih
    have HKK := Lib.hid hkk
    rw [← hkk]
    have HJ := Lib.hid hJ
    clear hi hC hY hJ hCk hkk
    go_enter Tryd.func30, Tryd.ntmps30
    go_wp2
    go_loopw [11] (fun i wr => ∃ (i' : Nat) (ys : List (Nat × List Int)) (D1 : Nat → Prop), i = .int .i64 i' ∧ f ≤ i' ∧ i' ≤ 20 ∧ (i' = f ∨ i' + k ≤ xs.length) ∧ ys.map (·.2) = ((List.range' f (i' - f)).flatMap (fun i => (rowsL xs.length k (i + 1)).map (i :: ·))).map (fun r => pick xs (C ++ r)) ∧
        Fr (fun k => D k ∨ k = cb) W wr ∧ (∀ k, D1 k → (D k ∨ W.heap.size ≤ k) ∧ k < wr.heap.size) ∧ RowsInv J kb Bl lb yb cap yl K cb xs C (pre ++ ys) wr D1) (fun i _ => 20 - (intOf i).toNat)
    case atStart => exact ⟨f, [], D, rfl, Nat.le_refl _, hf, .inl rfl, by simp, Fr.refl _ _, fun k hk => ⟨.inl hk, hI.out.own k hk⟩, by simpa using hI.out⟩
    case round =>
      obtain ⟨i', ys, D1, rfl, hfi, hi20, hor, hys, hfr, hD1, hinv⟩ := hrel
      by_cases hlt : (i' : Int) + (kk : Int) ≤ (xs.length : Int)
      · have hrow := hinv.row
        have hix : i' < xs.length := by omega
        have hi19 : i' + 1 ≤ 20 := by omega
        have HIN := Lib.hid hinv
        have HYS := Lib.hid hys
        clear hinv hys
        go_wp2_with (first | (at_builtin; refine wpList_append_fits _ rfl _ _ 22 rfl 0 3 i0 1 Tryd.underlying22 hi0 hz1 cb C.length K (i64s (C.map fun x : Nat => (x : Int))) rfl (hrow.alloc _) ⟨wr.heap.size, 0, none⟩ 1 1 [.int .i64 i'] rfl rfl (cell_one_new _ _ _) (fun x hx => by simp at hx; subst hx; rfl) hCl ?_; intro w1 hown1 hgr1; have hinv1 := Lib.hid (chosen_more HJ.out HIN.out i' hown1 hgr1); have hf1 := Lib.hid (fr_append (cb := cb) hgr1)))
        refine (ih.out i' _ w1 D1 hi19 hix hinv1.out).mono ?_
        rintro e W3 ⟨ys2, D2, hfr2, hD2, (⟨rfl, hys2, hinv2⟩ | ⟨rfl, hys2, hj2⟩)⟩
        · go_wp2
          go_roundw
          case rel =>
            have hkk := HKK.out
            refine ⟨i' + 1, ys ++ ys2, D2, by simp, by omega, by omega, .inr (by omega), ?_, ?_, ?_, ?_⟩
            · rw [rowsL_succ xs.length k f i' hfi (by omega), List.map_append, List.map_append, HYS.out, hys2, List.map_map]
              congr 1
              exact List.map_congr_left fun r _ => by simp
            · exact (hfr.then_ hf1.out (fun k _ h => .inr h)).then_ hfr2 (fun k hk h => h.elim (fun h => (hD1 k h).1.elim .inl (fun h2 => by omega)) .inr)
            · exact own_later hD1 hf1.out.size hfr.size hD2
            · exact hinv2.less (List.append_assoc pre ys ys2)
          case measure => simp [intOf]; omega
        · go_wp2
          go_ret
          have hkk := HKK.out
          refine ⟨ys ++ ys2, D2, (hfr.then_ hf1.out (fun k _ h => .inr h)).then_ hfr2 (fun k hk h => h.elim (fun h => (hD1 k h).1.elim .inl (fun h2 => by omega)) .inr), own_later hD1 hf1.out.size hfr.size hD2, .inr ⟨rfl, ?_, ?_⟩⟩
          · rw [hkk]
            refine List.IsPrefix.trans ?_ (List.IsPrefix.map _ (rowsL_pre xs.length k f i' hfi (by omega)))
            rw [rowsL_succ xs.length k f i' hfi (by omega), List.map_append, List.map_append, HYS.out, List.map_map]
            refine (List.prefix_append_right_inj _).2 ?_
            rwa [show ((fun r => pick xs (C ++ r)) ∘ fun x => i' :: x) = (fun r => pick xs ((C ++ [i']) ++ r)) from by funext r; simp]
          · rw [← List.append_assoc]; exact hj2
      · go_wp2
        go_ret
        have hkk := HKK.out
        refine ⟨ys, D1, hfr, hD1, .inl ⟨rfl, ?_, hinv⟩⟩
        rw [hys, hkk, rowsL, show i' - f = xs.length - k - f from by omega]
end Go.Proofs.YthfapneifbjlmaaDoor
end

section
namespace Go.Proofs.YthfapneifbjlmaaDoor
open Go.RowKit Go.Shelf
set_option linter.unusedVariables false
set_option linter.unusedSimpArgs false

/-- All rows of places: by length, then as rowsL. -/
def subsTo (n m : Nat) : List (List Nat) := (List.range' 1 m).flatMap fun k => rowsL n k 0
theorem subsTo_succ (n m : Nat) : subsTo n (m + 1) = subsTo n m ++ rowsL n (m + 1) 0 := by
  unfold subsTo
  rw [List.range'_concat, List.flatMap_append]
  simp only [Nat.one_mul, List.flatMap_cons, List.flatMap_nil, List.append_nil]
  rw [show 1 + m = m + 1 from by omega]
theorem subsTo_pre (n m m' : Nat) (h : m ≤ m') : subsTo n m <+: subsTo n m' := by
  unfold subsTo
  rw [show m' = m + (m' - m) from by omega, ← List.range'_append_1, List.flatMap_append]
  exact List.prefix_append _ _
/-- What Subsets gives. -/
def subsL (xs : List Int) : List (List Int) := if 10 < xs.length then [] else (subsTo xs.length xs.length).map (pick xs)

/-- What holds between two lengths. -/
structure SubInv (J : List (Nat × List Int) → World → (Nat → Prop) → Prop) (W : World) (D : Nat → Prop) (Bl lb yb cap yl : Nat) (xs : List Int) (pre : List (Nat × List Int)) (wr : World) (D1 : Nat → Prop) : Prop where
  j : J pre wr D1
  own : ∀ k, D1 k → (D k ∨ W.heap.size ≤ k) ∧ k < wr.heap.size
  fr : Fr D W wr
  box : LBox wr Bl lb cap xs
  lt : lb < wr.heap.size
  y : wr.cell? ⟨yb, 0, none⟩ = some (.func (.yield yl) #[] #[])
  away : ¬ D1 Bl ∧ ¬ D1 lb ∧ ¬ D1 yb

/-- The number in the variable that a slot points to. -/
def boxN (w : World) : Value → Nat
  | .pointer (some a) => match w.cell? a with
    | some (.int _ n) => n.toNat
    | _ => 0
  | _ => 0
theorem boxN_eq {w : World} {a : Addr} {q : IntKind} {n : Int} (h : w.cell? a = some (.int q n)) : boxN w (.pointer (some a)) = n.toNat := by simp [boxN, h]

theorem own_made3 (W : World) (n : Nat) (hn : n ≤ 1000) : (W.alloc (.cells (i64s (List.replicate n 0)).toArray 3)).ownsRow 0 3 1 (.slice (some ⟨W.heap.size, 0, none⟩) 0 n) 0 [] :=
  ⟨by simp, .inr ⟨W.heap.size, n, _, rfl, Nat.zero_le _, heap_alloc_new W _, Nat.zero_le _, by simp [maxLen]; omega, by simp [i64s], by simp⟩⟩

theorem SubInv.drew {J : List (Nat × List Int) → World → (Nat → Prop) → Prop} {W : World} {D : Nat → Prop} {Bl lb yb cap yl : Nat} {xs : List Int} {pre : List (Nat × List Int)} {wr : World} {D1 : Nat → Prop} (hJ : Foot J) (h : SubInv J W D Bl lb yb cap yl xs pre wr D1) :
    SubInv J W D Bl lb yb cap yl xs pre wr.drew D1 := ⟨hJ _ _ _ _ h.j (fun _ _ => rfl), h.own, ⟨h.fr.os, h.fr.tape, h.fr.output, h.fr.size, h.fr.block⟩, ⟨h.box.box, h.box.cells⟩, h.lt, h.y, h.away⟩
/-- The rows' invariant at the first place. -/
theorem SubInv.rows {J : List (Nat × List Int) → World → (Nat → Prop) → Prop} {W : World} {D : Nat → Prop} {Bl lb yb cap yl k kb : Nat} {xs : List Int} {pre : List (Nat × List Int)} {wr : World} {D1 : Nat → Prop} (hJ : Foot J) (h : SubInv J W D Bl lb yb cap yl xs pre wr D1)
    (hk : wr.cell? ⟨kb, 0, none⟩ = some (.int .i64 k)) (hkD : ¬ D1 kb) (hk10 : k ≤ 10) : RowsInv J kb Bl lb yb cap yl k wr.heap.size xs [] pre (wr.alloc (.cells (i64s (List.replicate k 0)).toArray 3)) D1 := by
  have h1 := World.block_lt_of_cell? wr _ hk
  have h2 := World.block_lt_of_cell? wr _ h.box.box
  have h3 := World.block_lt_of_cell? wr _ h.y
  simp only at h1 h2 h3
  refine ⟨hJ _ _ _ _ h.j (fun i hi => Below.heap_alloc _ _ _ (h.own i hi).2), fun i hi => by rw [World.size_alloc]; have := (h.own i hi).2; omega,
    ⟨cell_al _ hk, ⟨cell_al _ h.box.box, fun j hj => cell_al _ (h.box.cells j hj)⟩, cell_al _ h.y, by rw [World.size_alloc]; have := h.lt; omega⟩,
    ⟨hkD, h.away.1, h.away.2.1, h.away.2.2, fun hd => by have := (h.own _ hd).2; omega⟩, ⟨by omega, by omega, by have := h.lt; omega, by omega⟩, ?_⟩
  exact own_made3 wr k (by omega)

theorem subs_keep {J Jx : List (Nat × List Int) → World → (Nat → Prop) → Prop} {W : World} {D : Nat → Prop} {Bl lb yb cap yl k kb : Nat} {xs : List Int} {pre : List (Nat × List Int)} {L : List (List Nat)} {wr W3 : World} {o : Obj} {D1 : Nat → Prop} {e : Ending} (h : SubInv J W D Bl lb yb cap yl xs pre wr D1)
    (hk : wr.cell? ⟨kb, 0, none⟩ = some (.int .i64 k)) (hkD : ¬ D1 kb) (hp : RowsPost J Jx kb Bl lb yb cap yl k wr.heap.size xs [] pre L (wr.drew.alloc o) D1 e W3) :
    W3.cell? ⟨Bl, 0, none⟩ = some (.slice (some ⟨lb, 0, none⟩) xs.length cap) ∧ W3.cell? ⟨kb, 0, none⟩ = some (.int .i64 k) := by
  obtain ⟨ys, D', hf, _⟩ := hp
  have h1 := World.block_lt_of_cell? wr _ hk
  have h2 := World.block_lt_of_cell? wr _ h.box.box
  simp only at h1 h2
  exact ⟨hf.cell (cell_al o (show wr.drew.cell? _ = _ from h.box.box)) (fun hd => hd.elim h.away.1 (fun e => by simp at e; omega)), hf.cell (cell_al o (show wr.drew.cell? _ = _ from hk)) (fun hd => hd.elim hkD (fun e => by simp at e; omega))⟩

theorem SubInv.ends {J : List (Nat × List Int) → World → (Nat → Prop) → Prop} {W : World} {D : Nat → Prop} {Bl lb yb cap yl : Nat} {xs : List Int} {pre : List (Nat × List Int)} {wr W3 : World} {o : Obj} {D1 D2 : Nat → Prop} (h : SubInv J W D Bl lb yb cap yl xs pre wr D1)
    (hf : Fr (fun k => D1 k ∨ k = wr.heap.size) (wr.drew.alloc o) W3) (hD : ∀ k, D2 k → (D1 k ∨ (wr.drew.alloc o).heap.size ≤ k) ∧ k < W3.heap.size) :
    Fr D W W3 ∧ ∀ k, D2 k → (D k ∨ W.heap.size ≤ k) ∧ k < W3.heap.size := by
  have hs := h.fr.size
  have hs2 := hf.size
  rw [World.size_alloc] at hs2
  have hs3 : wr.drew.heap.size = wr.heap.size := rfl
  constructor
  · refine h.fr.then_ (M' := fun k => D1 k ∨ k = wr.heap.size) ((show Fr _ wr (wr.drew.alloc o) from ⟨rfl, rfl, rfl, by rw [World.size_alloc, hs3]; omega, fun k hk _ => Below.heap_alloc wr.drew o k hk⟩).trans hf) (fun k hk hd => ?_)
    rcases hd with hd | hd
    · exact (h.own k hd).1.elim id (fun h2 => by omega)
    · omega
  · intro k hk
    obtain ⟨h1, h2⟩ := hD k hk
    refine ⟨?_, h2⟩
    rw [World.size_alloc, hs3] at h1
    rcases h1 with h1 | h1
    · exact (h.own k h1).1
    · exact .inr (by omega)
theorem SubInv.next {J : List (Nat × List Int) → World → (Nat → Prop) → Prop} {W : World} {D : Nat → Prop} {Bl lb yb cap yl k kb : Nat} {xs : List Int} {pre ys2 : List (Nat × List Int)} {wr W3 : World} {o o' : Obj} {D1 D2 : Nat → Prop} (hJ : Foot J) (h : SubInv J W D Bl lb yb cap yl xs pre wr D1)
    (hk : wr.cell? ⟨kb, 0, none⟩ = some (.int .i64 k)) (hkD : ¬ D1 kb) (hf : Fr (fun k => D1 k ∨ k = wr.heap.size) (wr.drew.alloc o) W3) (hD : ∀ k, D2 k → (D1 k ∨ (wr.drew.alloc o).heap.size ≤ k) ∧ k < W3.heap.size)
    (hr : RowsInv J kb Bl lb yb cap yl k wr.heap.size xs [] (pre ++ ys2) W3 D2) : SubInv J W D Bl lb yb cap yl xs (pre ++ ys2) (W3.alloc o') D2 := by
  obtain ⟨h1, h2⟩ := h.ends hf hD
  exact ⟨hJ _ _ _ _ hr.j (fun i hi => Below.heap_alloc _ _ _ (hr.own i hi)), fun i hi => ⟨(h2 i hi).1, by rw [World.size_alloc]; have := (h2 i hi).2; omega⟩, h1.trans (Fr.alloc _ _ _), ⟨cell_al _ hr.env.l.box, fun j hj => cell_al _ (hr.env.l.cells j hj)⟩, by rw [World.size_alloc]; have := hr.env.lt; omega,
    cell_al _ hr.env.y, hr.away.2.1, hr.away.2.2.1, hr.away.2.2.2.1⟩

set_option maxHeartbeats 1000000 in
theorem subs_small (Bl lb cap yl nY : Nat) (xs : List Int) (hxl : xs.length ≤ 10) {J Jx : List (Nat × List Int) → World → (Nat → Prop) → Prop} (hJ : Foot J) (hY : YieldWord J Jx nY yl) (W : World) (D : Nat → Prop) (hB : LBox W Bl lb cap xs) (hlb : lb < W.heap.size) (hDB : ¬ D Bl) (hDl : ¬ D lb)
    (hD : ∀ k, D k → k < W.heap.size) (h0 : J [] W D) :
    Calls Tryd.prog 29 #[.func (.yield yl) #[] #[], .pointer (some ⟨Bl, 0, none⟩)] W fun e W' => (∃ v, e = .returned v) ∧ ∃ D', Fr D W W' ∧ (∀ k, D' k → (D k ∨ W.heap.size ≤ k) ∧ k < W'.heap.size) ∧
      ((∃ ys, ys.map (·.2) = (subsTo xs.length xs.length).map (pick xs) ∧ J ys W' D') ∨ (∃ ys, ys.map (·.2) <+: (subsTo xs.length xs.length).map (pick xs) ∧ Jx ys W' D')) := by
  have hbl : Bl < W.heap.size := World.block_lt_of_cell? W _ hB.box
  have hi0 : SubInv J W D Bl lb W.heap.size cap yl xs [] (W.alloc (.cells #[.func (.yield yl) #[] #[]] 67)) D :=
    ⟨hJ _ _ _ _ h0 (fun k hk => Below.heap_alloc _ _ _ (hD k hk)), fun k hk => ⟨.inl hk, by rw [World.size_alloc]; have := hD k hk; omega⟩, Fr.alloc _ _ _, ⟨cell_al _ hB.box, fun j hj => cell_al _ (hB.cells j hj)⟩, by rw [World.size_alloc]; omega,
      cell_of_row _ W.heap.size 0 _ 67 (0, 0) (heap_alloc_new W _), hDB, hDl, fun h => by have := hD _ h; omega⟩
  have hbox := hB.box
  have HI := Lib.hid hi0
  have hx10 : ¬ ((10 : Int) < (xs.length : Int)) := by omega
  clear hi0 hB
  go_enter Tryd.func29, Tryd.ntmps29
  go_wp2
  go_loopw [3] (fun v wr => ∃ (kb k : Nat) (ys : List (Nat × List Int)) (D1 : Nat → Prop), v = .pointer (some ⟨kb, 0, none⟩) ∧ wr.cell? ⟨kb, 0, none⟩ = some (.int .i64 k) ∧ wr.frozen? ⟨kb, 0, none⟩ = false ∧ 1 ≤ k ∧ k ≤ xs.length + 1 ∧ W.heap.size < kb ∧ ¬ D1 kb ∧
      ys.map (·.2) = (subsTo xs.length (k - 1)).map (pick xs) ∧ SubInv J W D Bl lb W.heap.size cap yl xs ys wr D1) (fun v wr => xs.length + 1 - boxN wr v)
  case atStart =>
    have hI := HI.out
    refine ⟨W.heap.size + 1, 1, [], D, rfl, ?_, ?_, Nat.le_refl _, by omega, by omega, fun h => by have := hD _ h; omega, by simp [subsTo], ?_⟩
    · exact cell_of_row _ _ 0 _ 3 (0, 0) (by have := heap_alloc_new (W.alloc (.cells #[.func (.yield yl) #[] #[]] 67)) (.cells #[.int .i64 1] 3); rwa [World.size_alloc] at this)
    · exact heap_free (t := 3) (by have := heap_alloc_new (W.alloc (.cells #[.func (.yield yl) #[] #[]] 67)) (.cells #[.int .i64 1] 3); rwa [World.size_alloc] at this) 0
    · exact ⟨hJ _ _ _ _ hI.j (fun i hi => Below.heap_alloc _ _ _ (hI.own i hi).2), fun i hi => ⟨(hI.own i hi).1, by rw [World.size_alloc]; have := (hI.own i hi).2; omega⟩, hI.fr.trans (Fr.alloc _ _ _), ⟨cell_al _ hI.box.box, fun j hj => cell_al _ (hI.box.cells j hj)⟩, by rw [World.size_alloc]; have := hI.lt; omega,
        cell_al _ hI.y, hI.away⟩
  case round =>
    obtain ⟨kb, k, ys, D1, rfl, hkc, hkf, hk1, hkn, hkb, hkD, hys, hi⟩ := hrel
    have hbx := hi.box.box
    by_cases hlt : (k : Int) ≤ (xs.length : Int)
    · have HIN := Lib.hid hi
      have HYS := Lib.hid hys
      have hk10 : k ≤ 10 := by omega
      obtain ⟨i0, hi0, hz0, hz1, hz2⟩ := info_parts info3
      have hmk := fun wx => run_make (P := Tryd.prog) wx 22 3 i0 (.int .i64 0) Tryd.underlying22 hi0 hz0 .i64 .i64 0 (k : Int) (by omega) (by omega) (by rw [hz2]; omega) (by omega)
      simp only [hz1, Int.toNat_natCast, Int.toNat_zero, made_ints] at hmk
      have hr := Lib.hid (fun (w2 : World) (h2 : RowsInv J kb Bl lb W.heap.size cap yl k wr.heap.size xs [] ys w2 D1) => rows_any hJ hY kb Bl lb W.heap.size cap wr.heap.size k xs hk10 hxl k 0 [] ys w2 D1 (by simp) (by omega) (by simp) h2)
      have hRI := Lib.hid ((HIN.out.drew hJ).rows hJ hkc hkD hk10)
      have hkeep := Lib.hid (fun (e : Ending) (W3 : World) (hp : RowsPost J Jx kb Bl lb W.heap.size cap yl k wr.heap.size xs [] ys (rowsL xs.length k 0) (wr.drew.alloc (.cells (i64s (List.replicate k 0)).toArray 3)) D1 e W3) => subs_keep HIN.out hkc hkD hp)
      clear hi hys hz0 hz1 hz2 hi0
      go_wp2
      go_region_held3 (fun w' => w'.cell? ⟨Bl, 0, none⟩ = some (.slice (some ⟨lb, 0, none⟩) xs.length cap) ∧ w'.cell? ⟨kb, 0, none⟩ = some (.int .i64 k))
        (first | exact ⟨hbx, hkc⟩ | exact ⟨cell_al _ hbx, cell_al _ hkc⟩ | exact hkeep.out _ _ hp.out)
        ((go_at_call 30; refine (hr.out _ hRI.out).mono ?_; rintro e W3 hp; obtain ⟨b, rfl⟩ := hp.ret; have hp := Lib.hid hp))
      all_goals
        have hkp := hkeep.out _ _ hp.out
        obtain ⟨hb3, hk3⟩ := hkp
        obtain ⟨ys2, D2, hf2, hD2, (⟨hbt, hys2, hr2⟩ | ⟨hbt, hys2, hj2⟩)⟩ := hp.out
        · cases hbt
          go_wp2
          go_roundw
          case rel =>
            refine ⟨W3.heap.size, k + 1, ys ++ ys2, D2, rfl, ?_, ?_, by omega, by omega, ?_, ?_, ?_, ?_⟩
            · exact cell_of_row _ W3.heap.size 0 _ 3 (0, 0) (heap_alloc_new W3 _)
            · exact heap_free (heap_alloc_new W3 _) 0
            · have := hf2.size; have := World.block_lt_of_cell? wr _ hkc; simp at *; omega
            · intro h; have := (hD2 _ h).2; omega
            · rw [List.map_append, HYS.out, hys2, Nat.add_sub_cancel, show subsTo xs.length k = subsTo xs.length (k - 1) ++ rowsL xs.length k 0 from by
                have := subsTo_succ xs.length (k - 1); rwa [show k - 1 + 1 = k from by omega] at this, List.map_append]
              simp
            · exact HIN.out.next (hJ) hkc hkD hf2 hD2 hr2
          case measure => 
            rw [boxN_eq hkc, boxN_eq (cell_of_row _ W3.heap.size 0 _ 3 (0, 0) (heap_alloc_new W3 _) |>.trans rfl)]
            omega
        · cases hbt
          go_wp2
          refine bodyPost_ret (results_none rfl _ _ _) rfl ?_
          obtain ⟨h1, h2⟩ := HIN.out.ends hf2 hD2
          refine ⟨⟨_, rfl⟩, D2, h1, h2, .inr ⟨ys ++ ys2, ?_, hj2⟩⟩
          have hsub := subsTo_succ xs.length (k - 1)
          rw [show k - 1 + 1 = k from by omega] at hsub
          refine List.IsPrefix.trans ?_ (List.IsPrefix.map _ (subsTo_pre xs.length k xs.length (by omega)))
          rw [List.map_append, HYS.out, hsub, List.map_append]
          exact (List.prefix_append_right_inj _).2 (by simpa using hys2)
    · go_wp2
      go_end0
      obtain rfl : k = xs.length + 1 := by omega
      exact ⟨⟨_, rfl⟩, hi.fr, D1, hi.own, .inl ⟨ys, by simpa using hys, hi.j⟩⟩

set_option maxHeartbeats 400000 in
theorem subs_large (Bl lb cap yl : Nat) (xs : List Int) (hxl : 10 < xs.length) (W : World) (hB : LBox W Bl lb cap xs) :
    Calls Tryd.prog 29 #[.func (.yield yl) #[] #[], .pointer (some ⟨Bl, 0, none⟩)] W fun e W' => (∃ v, e = .returned v) ∧ Below W.heap.size W W' := by
  have hbox := hB.box
  have hbl := World.block_lt_of_cell? W _ hB.box
  have hx10 : ((10 : Int) < (xs.length : Int)) := by omega
  clear hB
  go_enter Tryd.func29, Tryd.ntmps29
  go_wp2
  refine bodyPost_ret (results_none rfl _ _ _) rfl ?_
  exact ⟨⟨_, rfl⟩, (Below.refl _ _).alloc (Nat.le_refl _) _⟩

/-- Subsets' iterator: the rows that come by leaving items out. -/
theorem subs_seq (Bl lb cap : Nat) (xs : List Int) :
    SeqSep Tryd.prog 29 #[.pointer (some ⟨Bl, 0, none⟩)] (fun x : Nat × List Int => #[.slice (some ⟨x.1, 0, none⟩) x.2.length x.2.length]) (fun x k => k = x.1) (fun x W => W.heap[x.1]? = some (.cells (i64s x.2).toArray 3 (0, 0)))
      (fun ys => ys.map (·.2) = subsL xs) (fun ys => ys.map (·.2) <+: subsL xs) (fun W D => LBox W Bl lb cap xs ∧ lb < W.heap.size ∧ ¬ D Bl ∧ ¬ D lb) := by
  intro l n J Jx W D ⟨hB, hlb, hDB, hDl⟩ hD hJ hJx h0 hY
  refine callsIn_wide.2 ?_
  unfold subsL
  by_cases hxl : 10 < xs.length
  · refine (subs_large Bl lb cap l xs hxl W hB).mono ?_
    rintro e W' ⟨hv, hb⟩
    exact ⟨hv, D, .of_below hb, fun k hk => ⟨.inl hk, Nat.lt_of_lt_of_le (hD k hk) hb.size⟩, .inl ⟨[], by simp [hxl], hJ _ _ _ _ h0 (fun k hk => hb.block k (hD k hk))⟩⟩
  · rw [if_neg hxl]
    exact subs_small Bl lb cap l n xs (by omega) hJ hY W D hB hlb hDB hDl hD h0
end Go.Proofs.YthfapneifbjlmaaDoor
end

section
namespace Go.Proofs.YthfapneifbjlmaaDoor
open Go.RowKit Go.Shelf
attribute [local go_sem] Oper.semAt_some
set_option linter.unusedVariables false
set_option linter.unusedSimpArgs false

/-- A variable in memory that a loop's body writes, and nothing else of the body's own. -/
def BoxI {α : Type} (B : Nat) (f : List α → Int) (pre : List α) (W : World) (D : Nat → Prop) : Prop :=
  W.heap[B]? = some (.cells #[.int .i64 (f pre)] 3 (0, 0)) ∧ ∀ k, D k ↔ k = B
theorem BoxI.foot {α : Type} (B : Nat) (f : List α → Int) : Foot (BoxI B f) := fun s W W' D h hk => ⟨(hk B ((h.2 B).2 rfl)).trans h.1, h.2⟩

def sum1 (pre : List Nat) : Int := pre.foldl (fun (a : Int) (i : Nat) => wrap64 (wrap64 (100 * a) + (i : Int))) 0
def sum2 (pre : List (Nat × List Int)) : Int := pre.foldl (fun a x => wrap64 (wrap64 (10 * a) + (x.2.length : Int))) (0 : Int)

def no_exit {α : Type} : Code → List α → World → (Nat → Prop) → Prop := fun _ _ _ _ => False

theorem equalIn_func_nil {P : Program} {t : TypeId} {ps rs : Array TypeId} {vd : Bool} (ht : P.underlying t = some (.func ps rs vd)) (d : Nat) (fn : Fn) (a b : Array Value) (w : World) :
    (Op.equalIn (d + 1) t (.func fn a b) .nilFunc).run P w = .ok false w := by simp [Op.equalIn, run_underlying ht]
theorem run_eql_func_nil {P : Program} {t : TypeId} {ps rs : Array TypeId} {vd : Bool} (ht : P.underlying t = some (.func ps rs vd)) (fn : Fn) (a b : Array Value) (w : World) :
    (binOp .eql t (.func fn a b) .nilFunc).run P w = .ok (.bool false) w := by
  simp only [binOp]
  simp [Op.equal, Op.maxDepth, equalIn_func_nil ht 9999]
/-- A round that stores into the body's variable. -/
theorem BoxI.stored {α : Type} {B : Nat} {f : List α → Int} {pre pre' : List α} {W : World} {D H : Nat → Prop} (h : BoxI B f pre W D) (hD : ∀ k, D k → k < W.heap.size) {x : Int} (hx : f pre' = x) :
    ∃ D', Round D H W (W.setCell ⟨B, 0, none⟩ (.int .i64 x)) D' ∧ BoxI B f pre' (W.setCell ⟨B, 0, none⟩ (.int .i64 x)) D' := by
  subst hx
  exact ⟨D, ⟨Fr.setCell _ _ _ (fun _ => .inl ((h.2 B).2 rfl)), fun k hk => ⟨.inl hk, by simpa [World.setCell] using hD k hk⟩⟩, heap_set_same h.1 0 _, h.2⟩
theorem sum1_snoc (pre : List Nat) (x : Nat) : sum1 (pre ++ [x]) = wrap64 (wrap64 (100 * sum1 pre) + x) := by simp [sum1]
theorem sum2_snoc (pre : List (Nat × List Int)) (x : Nat × List Int) : sum2 (pre ++ [x]) = wrap64 (wrap64 (10 * sum2 pre) + x.2.length) := by simp [sum2]
theorem sum2_map (xs : List (Nat × List Int)) : sum2 xs = (xs.map (·.2)).foldl (fun (a : Int) (x : List Int) => wrap64 (wrap64 (10 * a) + (x.length : Int))) 0 := by simp [sum2, List.foldl_map]
theorem below_putObj {B : Nat} {a b : World} (h : Below B a b) (r : Nat) (o : Obj) (hr : B ≤ r) : Below B a (b.putObj r o) :=
  ⟨h.os, h.tape, h.output, by rw [World.putObj_size]; exact h.size, fun k hk => (World.putObj_heap_other (by omega)).trans (h.block k hk)⟩
theorem addr_lit (h : Nat) (xs : List Int) (t : TypeId) (W : World) : ∀ j u, (i64s xs)[j]? = some u → (W.alloc (.cells (i64s xs).toArray t)).cell? ((⟨W.heap.size, 0, none⟩ : Addr).add j) = some u := by
  intro j u hu
  have e : (⟨W.heap.size, 0, none⟩ : Addr).add j = ⟨W.heap.size, j, none⟩ := by unfold Addr.add; split <;> simp_all
  rw [e, heap_cell (heap_alloc_new W _)]
  exact hu

set_option maxHeartbeats 2000000 in
set_option maxRecDepth 100000 in
theorem heads_any (W : World) (hT : Tab W) : Calls Tryd.prog 9 #[] W fun e w' => e = .returned (.bool true) ∧ Below W.heap.size W w' := by
  refine callsIn_wide (n := 3).1 ?_
  have hnew := Lib.hid (callsIn_wide (n := 2).2 (New_ok W 70 (by omega)))
  refine callsIn_of_wp_marks Tryd.func9 rfl trivial ?_ rfl
  simp only [Tryd.ntmps9, List.size_toArray, List.length_cons, List.length_nil, Nat.reduceAdd, Nat.reduceSub, Array.replicate_succ, Array.replicate_zero, List.push_toArray, List.append_toArray, List.nil_append, List.cons_append]
  gi_wp2_with (first | (refine ⟨trivial, ?_⟩; gi_at_call 15; refine hnew.out.mono ?_; rintro e w1 ⟨g, h, rfl, hs1, hg, hh, hb1⟩))
  refine ⟨trivial, ?_⟩
  refine (callsIn_wide (n := 2).2 (Put_set hs1 3 (by omega) (by omega))).mono ?_
  rintro e w2 ⟨rfl, hs2, hg2⟩
  gi_wp2_with fail
  refine ⟨trivial, ?_⟩
  refine (callsIn_wide (n := 2).2 (Put_set hs2 69 (by omega) (by omega))).mono ?_
  rintro e w3 ⟨rfl, hs3, hg3⟩
  gi_wp2_with fail
  refine ⟨trivial, ?_⟩
  refine (callsIn_wide (n := 2).2 (Put_out hs3 70 (by omega))).mono ?_
  rintro e w4 ⟨rfl, rfl⟩
  have hws : putBit (putBit (List.replicate ((70 + 63) / 64) 0) (3 : Int).toNat) (69 : Int).toNat = [8, 32] := by decide
  rw [hws] at hs3
  have hb3 : Below W.heap.size W w3 := (hb1.grown hg2 hb1.size (fun k e => by injection e with e; omega)).grown hg3 (Nat.le_trans hb1.size hg2.size) (fun k e => by injection e with e; omega)
  have hT3 : Tab w3 := hT.kept (M := fun _ => False) (.of_below hb3) id
  clear hg2 hg3 hs2 hs1 hws hb1 hnew
  gi_wp2_with fail
  refine ⟨trivial, ?_⟩
  refine (callsIn_wide (n := 2).2 (Words_set hs3)).mono ?_
  rintro e w5 ⟨kw, cap5, rfl, ho5, hb5⟩
  gi_wp2_with fail
  refine ⟨trivial, ?_⟩
  refine (callsIn_wide (n := 2).2 (All_any w5 _ (.inr ⟨_, rfl⟩))).mono ?_
  rintro e w6 ⟨rfl, rfl⟩
  gi_wp2_with fail
  refine ⟨trivial, ?_⟩
  have hsub := callsIn_wide (n := 2).2 (Subsets_any ((w5.alloc (.cells #[.pointer (some ⟨g, 0, none⟩)] 33)).alloc (.cells #[.int .i64 5, .int .i64 7] 3)) ⟨w5.heap.size + 1, 0, none⟩ [5, 7] 2 (by
    have := addr_lit 0 [5, 7] 3 (w5.alloc (.cells #[.pointer (some ⟨g, 0, none⟩)] 33))
    rw [World.size_alloc] at this
    exact this) (by simp))
  refine hsub.mono ?_
  rintro e w8 ⟨Bl, lb, cap8, rfl, hL, hBl, hlb, hb8⟩
  clear hsub
  have hn1 := fun w => run_eql_func_nil Tryd.underlying71 (.func 53) #[] #[.pointer (some ⟨w5.heap.size, 0, none⟩)] w
  have hn2 := fun w => run_eql_func_nil Tryd.underlying24 (.func 29) #[] #[.pointer (some ⟨Bl, 0, none⟩)] w
  have hs5 : IsSet w5 g h 70 [8, 32] := hs3.below hb5 hs3.lt.1 hs3.lt.2.1
  have hb58 : Below w5.heap.size w5 w8 := (((Below.refl _ w5).alloc (Nat.le_refl _) _).alloc (by simp) _).trans (hb8.mono (by simp; omega))
  have hs8 : IsSet w8 g h 70 [8, 32] := hs5.below hb58 hs5.lt.1 hs5.lt.2.1
  have hc8 : w8.cell? ⟨w5.heap.size, 0, none⟩ = some (.pointer (some ⟨g, 0, none⟩)) :=
    (hb8.cell (p := ⟨w5.heap.size, 0, none⟩) (by simp; omega)).trans (cell_al _ ((cell_of_row _ w5.heap.size 0 _ 33 (0, 0) (heap_alloc_new w5 _)).trans rfl))
  have h35 := hb3.trans (hb5.mono hb3.size)
  have h8 : Below W.heap.size W w8 := h35.trans (hb58.mono h35.size)
  have hT8 : Tab w8 := hT.kept (M := fun _ => False) (.of_below h8) id
  have hlb8 : lb < w8.heap.size := by simpa using World.block_lt_of_cell? w8 _ (hL.cells 0 (by simp))
  have hbl8 : Bl < w8.heap.size := by simpa using World.block_lt_of_cell? w8 _ hL.box
  have hbx8 : w5.heap.size < w8.heap.size := by simpa using World.block_lt_of_cell? w8 _ hc8
  have h58 := hb58.size
  have hW5 := h35.size
  have hW0 : 0 < W.heap.size := by simpa using World.block_lt_of_cell? W _ (hT 0 (by omega))
  obtain ⟨hkw1, hkw2, hkw3⟩ := row_cells ho5 rfl
  have hkwt : ∀ j, w5.frozen? ⟨kw, j, none⟩ = false := fun j => by
    rcases ho5.2 with ⟨h1, _⟩ | ⟨g', cap', cur, h1, _, hh', _⟩
    · cases h1
    · injection h1 with a _ _; injection a with a; injection a with a; subst a; exact heap_free hh' j
  have hw8 : ∀ j, j < 2 → w8.cell? ⟨kw, j, none⟩ = some (.int .u64 (wd [8, 32] j)) := fun j hj => (hb58.cell (p := ⟨kw, j, none⟩) hkw2).trans (hkw3 j hj)
  have hw80 := hw8 0 (by omega)
  have hw81 := hw8 1 (by omega)
  have HW0 := Lib.hid hw80
  have HW1 := Lib.hid hw81
  have HS8 := Lib.hid hs8
  have HT8 := Lib.hid hT8
  have HC8 := Lib.hid hc8
  have HL := Lib.hid hL
  have HB8 := Lib.hid h8
  clear hb5 hb3 hb8 hT3 hs3 hs5 hb58 hs8 hc8 h35 h8 hT8 hkw3 hkwt hw8 hw80 hw81 hL ho5 hT
  gi_wp2_with fail
  refine rangeFunc_sep (n := 1) rfl (enters_of Tryd.func53 (by kernel_rfl) rfl) (all_set w5.heap.size g h 70 [8, 32]) (fun x => rfl) (fun _ _ _ _ h => h) (BoxI w8.heap.size sum1) no_exit (fun k => k = w8.heap.size)
    (fun k hk => by rw [World.size_alloc]; omega) (BoxI.foot _ _) (fun _ _ _ _ _ h _ => h) ⟨heap_alloc_new w8 _, fun k => Iff.rfl⟩ ?iw ?a1 ?assign ?body ?done ?stop
  case assign =>
    intro l x W' K hK
    gi_wp2
    exact hK
  case iw =>
    intro W1 D1 hb hd
    rw [World.size_alloc] at hb hd
    have hbw : Below w8.heap.size w8 W1 := ((Below.refl _ w8).alloc (Nat.le_refl _) _).trans (hb.mono (by omega))
    exact ⟨(hbw.cell (p := ⟨w5.heap.size, 0, none⟩) hbx8).trans HC8.out, HS8.out.below hbw HS8.out.lt.1 HS8.out.lt.2.1, HT8.out.kept (M := fun _ => False) (.of_below hbw) id, fun h0 => by rcases hd 0 h0 with h | h <;> omega⟩
  case body =>
    rintro l pre x W' D ⟨hb, hD⟩ hDl hx hhand hle
    have hcb := heap_cell (cs := [.int .i64 (sum1 pre)]) hb 0
    have hfb := heap_free hb 0
    simp only [List.getElem?_cons_zero] at hcb
    gi_wp2
    exact BoxI.stored ⟨hb, hD⟩ hDl (sum1_snoc pre x)
  case done =>
    rintro xs W9 D9 rfl ⟨hb9, hD9⟩ hf9 hdef9 hnd9 hdd9
    have hsum : sum1 (mems 0 [8, 32]) = 369 := by decide +kernel
    rw [hsum] at hb9
    have hf89 : Fr (fun k => k = w8.heap.size) w8 W9 := (Fr.alloc _ w8 _).trans hf9
    have hL9 : LBox W9 Bl lb cap8 [5, 7] := ⟨hf89.cell HL.out.box (by simp; omega), fun j hj => hf89.cell (HL.out.cells j hj) (by simp; omega)⟩
    have HL9 := Lib.hid hL9
    have hs9 : w8.heap.size + 1 ≤ W9.heap.size := by have := hf9.size; rwa [World.size_alloc] at this
    have HF9 := Lib.hid hf89
    have HB9 := Lib.hid hb9
    have hdf9 := Lib.hid hdef9
    clear hdef9 hL9 hf89 hf9 hb9
    rw [World.size_alloc] at hnd9 hdf9
    gi_wp2_with fail
    refine rangeFunc_sep (n := 1) rfl (enters_of Tryd.func29 (by kernel_rfl) rfl) (subs_seq Bl lb cap8 [5, 7]) (fun x => rfl) (fun x _ _ h hp => (h x.1 rfl).trans hp) (BoxI W9.heap.size sum2) no_exit (fun k => k = W9.heap.size)
      (fun k hk => by rw [World.size_alloc]; omega) (BoxI.foot _ _) (fun _ _ _ _ _ h _ => h) ⟨heap_alloc_new W9 _, fun k => Iff.rfl⟩ ?iw2 ?a2 ?assign2 ?body2 ?done2 ?stop2
    case assign2 =>
      intro l x W' K hK
      gi_wp2
      exact hK
    case iw2 =>
      intro W1 D1 hb hd
      rw [World.size_alloc] at hb hd
      have hbw : Below W9.heap.size W9 W1 := ((Below.refl _ W9).alloc (Nat.le_refl _) _).trans (hb.mono (by omega))
      have hf : Fr (fun _ => False) W9 W1 := .of_below hbw
      refine ⟨⟨hf.cell HL9.out.box id, fun j hj => hf.cell (HL9.out.cells j hj) id⟩, by have := hbw.size; omega, fun h => ?_, fun h => ?_⟩
      · rcases hd _ h with h | h <;> omega
      · rcases hd _ h with h | h <;> omega
    case body2 =>
      rintro l pre x W' D ⟨hb, hD⟩ hDl hx hhand hle
      have hcb := heap_cell (cs := [.int .i64 (sum2 pre)]) hb 0
      have hfb := heap_free hb 0
      simp only [List.getElem?_cons_zero] at hcb
      clear hx
      gi_wp2
      exact BoxI.stored ⟨hb, hD⟩ hDl (sum2_snoc pre x)
    case done2 =>
      rintro xs WA DA hS ⟨hbA, hDA⟩ hfA hdefA hndA hddA
      have hsum2 : sum2 xs = 112 := by rw [sum2_map, hS]; decide +kernel
      rw [hsum2] at hbA
      have hf9A : Fr (fun k => k = W9.heap.size) W9 WA := (Fr.alloc _ W9 _).trans hfA
      have hc9 := hf9A.cell (heap_cell (cs := [.int .i64 369]) HB9.out 0) (by simp; omega)
      have hcA := heap_cell (cs := [.int .i64 112]) hbA 0
      have hwA0 := hf9A.cell (HF9.out.cell HW0.out (by simp; omega)) (by simp; omega)
      have hwA1 := hf9A.cell (HF9.out.cell HW1.out (by simp; omega)) (by simp; omega)
      have hdA : WA.heap[w8.heap.size + 1]? = some (.deferred (some [])) := (hf9A.block _ (Array.getElem?_eq_some_iff.1 hdf9.out).1 (fun h => by have := (Array.getElem?_eq_some_iff.1 hdf9.out).1; have h' : w8.heap.size + 1 = W9.heap.size := h; omega)).trans hdf9.out
      simp only [List.getElem?_cons_zero, wd, List.getD_cons_zero, List.getD_cons_succ] at hc9 hcA hwA0 hwA1
      rw [World.size_alloc] at hdefA
      have hBA : Below W.heap.size W WA := HB8.out.trans (((HF9.out.below (fun k hk h => absurd h (Nat.ne_of_lt hk))).mono (by omega)).trans ((hf9A.below (fun k hk h => absurd h (Nat.ne_of_lt hk))).mono (by omega)))
      have hdfA := Lib.hid hdefA
      have hdB := Lib.hid hdA
      have HBA := Lib.hid hBA
      clear hdefA hbA hdA hBA hfA hf9A
      gi_wp2
      have hne : w8.heap.size + 1 ≠ W9.heap.size + 1 := by omega
      refine ⟨by simp, .inl ⟨_, _, by rw [World.size_alloc], run_takeDeferred hdfA.out, ?_⟩⟩
      refine ⟨by simp, .inl ⟨_, _, by rw [World.size_alloc], run_takeDeferred ((World.putObj_heap_other hne).trans hdB.out), ?_⟩⟩
      exact ⟨_, results_tmp rfl _ _ _, rfl, below_putObj (below_putObj HBA.out _ _ (by omega)) _ _ (by omega)⟩
    case stop2 => exact fun _ _ _ _ _ h => h.elim
  case stop => exact fun _ _ _ _ _ h => h.elim
end Go.Proofs.YthfapneifbjlmaaDoor
end

section
namespace Go.Proofs.YthfapneifbjlmaaDoor
open Go.RowKit Go.Shelf
set_option linter.unusedVariables false
set_option linter.unusedSimpArgs false

set_option maxHeartbeats 400000 in
theorem Count_dead {W : World} {v : Value} (H : Dead W v) :
    Calls Tryd.prog 21 #[v] W fun e w' => e = .returned (.int .i64 0) ∧ W = w' := by
  have al := Lib.hid (alive_dead H)
  clear H
  go_enter Tryd.func21, Tryd.ntmps21
  go_wp2_with (go_at_call 42; refine al.out.mono ?_; rintro e w' ⟨rfl, rfl⟩)
  go_ret
  exact ⟨rfl, rfl⟩
set_option maxHeartbeats 400000 in
theorem with_dead {W : World} {v u f : Value} (H : Dead W v) :
    Calls Tryd.prog 44 #[v, u, f] W fun e w' => e = .returned (.int .i64 1) ∧ W = w' := by
  have al := Lib.hid (alive_dead H)
  clear H
  go_enter Tryd.func44, Tryd.ntmps44
  go_wp2_with (go_at_call 42; refine al.out.mono ?_; rintro e w' ⟨rfl, rfl⟩)
  go_ret
  exact ⟨rfl, rfl⟩
set_option maxHeartbeats 400000 in
theorem Or_dead {W : World} {v u : Value} (H : Dead W v) :
    Calls Tryd.prog 20 #[v, u] W fun e w' => e = .returned (.int .i64 1) ∧ W = w' := by
  have al := Lib.hid (fun f => with_dead (u := u) (f := f) H)
  clear H
  go_enter Tryd.func20, Tryd.ntmps20
  go_wp2_with (go_at_call 44; refine (al.out _).mono ?_; rintro e w' ⟨rfl, rfl⟩)
  go_ret
  exact ⟨rfl, rfl⟩
set_option maxHeartbeats 400000 in
theorem And_dead {W : World} {v u : Value} (H : Dead W v) :
    Calls Tryd.prog 19 #[v, u] W fun e w' => e = .returned (.int .i64 1) ∧ W = w' := by
  have al := Lib.hid (fun f => with_dead (u := u) (f := f) H)
  clear H
  go_enter Tryd.func19, Tryd.ntmps19
  go_wp2_with (go_at_call 44; refine (al.out _).mono ?_; rintro e w' ⟨rfl, rfl⟩)
  go_ret
  exact ⟨rfl, rfl⟩
set_option maxHeartbeats 400000 in
theorem Without_dead {W : World} {v u : Value} (H : Dead W v) :
    Calls Tryd.prog 18 #[v, u] W fun e w' => e = .returned (.int .i64 1) ∧ W = w' := by
  have al := Lib.hid (fun f => with_dead (u := u) (f := f) H)
  clear H
  go_enter Tryd.func18, Tryd.ntmps18
  go_wp2_with (go_at_call 44; refine (al.out _).mono ?_; rintro e w' ⟨rfl, rfl⟩)
  go_ret
  exact ⟨rfl, rfl⟩
theorem Dead.drewN {W : World} {v : Value} (H : Dead W v) (n : Nat) : Dead (W.drewN n) v := H
set_option maxHeartbeats 400000 in
theorem fits_dead {W : World} {v u : Value} (H : Dead W v) :
    Calls Tryd.prog 49 #[v, u] W fun e w' => e = .returned (.bool false) ∧ ∃ n, W.drewN n = w' := by
  have al := Lib.hid (fun n => alive_dead (H.drewN n))
  clear H
  go_enter Tryd.func49, Tryd.ntmps49
  go_wp2
  go_quiet ((go_at_call 42; exact Calls.quiet_of_same ((al.out _).mono (fun e w' h => ⟨h.1, h.2.symm⟩))))
  go_wp2
  go_ret
  exact ⟨rfl, nq, rfl⟩
set_option maxHeartbeats 400000 in
theorem Within_dead {W : World} {v u : Value} (H : Dead W v) :
    Calls Tryd.prog 23 #[v, u] W fun e w' => e = .returned (.bool false) ∧ ∃ n, W.drewN n = w' := by
  have al := Lib.hid (fits_dead (u := u) H)
  clear H
  go_enter Tryd.func23, Tryd.ntmps23
  go_wp2_with (go_at_call 49; refine al.out.mono ?_; rintro e w' ⟨rfl, n, rfl⟩)
  go_ret
  exact ⟨rfl, n, rfl⟩
set_option maxHeartbeats 400000 in
theorem Same_dead {W : World} {v u : Value} (H : Dead W v) :
    Calls Tryd.prog 22 #[v, u] W fun e w' => e = .returned (.bool false) ∧ ∃ n, W.drewN n = w' := by
  have al := Lib.hid (fun n => fits_dead (u := u) (H.drewN n))
  clear H
  go_enter Tryd.func22, Tryd.ntmps22
  go_wp2
  go_quiet ((go_at_call 49; exact Calls.quiet_of ((al.out _).mono (fun e w' h => ⟨h.1, h.2.imp (fun _ h => h.symm)⟩))))
  go_wp2
  go_ret
  exact ⟨rfl, nq, rfl⟩

def cnt (pre : List Nat) : Int := pre.foldl (fun (a : Int) (_ : Nat) => wrap64 (a + 1)) 0
theorem cnt_snoc (pre : List Nat) (x : Nat) : cnt (pre ++ [x]) = wrap64 (cnt pre + 1) := by simp [cnt]
theorem Dead.kept {M : Nat → Prop} {a b : World} {v : Value} (H : Dead a v) (hf : Fr M a b) (hn : ∀ g, v = .pointer (some ⟨g, 0, none⟩) → ¬ M g) : Dead b v := by
  rcases H with rfl | ⟨g, rfl, h⟩
  · exact .inl rfl
  · exact .inr ⟨g, rfl, hf.cell h (hn g rfl)⟩
theorem Dead.lt {a : World} {v : Value} (H : Dead a v) : ∀ g, v = .pointer (some ⟨g, 0, none⟩) → g < a.heap.size := by
  intro g hg
  rcases H with rfl | ⟨g', rfl, h⟩
  · cases hg
  · injection hg with hg; injection hg with hg; injection hg with hg; subst hg; exact World.block_lt_of_cell? a _ h

section
attribute [local go_sem] Oper.semAt_some
set_option maxHeartbeats 2000000 in
set_option maxRecDepth 100000 in
theorem nobody_any (W : World) (v : Value) (i : Int) (H : Dead W v) :
    Calls Tryd.prog 24 #[v, .int .i64 i] W fun e w' => e = .returned (.bool true) ∧ Below W.heap.size W w' := by
  refine callsIn_wide (n := 3).1 ?_
  have hv : v = .pointer none ∨ ∃ a, v = .pointer (some a) := H.imp id (fun ⟨g, h, _⟩ => ⟨_, h⟩)
  have hall := Lib.hid (callsIn_wide (n := 2).2 (All_any W v hv))
  have HD := Lib.hid H
  clear H hv
  refine callsIn_of_wp_marks Tryd.func24 rfl trivial ?_ rfl
  simp only [Tryd.ntmps24, List.size_toArray, List.length_cons, List.length_nil, Nat.reduceAdd, Nat.reduceSub, Array.replicate_succ, Array.replicate_zero, List.push_toArray, List.append_toArray, List.nil_append, List.cons_append]
  have hn1 := fun w => run_eql_func_nil Tryd.underlying71 (.func 53) #[] #[.pointer (some ⟨W.heap.size, 0, none⟩)] w
  gi_wp2_with (first | (refine ⟨trivial, ?_⟩; gi_at_call 33; refine hall.out.mono ?_; rintro e w1 ⟨rfl, rfl⟩))
  refine rangeFunc_sep (n := 1) rfl (enters_of Tryd.func53 (by kernel_rfl) rfl) (all_dead W.heap.size v) (fun x => rfl) (fun _ _ _ _ h => h) (BoxI (W.heap.size + 1) cnt) no_exit (fun k => k = W.heap.size + 1)
    (fun k hk => by simp; omega) (BoxI.foot _ _) (fun _ _ _ _ _ h _ => h) ⟨by have := heap_alloc_new (W.alloc (.cells #[v] 33)) (.cells #[.int .i64 0] 3); rwa [World.size_alloc] at this, fun k => Iff.rfl⟩ ?iw ?a1 ?assign ?body ?done ?stop
  case assign =>
    intro l x W' K hK
    gi_wp2
    exact hK
  case iw =>
    intro W1 D1 hb hd
    have hb' : Below (W.heap.size + 2) ((W.alloc (.cells #[v] 33)).alloc (.cells #[.int .i64 0] 3)) W1 := by simpa using hb
    have hbw : Below W.heap.size W W1 := (((Below.refl _ W).alloc (Nat.le_refl _) _).alloc (by simp) _).trans (hb'.mono (by omega))
    refine ⟨(hb'.cell (p := ⟨W.heap.size, 0, none⟩) (by simp)).trans (cell_al _ ((cell_of_row _ W.heap.size 0 _ 33 (0, 0) (heap_alloc_new W _)).trans rfl)), HD.out.kept (M := fun _ => False) (.of_below hbw) (fun _ _ => id)⟩
  case body =>
    rintro l pre x W' D ⟨hb, hD⟩ hDl hx hhand hle
    have hcb := heap_cell (cs := [.int .i64 (cnt pre)]) hb 0
    have hfb := heap_free hb 0
    simp only [List.getElem?_cons_zero] at hcb
    gi_wp2
    exact BoxI.stored ⟨hb, hD⟩ hDl (cnt_snoc pre x)
  case done =>
    rintro xs W9 D9 rfl ⟨hb9, hD9⟩ hf9 hdef9 hnd9 hdd9
    have hcb := heap_cell (cs := [.int .i64 (cnt [])]) hb9 0
    simp only [List.getElem?_cons_zero, cnt, List.foldl_nil] at hcb
    have hf : Fr (fun k => k = W.heap.size + 1) W W9 := (Fr.alloc _ W _).trans ((Fr.alloc _ _ _).trans hf9)
    have hd9 : Dead W9 v := HD.out.kept hf (fun g hg h => by have := HD.out.lt g hg; omega)
    have HB9 := Lib.hid (hf.below (fun k hk h => by have h' : k = W.heap.size + 1 := h; omega))
    simp only [World.size_alloc] at hdef9
    have HDF := Lib.hid hdef9
    have HD9 := Lib.hid hd9
    clear hb9 hdef9 hf hd9 hf9
    gi_wp2_with (first | (refine ⟨trivial, ?_⟩; gi_at_call 40; refine (callsIn_wide (n := 2).2 (Room_dead HD9.out)).mono ?_; rintro e w1 ⟨rfl, rfl⟩) | (refine ⟨trivial, ?_⟩; gi_at_call 16; refine (callsIn_wide (n := 2).2 (Put_dead HD9.out _)).mono ?_; rintro e w1 ⟨rfl, rfl⟩) | (refine ⟨trivial, ?_⟩; gi_at_call 35; refine (callsIn_wide (n := 2).2 (Drop_dead HD9.out _)).mono ?_; rintro e w1 ⟨rfl, rfl⟩) | (refine ⟨trivial, ?_⟩; gi_at_call 38; refine (callsIn_wide (n := 2).2 (Has_dead HD9.out _)).mono ?_; rintro e w1 ⟨rfl, rfl⟩) | (refine ⟨trivial, ?_⟩; gi_at_call 21; refine (callsIn_wide (n := 2).2 (Count_dead HD9.out)).mono ?_; rintro e w1 ⟨rfl, rfl⟩) | (refine ⟨trivial, ?_⟩; gi_at_call 32; refine (callsIn_wide (n := 2).2 (Words_dead HD9.out)).mono ?_; rintro e w1 ⟨rfl, rfl⟩) | (refine ⟨trivial, ?_⟩; gi_at_call 20; refine (callsIn_wide (n := 2).2 (Or_dead HD9.out)).mono ?_; rintro e w1 ⟨rfl, rfl⟩) | (refine ⟨trivial, ?_⟩; gi_at_call 19; refine (callsIn_wide (n := 2).2 (And_dead HD9.out)).mono ?_; rintro e w1 ⟨rfl, rfl⟩) | (refine ⟨trivial, ?_⟩; gi_at_call 18; refine (callsIn_wide (n := 2).2 (Without_dead HD9.out)).mono ?_; rintro e w1 ⟨rfl, rfl⟩))
    refine ⟨trivial, ?_⟩
    refine (callsIn_wide (n := 2).2 (Within_dead HD9.out)).mono ?_
    rintro e w1 ⟨rfl, n1, rfl⟩
    gi_wp2_with fail
    refine ⟨trivial, ?_⟩
    refine (callsIn_wide (n := 2).2 (Same_dead (HD9.out.drewN n1))).mono ?_
    rintro e w1 ⟨rfl, n2, rfl⟩
    gi_wp2_with fail
    refine ⟨trivial, ?_⟩
    refine (callsIn_wide (n := 2).2 (Copy_dead (HD9.out.drewN (n1 + n2)))).mono ?_
    rintro e w1 ⟨rfl, rfl⟩
    gi_wp2_with fail
    refine ⟨by simp, .inl ⟨_, _, rfl, run_takeDeferred (show (W9.drewN (n1 + n2)).heap[_]? = _ from HDF.out), ?_⟩⟩
    refine ⟨_, results_tmp rfl _ _ _, rfl, ?_⟩
    have hb : Below W.heap.size W (W9.drewN (n1 + n2)) := ⟨HB9.out.os, HB9.out.tape, HB9.out.output, HB9.out.size, HB9.out.block⟩
    exact below_putObj hb _ _ (by omega)
  case stop => exact fun _ _ _ _ _ h => h.elim
end

set_option maxHeartbeats 1000000 in
theorem BitsNobody_walk (i : Int) (W : World) (hT : Tab W) :
    Calls Tryd.prog 6 #[.int .i64 i] W fun e w' => e = .returned (.bool true) ∧ Below W.heap.size W w' := by
  have h1 := Lib.hid (nobody_any W (.pointer none) i (.inl rfl))
  have hT0 := Lib.hid hT
  clear hT
  go_enter Tryd.func6, Tryd.ntmps6
  go_wp2_with fail
  refine h1.out.mono ?_
  rintro e w1 ⟨rfl, hb1⟩
  clear h1
  go_wp2_with fail
  have hz : Dead (w1.alloc (.cells #[.int .i64 0, .slice none 0 0, .bool false] 55)) (.pointer (some ⟨w1.heap.size, 0, none⟩)) := .inr ⟨_, rfl, (cell_of_row _ w1.heap.size 2 _ 55 (0, 0) (heap_alloc_new w1 _)).trans rfl⟩
  refine (nobody_any _ _ i hz).mono ?_
  rintro e w2 ⟨rfl, hb2⟩
  have hb12 : Below W.heap.size W w2 := (hb1.alloc hb1.size _).trans (hb2.mono (by simp; have := hb1.size; omega))
  have hh := Lib.hid (heads_any w2 (hT0.out.kept (M := fun _ => False) (.of_below hb12) id))
  have HB := Lib.hid hb12
  clear hz hb1 hb2 hb12
  go_wp2_with fail
  refine hh.out.mono ?_
  rintro e w3 ⟨rfl, hb3⟩
  clear hh
  go_wp2_with fail
  go_ret
  exact ⟨rfl, HB.out.trans (hb3.mono HB.out.size)⟩
end Go.Proofs.YthfapneifbjlmaaDoor
end
