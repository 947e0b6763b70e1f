/- Layer 3: the rows of places; Subsets' closure. -/
import Derived.Test.YthfapneifbjlmaaDoorE
namespace Go.Proofs.YthfapneifbjlmaaDoor
open Go.RowKit Go.Shelf
attribute [local go_sem] Oper.semAt_some
set_option linter.unusedVariables false
set_option linter.unusedSimpArgs false

/-- yield's word, as the iterator's contract hands it over. -/
def YieldWord (J Jx : List (Nat × List Int) → World → (Nat → Prop) → Prop) (nY yl : Nat) : Prop :=
  ∀ pre (x : Nat × List Int) W1 D1, J pre W1 D1 → (∀ k, D1 k → k < W1.heap.size) → W1.heap[x.1]? = some (.cells (i64s x.2).toArray 3 (0, 0)) → (∀ k, k = x.1 → ¬ D1 k) →
      YieldAt Fence.wide nY Tryd.prog yl #[.slice (some ⟨x.1, 0, none⟩) x.2.length x.2.length] W1 fun e W' => ∃ D', Round D1 (fun k => k = x.1) W1 W' D' ∧ ((e = .returned (.bool true) ∧ J (pre ++ [x]) W' D') ∨ (e = .returned (.bool false) ∧ Jx (pre ++ [x]) W' D'))

/-- A row of places all of which are chosen: it is handed to the function that makes the items' row. -/
theorem rows_zero {J Jx : List (Nat × List Int) → World → (Nat → Prop) → Prop} {nY yl : Nat} (hJ : Foot J) (hY : YieldWord J Jx nY yl) (kb Bl lb yb cap cb : Nat) (xs : List Int) (C : List Nat) (pre : List (Nat × List Int)) (W : World) (D : Nat → Prop)
    (hC : ∀ p, p ∈ C → p < xs.length) (hK : C.length ≤ 10) (hxl : xs.length ≤ 10) (hi : RowsInv J kb Bl lb yb cap yl C.length cb xs C pre W D) :
    Calls Tryd.prog 31 #[.slice (some ⟨cb, 0, none⟩) C.length C.length, .pointer (some ⟨kb, 0, none⟩), .pointer (some ⟨Bl, 0, none⟩), .pointer (some ⟨yb, 0, none⟩)] W (RowsPost J Jx kb Bl lb yb cap yl C.length cb xs C pre [[]] W D) := by
  have hcells : ∀ j, j < C.length → W.cell? ⟨cb, j, none⟩ = some (.int .i64 (C.getD j 0 : Nat)) := fun j hj => by
    have := (irow_cells (ws := C.map fun x : Nat => (x : Int)) hi.row (by simp)).2.2 j (by simpa using hj)
    rw [this]; simp [nd, List.getElem?_eq_getElem hj]
  refine cb_any W kb Bl lb yb cap yl cb C.length nY xs C hi.env hcells hC hK hxl _ ?_ ?_
  · rintro e w' ⟨ys, D', _, _, ⟨rfl, _⟩ | ⟨rfl, _⟩⟩
    · exact ⟨_, rfl⟩
    · exact ⟨_, rfl⟩
  · intro W2 hb hrow
    have hf2 : Fr (fun _ => False) W W2 := .of_below hb
    have hn : ∀ k, D k → k ≠ W.heap.size := fun k hk => by have := hi.own k hk; omega
    obtain ⟨fn, tmps, assign, body, hy, hR⟩ := hY pre (W.heap.size, pick xs C) W2 D (hJ _ _ _ _ hi.j (fun k hk => hb.block k (hi.own k hk))) (fun k hk => Nat.lt_of_lt_of_le (hi.own k hk) hb.size) hrow (fun k hk h => hn k h hk)
    refine ⟨fn, tmps, assign, body, hy, hR.mono ?_⟩
    rintro e W3 ⟨D', hRd, hj⟩
    have hlt : W.heap.size < W2.heap.size := (Array.getElem?_eq_some_iff.1 hrow).1
    have hown : ∀ k, D' k → (D k ∨ W.heap.size ≤ k) ∧ k < W3.heap.size := fun k hk => by
      obtain ⟨h1, h2⟩ := hRd.own k hk
      refine ⟨?_, h2⟩
      rcases h1 with h1 | h1 | h1
      · exact .inl h1
      · exact .inr (by omega)
      · exact .inr (by have := hb.size; omega)
    have hcb := (hi.lts).2.2.2.2
    have hfr : Fr (fun k => D k ∨ k = W.heap.size) W W3 := (Fr.of_below hb).trans hRd.fr
    refine ⟨[(W.heap.size, pick xs C)], D', (Fr.of_below hb).then_ hRd.fr (fun k hk h => h.elim .inl (fun h => by omega)), hown, ?_⟩
    rcases hj with ⟨rfl, hj⟩ | ⟨rfl, hj⟩
    · refine .inl ⟨rfl, by simp, hi.step hfr (fun k hk h => h.elim .inl (fun h => by omega)) hown hj (own_apart hi.row hfr (fun h => h.elim hi.away.2.2.2.2 (fun h => by omega)))⟩
    · exact .inr ⟨rfl, by simp, hj⟩

theorem fr_append {wr w1 : World} {o : Obj} {cb : Nat} (hg : (wr.alloc o).grownBy w1 (some cb)) : Fr (fun k => k = cb) wr w1 :=
  (Fr.alloc _ wr o).trans ((Fr.of_grownBy hg).mono (fun k _ h => by injection h))
theorem chosen_more {J : List (Nat × List Int) → World → (Nat → Prop) → Prop} {kb Bl lb yb cap yl K cb : Nat} {xs : List Int} {C : List Nat} {pre : List (Nat × List Int)} {wr w1 : World} {D1 : Nat → Prop} {o : Obj} (hJ : Foot J)
    (h : RowsInv J kb Bl lb yb cap yl K cb xs C pre wr D1) (i : Nat) (ho : w1.ownsRow 0 3 1 (.slice (some ⟨cb, 0, none⟩) (C.length + 1) K) (C.length + 1) (i64s (C.map fun x : Nat => (x : Int)) ++ [.int .i64 i])) (hg : (wr.alloc o).grownBy w1 (some cb)) :
    RowsInv J kb Bl lb yb cap yl K cb xs (C ++ [i]) pre w1 D1 := by
  have hf := fr_append hg
  refine h.step hf (fun k _ hk => .inr hk) (fun k hk => ⟨.inl hk, Nat.lt_of_lt_of_le (h.own k hk) hf.size⟩) (hJ _ _ _ _ h.j (fun k hk => hf.block k (h.own k hk) (fun e => h.away.2.2.2.2 (e ▸ hk)))) ?_
  simpa [i64s] using ho
theorem own_later {D D1 D2 : Nat → Prop} {W wr w1 W3 : World} (h1 : ∀ k, D1 k → (D k ∨ W.heap.size ≤ k) ∧ k < wr.heap.size) (hs : wr.heap.size ≤ w1.heap.size) (hs0 : W.heap.size ≤ wr.heap.size) (h2 : ∀ k, D2 k → (D1 k ∨ w1.heap.size ≤ k) ∧ k < W3.heap.size) :
    ∀ k, D2 k → (D k ∨ W.heap.size ≤ k) ∧ k < W3.heap.size := fun k hk => by
  obtain ⟨a, b⟩ := h2 k hk
  exact ⟨a.elim (fun h => (h1 k h).1) (fun h => .inr (by omega)), b⟩
theorem RowsInv.less {J : List (Nat × List Int) → World → (Nat → Prop) → Prop} {kb Bl lb yb cap yl K cb : Nat} {xs : List Int} {C : List Nat} {i : Nat} {pre pre' : List (Nat × List Int)} {W : World} {D : Nat → Prop}
    (h : RowsInv J kb Bl lb yb cap yl K cb xs (C ++ [i]) pre W D) (e : pre = pre') : RowsInv J kb Bl lb yb cap yl K cb xs C pre' W D := by
  subst e
  refine ⟨h.j, h.own, h.env, h.away, h.apart, ?_⟩
  have := h.row
  simp only [List.length_append, List.length_cons, List.length_nil, List.map_append, List.map_cons, List.map_nil, i64s] at this
  exact own_take this (by simp [i64s])
theorem rowsL_pre (n k f i : Nat) (hfi : f ≤ i) (hi : i + (k + 1) ≤ n) : (List.range' f (i + 1 - f)).flatMap (fun i => (rowsL n k (i + 1)).map (i :: ·)) <+: rowsL n (k + 1) f := by
  rw [rowsL, show n - k - f = (i + 1 - f) + (n - k - (i + 1)) from by omega, ← List.range'_append_1, List.flatMap_append]
  exact List.prefix_append _ _
theorem RowsPost.ret {J Jx : List (Nat × List Int) → World → (Nat → Prop) → Prop} {kb Bl lb yb cap yl K cb : Nat} {xs : List Int} {C : List Nat} {pre : List (Nat × List Int)} {L : List (List Nat)} {W W' : World} {D : Nat → Prop} {e : Ending} (h : RowsPost J Jx kb Bl lb yb cap yl K cb xs C pre L W D e W') :
    ∃ b : Bool, e = .returned (.bool b) := by
  obtain ⟨ys, D', _, _, ⟨rfl, _⟩ | ⟨rfl, _⟩⟩ := h
  · exact ⟨_, rfl⟩
  · exact ⟨_, rfl⟩

set_option maxHeartbeats 1000000 in
/-- bits.rows. -/
theorem rows_any {J Jx : List (Nat × List Int) → World → (Nat → Prop) → Prop} {nY yl : Nat} (hJ : Foot J) (hY : YieldWord J Jx nY yl) (kb Bl lb yb cap cb K : Nat) (xs : List Int) (hK : K ≤ 10) (hxl : xs.length ≤ 10) :
    ∀ (k f : Nat) (C : List Nat) (pre : List (Nat × List Int)) (W : World) (D : Nat → Prop), C.length + k = K → f ≤ 20 → (∀ p, p ∈ C → p < xs.length) → RowsInv J kb Bl lb yb cap yl K cb xs C pre W D →
    Calls Tryd.prog 30 #[.int .i64 xs.length, .int .i64 f, .int .i64 k, .slice (some ⟨cb, 0, none⟩) C.length K, .func (.func 31) #[] #[.pointer (some ⟨kb, 0, none⟩), .pointer (some ⟨Bl, 0, none⟩), .pointer (some ⟨yb, 0, none⟩)]] W (RowsPost J Jx kb Bl lb yb cap yl K cb xs C pre (rowsL xs.length k f) W D)
  | 0, f, C, pre, W, D, hCk, hf, hC, hi => by
    obtain rfl : C.length = K := by omega
    have h0 := Lib.hid (rows_zero hJ hY kb Bl lb yb cap cb xs C pre W D hC hK hxl hi)
    clear hi hC hY hJ
    go_enter Tryd.func30, Tryd.ntmps30
    go_wp2_with (go_at_call 31; refine h0.out.mono ?_; rintro e w' hp; obtain ⟨b, rfl⟩ := hp.ret; have hp := Lib.hid hp)
    go_ret
    exact hp.out
  | k + 1, f, C, pre, W, D, hCk, hf, hC, hi => by
    have ih := Lib.hid (fun (i' : Nat) (pre : List (Nat × List Int)) (W1 : World) (D1 : Nat → Prop) (h20 : i' + 1 ≤ 20) (hix : i' < xs.length) (hinv : RowsInv J kb Bl lb yb cap yl K cb xs (C ++ [i']) pre W1 D1) => by
      have h := rows_any hJ hY kb Bl lb yb cap cb K xs hK hxl k (i' + 1) (C ++ [i']) pre W1 D1 (by simp; omega) h20 (fun p hp => by
        rcases List.mem_append.1 hp with hp | hp
        · exact hC p hp
        · simp at hp; omega) hinv
      rw [show ((i' + 1 : Nat) : Int) = (i' : Int) + 1 from by omega, show ((k : Nat) : Int) = ((k + 1 : Nat) : Int) - 1 from by omega, show (C ++ [i']).length = C.length + 1 from by simp] at h
      exact h)
    obtain ⟨i0, hi0, hz0, hz1, hz2⟩ := info_parts info3
    have hI := Lib.hid hi
    have hCC := Lib.hid hC
    have hkne : (((k + 1 : Nat) : Int) == 0) = false := by rw [beq_eq_false_iff_ne]; omega
    have hk10 : ((k + 1 : Nat) : Int) ≤ 10 := by omega
    have hk0 : 1 ≤ ((k + 1 : Nat) : Int) := by omega
    have hCK := Lib.hid hCk
    have hCl : C.length + 1 ≤ K := by omega
    obtain ⟨kk, hkk⟩ : ∃ kk : Nat, kk = k + 1 := ⟨_, rfl⟩
    rw [← hkk] at hkne hk10 hk0 ih
    have HKK := Lib.hid hkk
    rw [← hkk]
    have HJ := Lib.hid hJ
    clear hi hC hY hJ hCk hkk
    go_enter Tryd.func30, Tryd.ntmps30
    go_wp2
    go_loopw [11] (fun i wr => ∃ (i' : Nat) (ys : List (Nat × List Int)) (D1 : Nat → Prop), i = .int .i64 i' ∧ f ≤ i' ∧ i' ≤ 20 ∧ (i' = f ∨ i' + k ≤ xs.length) ∧ ys.map (·.2) = ((List.range' f (i' - f)).flatMap (fun i => (rowsL xs.length k (i + 1)).map (i :: ·))).map (fun r => pick xs (C ++ r)) ∧
        Fr (fun k => D k ∨ k = cb) W wr ∧ (∀ k, D1 k → (D k ∨ W.heap.size ≤ k) ∧ k < wr.heap.size) ∧ RowsInv J kb Bl lb yb cap yl K cb xs C (pre ++ ys) wr D1) (fun i _ => 20 - (intOf i).toNat)
    case atStart => exact ⟨f, [], D, rfl, Nat.le_refl _, hf, .inl rfl, by simp, Fr.refl _ _, fun k hk => ⟨.inl hk, hI.out.own k hk⟩, by simpa using hI.out⟩
    case round =>
      obtain ⟨i', ys, D1, rfl, hfi, hi20, hor, hys, hfr, hD1, hinv⟩ := hrel
      by_cases hlt : (i' : Int) + (kk : Int) ≤ (xs.length : Int)
      · have hrow := hinv.row
        have hix : i' < xs.length := by omega
        have hi19 : i' + 1 ≤ 20 := by omega
        have HIN := Lib.hid hinv
        have HYS := Lib.hid hys
        clear hinv hys
        go_wp2_with (first | (at_builtin; refine wpList_append_fits _ rfl _ _ 22 rfl 0 3 i0 1 Tryd.underlying22 hi0 hz1 cb C.length K (i64s (C.map fun x : Nat => (x : Int))) rfl (hrow.alloc _) ⟨wr.heap.size, 0, none⟩ 1 1 [.int .i64 i'] rfl rfl (cell_one_new _ _ _) (fun x hx => by simp at hx; subst hx; rfl) hCl ?_; intro w1 hown1 hgr1; have hinv1 := Lib.hid (chosen_more HJ.out HIN.out i' hown1 hgr1); have hf1 := Lib.hid (fr_append (cb := cb) hgr1)))
        refine (ih.out i' _ w1 D1 hi19 hix hinv1.out).mono ?_
        rintro e W3 ⟨ys2, D2, hfr2, hD2, (⟨rfl, hys2, hinv2⟩ | ⟨rfl, hys2, hj2⟩)⟩
        · go_wp2
          go_roundw
          case rel =>
            have hkk := HKK.out
            refine ⟨i' + 1, ys ++ ys2, D2, by simp, by omega, by omega, .inr (by omega), ?_, ?_, ?_, ?_⟩
            · rw [rowsL_succ xs.length k f i' hfi (by omega), List.map_append, List.map_append, HYS.out, hys2, List.map_map]
              congr 1
              exact List.map_congr_left fun r _ => by simp
            · exact (hfr.then_ hf1.out (fun k _ h => .inr h)).then_ hfr2 (fun k hk h => h.elim (fun h => (hD1 k h).1.elim .inl (fun h2 => by omega)) .inr)
            · exact own_later hD1 hf1.out.size hfr.size hD2
            · exact hinv2.less (List.append_assoc pre ys ys2)
          case measure => simp [intOf]; omega
        · go_wp2
          go_ret
          have hkk := HKK.out
          refine ⟨ys ++ ys2, D2, (hfr.then_ hf1.out (fun k _ h => .inr h)).then_ hfr2 (fun k hk h => h.elim (fun h => (hD1 k h).1.elim .inl (fun h2 => by omega)) .inr), own_later hD1 hf1.out.size hfr.size hD2, .inr ⟨rfl, ?_, ?_⟩⟩
          · rw [hkk]
            refine List.IsPrefix.trans ?_ (List.IsPrefix.map _ (rowsL_pre xs.length k f i' hfi (by omega)))
            rw [rowsL_succ xs.length k f i' hfi (by omega), List.map_append, List.map_append, HYS.out, List.map_map]
            refine (List.prefix_append_right_inj _).2 ?_
            rwa [show ((fun r => pick xs (C ++ r)) ∘ fun x => i' :: x) = (fun r => pick xs ((C ++ [i']) ++ r)) from by funext r; simp]
          · rw [← List.append_assoc]; exact hj2
      · go_wp2
        go_ret
        have hkk := HKK.out
        refine ⟨ys, D1, hfr, hD1, .inl ⟨rfl, ?_, hinv⟩⟩
        rw [hys, hkk, rowsL, show i' - f = xs.length - k - f from by omega]
end Go.Proofs.YthfapneifbjlmaaDoor
