/- Layer 3: Subsets' iterator once more, with the length of the rows it hands over. -/
import Derived.Test.YthfapneifbjlmaaDoorG
namespace Go.Proofs.YthfapneifbjlmaaDoor.Bd
open Go.RowKit Go.Shelf Go.Proofs.YthfapneifbjlmaaDoor
attribute [local go_sem] Oper.semAt_some
set_option linter.unusedVariables false
set_option linter.unusedSimpArgs false

def YieldWord (J Jx : List (Nat × List Int) → World → (Nat → Prop) → Prop) (nY yl : Nat) : Prop :=
  ∀ pre (x : Nat × List Int) W1 D1, J pre W1 D1 → (∀ k, D1 k → k < W1.heap.size) → W1.heap[x.1]? = some (.cells (i64s x.2).toArray 3 (0, 0)) ∧ x.2.length ≤ 10 → (∀ k, k = x.1 → ¬ D1 k) →
      YieldAt Fence.wide nY Tryd.prog yl #[.slice (some ⟨x.1, 0, none⟩) x.2.length x.2.length] W1 fun e W' => ∃ D', Round D1 (fun k => k = x.1) W1 W' D' ∧ ((e = .returned (.bool true) ∧ J (pre ++ [x]) W' D') ∨ (e = .returned (.bool false) ∧ Jx (pre ++ [x]) W' D'))

/-- A row of places all of which are chosen: it is handed to the function that makes the items' row. -/
theorem rows_zero {J Jx : List (Nat × List Int) → World → (Nat → Prop) → Prop} {nY yl : Nat} (hJ : Foot J) (hY : YieldWord J Jx nY yl) (kb Bl lb yb cap cb : Nat) (xs : List Int) (C : List Nat) (pre : List (Nat × List Int)) (W : World) (D : Nat → Prop)
    (hC : ∀ p, p ∈ C → p < xs.length) (hK : C.length ≤ 10) (hxl : xs.length ≤ 10) (hi : RowsInv J kb Bl lb yb cap yl C.length cb xs C pre W D) :
    Calls Tryd.prog 31 #[.slice (some ⟨cb, 0, none⟩) C.length C.length, .pointer (some ⟨kb, 0, none⟩), .pointer (some ⟨Bl, 0, none⟩), .pointer (some ⟨yb, 0, none⟩)] W (RowsPost J Jx kb Bl lb yb cap yl C.length cb xs C pre [[]] W D) := by
  have hcells : ∀ j, j < C.length → W.cell? ⟨cb, j, none⟩ = some (.int .i64 (C.getD j 0 : Nat)) := fun j hj => by
    have := (irow_cells (ws := C.map fun x : Nat => (x : Int)) hi.row (by simp)).2.2 j (by simpa using hj)
    rw [this]; simp [nd, List.getElem?_eq_getElem hj]
  refine cb_any W kb Bl lb yb cap yl cb C.length nY xs C hi.env hcells hC hK hxl _ ?_ ?_
  · rintro e w' ⟨ys, D', _, _, ⟨rfl, _⟩ | ⟨rfl, _⟩⟩
    · exact ⟨_, rfl⟩
    · exact ⟨_, rfl⟩
  · intro W2 hb hrow
    have hf2 : Fr (fun _ => False) W W2 := .of_below hb
    have hn : ∀ k, D k → k ≠ W.heap.size := fun k hk => by have := hi.own k hk; omega
    obtain ⟨fn, tmps, assign, body, hy, hR⟩ := hY pre (W.heap.size, pick xs C) W2 D (hJ _ _ _ _ hi.j (fun k hk => hb.block k (hi.own k hk))) (fun k hk => Nat.lt_of_lt_of_le (hi.own k hk) hb.size) ⟨hrow, by simpa [pick] using hK⟩ (fun k hk h => hn k h hk)
    refine ⟨fn, tmps, assign, body, hy, hR.mono ?_⟩
    rintro e W3 ⟨D', hRd, hj⟩
    have hlt : W.heap.size < W2.heap.size := (Array.getElem?_eq_some_iff.1 hrow).1
    have hown : ∀ k, D' k → (D k ∨ W.heap.size ≤ k) ∧ k < W3.heap.size := fun k hk => by
      obtain ⟨h1, h2⟩ := hRd.own k hk
      refine ⟨?_, h2⟩
      rcases h1 with h1 | h1 | h1
      · exact .inl h1
      · exact .inr (by omega)
      · exact .inr (by have := hb.size; omega)
    have hcb := (hi.lts).2.2.2.2
    have hfr : Fr (fun k => D k ∨ k = W.heap.size) W W3 := (Fr.of_below hb).trans hRd.fr
    refine ⟨[(W.heap.size, pick xs C)], D', (Fr.of_below hb).then_ hRd.fr (fun k hk h => h.elim .inl (fun h => by omega)), hown, ?_⟩
    rcases hj with ⟨rfl, hj⟩ | ⟨rfl, hj⟩
    · refine .inl ⟨rfl, by simp, hi.step hfr (fun k hk h => h.elim .inl (fun h => by omega)) hown hj (own_apart hi.row hfr (fun h => h.elim hi.away.2.2.2.2 (fun h => by omega)))⟩
    · exact .inr ⟨rfl, by simp, hj⟩

set_option maxHeartbeats 1000000 in
/-- bits.rows. -/
theorem rows_any {J Jx : List (Nat × List Int) → World → (Nat → Prop) → Prop} {nY yl : Nat} (hJ : Foot J) (hY : YieldWord J Jx nY yl) (kb Bl lb yb cap cb K : Nat) (xs : List Int) (hK : K ≤ 10) (hxl : xs.length ≤ 10) :
    ∀ (k f : Nat) (C : List Nat) (pre : List (Nat × List Int)) (W : World) (D : Nat → Prop), C.length + k = K → f ≤ 20 → (∀ p, p ∈ C → p < xs.length) → RowsInv J kb Bl lb yb cap yl K cb xs C pre W D →
    Calls Tryd.prog 30 #[.int .i64 xs.length, .int .i64 f, .int .i64 k, .slice (some ⟨cb, 0, none⟩) C.length K, .func (.func 31) #[] #[.pointer (some ⟨kb, 0, none⟩), .pointer (some ⟨Bl, 0, none⟩), .pointer (some ⟨yb, 0, none⟩)]] W (RowsPost J Jx kb Bl lb yb cap yl K cb xs C pre (rowsL xs.length k f) W D)
  | 0, f, C, pre, W, D, hCk, hf, hC, hi => by
    obtain rfl : C.length = K := by omega
    have h0 := Lib.hid (rows_zero hJ hY kb Bl lb yb cap cb xs C pre W D hC hK hxl hi)
    clear hi hC hY hJ
    go_enter Tryd.func30, Tryd.ntmps30
    go_wp2_with (go_at_call 31; refine h0.out.mono ?_; rintro e w' hp; obtain ⟨b, rfl⟩ := hp.ret; have hp := Lib.hid hp)
    go_ret
    exact hp.out
  | k + 1, f, C, pre, W, D, hCk, hf, hC, hi => by
    have ih := Lib.hid (fun (i' : Nat) (pre : List (Nat × List Int)) (W1 : World) (D1 : Nat → Prop) (h20 : i' + 1 ≤ 20) (hix : i' < xs.length) (hinv : RowsInv J kb Bl lb yb cap yl K cb xs (C ++ [i']) pre W1 D1) => by
      have h := rows_any hJ hY kb Bl lb yb cap cb K xs hK hxl k (i' + 1) (C ++ [i']) pre W1 D1 (by simp; omega) h20 (fun p hp => by
        rcases List.mem_append.1 hp with hp | hp
        · exact hC p hp
        · simp at hp; omega) hinv
      rw [show ((i' + 1 : Nat) : Int) = (i' : Int) + 1 from by omega, show ((k : Nat) : Int) = ((k + 1 : Nat) : Int) - 1 from by omega, show (C ++ [i']).length = C.length + 1 from by simp] at h
      exact h)
    obtain ⟨i0, hi0, hz0, hz1, hz2⟩ := info_parts info3
    have hI := Lib.hid hi
    have hCC := Lib.hid hC
    have hkne : (((k + 1 : Nat) : Int) == 0) = false := by rw [beq_eq_false_iff_ne]; omega
    have hk10 : ((k + 1 : Nat) : Int) ≤ 10 := by omega
    have hk0 : 1 ≤ ((k + 1 : Nat) : Int) := by omega
    have hCK := Lib.hid hCk
    have hCl : C.length + 1 ≤ K := by omega
    obtain ⟨kk, hkk⟩ : ∃ kk : Nat, kk = k + 1 := ⟨_, rfl⟩
    rw [← hkk] at hkne hk10 hk0 ih
    have HKK := Lib.hid hkk
    rw [← hkk]
    have HJ := Lib.hid hJ
    clear hi hC hY hJ hCk hkk
    go_enter Tryd.func30, Tryd.ntmps30
    go_wp2
    go_loopw [11] (fun i wr => ∃ (i' : Nat) (ys : List (Nat × List Int)) (D1 : Nat → Prop), i = .int .i64 i' ∧ f ≤ i' ∧ i' ≤ 20 ∧ (i' = f ∨ i' + k ≤ xs.length) ∧ ys.map (·.2) = ((List.range' f (i' - f)).flatMap (fun i => (rowsL xs.length k (i + 1)).map (i :: ·))).map (fun r => pick xs (C ++ r)) ∧
        Fr (fun k => D k ∨ k = cb) W wr ∧ (∀ k, D1 k → (D k ∨ W.heap.size ≤ k) ∧ k < wr.heap.size) ∧ RowsInv J kb Bl lb yb cap yl K cb xs C (pre ++ ys) wr D1) (fun i _ => 20 - (intOf i).toNat)
    case atStart => exact ⟨f, [], D, rfl, Nat.le_refl _, hf, .inl rfl, by simp, Fr.refl _ _, fun k hk => ⟨.inl hk, hI.out.own k hk⟩, by simpa using hI.out⟩
    case round =>
      obtain ⟨i', ys, D1, rfl, hfi, hi20, hor, hys, hfr, hD1, hinv⟩ := hrel
      by_cases hlt : (i' : Int) + (kk : Int) ≤ (xs.length : Int)
      · have hrow := hinv.row
        have hix : i' < xs.length := by omega
        have hi19 : i' + 1 ≤ 20 := by omega
        have HIN := Lib.hid hinv
        have HYS := Lib.hid hys
        clear hinv hys
        go_wp2_with (first | (at_builtin; refine wpList_append_fits _ rfl _ _ 22 rfl 0 3 i0 1 Tryd.underlying22 hi0 hz1 cb C.length K (i64s (C.map fun x : Nat => (x : Int))) rfl (hrow.alloc _) ⟨wr.heap.size, 0, none⟩ 1 1 [.int .i64 i'] rfl rfl (cell_one_new _ _ _) (fun x hx => by simp at hx; subst hx; rfl) hCl ?_; intro w1 hown1 hgr1; have hinv1 := Lib.hid (chosen_more HJ.out HIN.out i' hown1 hgr1); have hf1 := Lib.hid (fr_append (cb := cb) hgr1)))
        refine (ih.out i' _ w1 D1 hi19 hix hinv1.out).mono ?_
        rintro e W3 ⟨ys2, D2, hfr2, hD2, (⟨rfl, hys2, hinv2⟩ | ⟨rfl, hys2, hj2⟩)⟩
        · go_wp2
          go_roundw
          case rel =>
            have hkk := HKK.out
            refine ⟨i' + 1, ys ++ ys2, D2, by simp, by omega, by omega, .inr (by omega), ?_, ?_, ?_, ?_⟩
            · rw [rowsL_succ xs.length k f i' hfi (by omega), List.map_append, List.map_append, HYS.out, hys2, List.map_map]
              congr 1
              exact List.map_congr_left fun r _ => by simp
            · exact (hfr.then_ hf1.out (fun k _ h => .inr h)).then_ hfr2 (fun k hk h => h.elim (fun h => (hD1 k h).1.elim .inl (fun h2 => by omega)) .inr)
            · exact own_later hD1 hf1.out.size hfr.size hD2
            · exact hinv2.less (List.append_assoc pre ys ys2)
          case measure => simp [intOf]; omega
        · go_wp2
          go_ret
          have hkk := HKK.out
          refine ⟨ys ++ ys2, D2, (hfr.then_ hf1.out (fun k _ h => .inr h)).then_ hfr2 (fun k hk h => h.elim (fun h => (hD1 k h).1.elim .inl (fun h2 => by omega)) .inr), own_later hD1 hf1.out.size hfr.size hD2, .inr ⟨rfl, ?_, ?_⟩⟩
          · rw [hkk]
            refine List.IsPrefix.trans ?_ (List.IsPrefix.map _ (rowsL_pre xs.length k f i' hfi (by omega)))
            rw [rowsL_succ xs.length k f i' hfi (by omega), List.map_append, List.map_append, HYS.out, List.map_map]
            refine (List.prefix_append_right_inj _).2 ?_
            rwa [show ((fun r => pick xs (C ++ r)) ∘ fun x => i' :: x) = (fun r => pick xs ((C ++ [i']) ++ r)) from by funext r; simp]
          · rw [← List.append_assoc]; exact hj2
      · go_wp2
        go_ret
        have hkk := HKK.out
        refine ⟨ys, D1, hfr, hD1, .inl ⟨rfl, ?_, hinv⟩⟩
        rw [hys, hkk, rowsL, show i' - f = xs.length - k - f from by omega]
set_option maxHeartbeats 1000000 in
theorem subs_small (Bl lb cap yl nY : Nat) (xs : List Int) (hxl : xs.length ≤ 10) {J Jx : List (Nat × List Int) → World → (Nat → Prop) → Prop} (hJ : Foot J) (hY : YieldWord J Jx nY yl) (W : World) (D : Nat → Prop) (hB : LBox W Bl lb cap xs) (hlb : lb < W.heap.size) (hDB : ¬ D Bl) (hDl : ¬ D lb)
    (hD : ∀ k, D k → k < W.heap.size) (h0 : J [] W D) :
    Calls Tryd.prog 29 #[.func (.yield yl) #[] #[], .pointer (some ⟨Bl, 0, none⟩)] W fun e W' => (∃ v, e = .returned v) ∧ ∃ D', Fr D W W' ∧ (∀ k, D' k → (D k ∨ W.heap.size ≤ k) ∧ k < W'.heap.size) ∧
      ((∃ ys, ys.map (·.2) = (subsTo xs.length xs.length).map (pick xs) ∧ J ys W' D') ∨ (∃ ys, ys.map (·.2) <+: (subsTo xs.length xs.length).map (pick xs) ∧ Jx ys W' D')) := by
  have hbl : Bl < W.heap.size := World.block_lt_of_cell? W _ hB.box
  have hi0 : SubInv J W D Bl lb W.heap.size cap yl xs [] (W.alloc (.cells #[.func (.yield yl) #[] #[]] 67)) D :=
    ⟨hJ _ _ _ _ h0 (fun k hk => Below.heap_alloc _ _ _ (hD k hk)), fun k hk => ⟨.inl hk, by rw [World.size_alloc]; have := hD k hk; omega⟩, Fr.alloc _ _ _, ⟨cell_al _ hB.box, fun j hj => cell_al _ (hB.cells j hj)⟩, by rw [World.size_alloc]; omega,
      cell_of_row _ W.heap.size 0 _ 67 (0, 0) (heap_alloc_new W _), hDB, hDl, fun h => by have := hD _ h; omega⟩
  have hbox := hB.box
  have HI := Lib.hid hi0
  have hx10 : ¬ ((10 : Int) < (xs.length : Int)) := by omega
  clear hi0 hB
  go_enter Tryd.func29, Tryd.ntmps29
  go_wp2
  go_loopw [3] (fun v wr => ∃ (kb k : Nat) (ys : List (Nat × List Int)) (D1 : Nat → Prop), v = .pointer (some ⟨kb, 0, none⟩) ∧ wr.cell? ⟨kb, 0, none⟩ = some (.int .i64 k) ∧ wr.frozen? ⟨kb, 0, none⟩ = false ∧ 1 ≤ k ∧ k ≤ xs.length + 1 ∧ W.heap.size < kb ∧ ¬ D1 kb ∧
      ys.map (·.2) = (subsTo xs.length (k - 1)).map (pick xs) ∧ SubInv J W D Bl lb W.heap.size cap yl xs ys wr D1) (fun v wr => xs.length + 1 - boxN wr v)
  case atStart =>
    have hI := HI.out
    refine ⟨W.heap.size + 1, 1, [], D, rfl, ?_, ?_, Nat.le_refl _, by omega, by omega, fun h => by have := hD _ h; omega, by simp [subsTo], ?_⟩
    · exact cell_of_row _ _ 0 _ 3 (0, 0) (by have := heap_alloc_new (W.alloc (.cells #[.func (.yield yl) #[] #[]] 67)) (.cells #[.int .i64 1] 3); rwa [World.size_alloc] at this)
    · exact heap_free (t := 3) (by have := heap_alloc_new (W.alloc (.cells #[.func (.yield yl) #[] #[]] 67)) (.cells #[.int .i64 1] 3); rwa [World.size_alloc] at this) 0
    · exact ⟨hJ _ _ _ _ hI.j (fun i hi => Below.heap_alloc _ _ _ (hI.own i hi).2), fun i hi => ⟨(hI.own i hi).1, by rw [World.size_alloc]; have := (hI.own i hi).2; omega⟩, hI.fr.trans (Fr.alloc _ _ _), ⟨cell_al _ hI.box.box, fun j hj => cell_al _ (hI.box.cells j hj)⟩, by rw [World.size_alloc]; have := hI.lt; omega,
        cell_al _ hI.y, hI.away⟩
  case round =>
    obtain ⟨kb, k, ys, D1, rfl, hkc, hkf, hk1, hkn, hkb, hkD, hys, hi⟩ := hrel
    have hbx := hi.box.box
    by_cases hlt : (k : Int) ≤ (xs.length : Int)
    · have HIN := Lib.hid hi
      have HYS := Lib.hid hys
      have hk10 : k ≤ 10 := by omega
      obtain ⟨i0, hi0, hz0, hz1, hz2⟩ := info_parts info3
      have hmk := fun wx => run_make (P := Tryd.prog) wx 22 3 i0 (.int .i64 0) Tryd.underlying22 hi0 hz0 .i64 .i64 0 (k : Int) (by omega) (by omega) (by rw [hz2]; omega) (by omega)
      simp only [hz1, Int.toNat_natCast, Int.toNat_zero, made_ints] at hmk
      have hr := Lib.hid (fun (w2 : World) (h2 : RowsInv J kb Bl lb W.heap.size cap yl k wr.heap.size xs [] ys w2 D1) => rows_any hJ hY kb Bl lb W.heap.size cap wr.heap.size k xs hk10 hxl k 0 [] ys w2 D1 (by simp) (by omega) (by simp) h2)
      have hRI := Lib.hid ((HIN.out.drew hJ).rows hJ hkc hkD hk10)
      have hkeep := Lib.hid (fun (e : Ending) (W3 : World) (hp : RowsPost J Jx kb Bl lb W.heap.size cap yl k wr.heap.size xs [] ys (rowsL xs.length k 0) (wr.drew.alloc (.cells (i64s (List.replicate k 0)).toArray 3)) D1 e W3) => subs_keep HIN.out hkc hkD hp)
      clear hi hys hz0 hz1 hz2 hi0
      go_wp2
      go_region_held3 (fun w' => w'.cell? ⟨Bl, 0, none⟩ = some (.slice (some ⟨lb, 0, none⟩) xs.length cap) ∧ w'.cell? ⟨kb, 0, none⟩ = some (.int .i64 k))
        (first | exact ⟨hbx, hkc⟩ | exact ⟨cell_al _ hbx, cell_al _ hkc⟩ | exact hkeep.out _ _ hp.out)
        ((go_at_call 30; refine (hr.out _ hRI.out).mono ?_; rintro e W3 hp; obtain ⟨b, rfl⟩ := hp.ret; have hp := Lib.hid hp))
      all_goals
        have hkp := hkeep.out _ _ hp.out
        obtain ⟨hb3, hk3⟩ := hkp
        obtain ⟨ys2, D2, hf2, hD2, (⟨hbt, hys2, hr2⟩ | ⟨hbt, hys2, hj2⟩)⟩ := hp.out
        · cases hbt
          go_wp2
          go_roundw
          case rel =>
            refine ⟨W3.heap.size, k + 1, ys ++ ys2, D2, rfl, ?_, ?_, by omega, by omega, ?_, ?_, ?_, ?_⟩
            · exact cell_of_row _ W3.heap.size 0 _ 3 (0, 0) (heap_alloc_new W3 _)
            · exact heap_free (heap_alloc_new W3 _) 0
            · have := hf2.size; have := World.block_lt_of_cell? wr _ hkc; simp at *; omega
            · intro h; have := (hD2 _ h).2; omega
            · rw [List.map_append, HYS.out, hys2, Nat.add_sub_cancel, show subsTo xs.length k = subsTo xs.length (k - 1) ++ rowsL xs.length k 0 from by
                have := subsTo_succ xs.length (k - 1); rwa [show k - 1 + 1 = k from by omega] at this, List.map_append]
              simp
            · exact HIN.out.next (hJ) hkc hkD hf2 hD2 hr2
          case measure => 
            rw [boxN_eq hkc, boxN_eq (cell_of_row _ W3.heap.size 0 _ 3 (0, 0) (heap_alloc_new W3 _) |>.trans rfl)]
            omega
        · cases hbt
          go_wp2
          refine bodyPost_ret (results_none rfl _ _ _) rfl ?_
          obtain ⟨h1, h2⟩ := HIN.out.ends hf2 hD2
          refine ⟨⟨_, rfl⟩, D2, h1, h2, .inr ⟨ys ++ ys2, ?_, hj2⟩⟩
          have hsub := subsTo_succ xs.length (k - 1)
          rw [show k - 1 + 1 = k from by omega] at hsub
          refine List.IsPrefix.trans ?_ (List.IsPrefix.map _ (subsTo_pre xs.length k xs.length (by omega)))
          rw [List.map_append, HYS.out, hsub, List.map_append]
          exact (List.prefix_append_right_inj _).2 (by simpa using hys2)
    · go_wp2
      go_end0
      obtain rfl : k = xs.length + 1 := by omega
      exact ⟨⟨_, rfl⟩, hi.fr, D1, hi.own, .inl ⟨ys, by simpa using hys, hi.j⟩⟩

theorem subs_seq (Bl lb cap : Nat) (xs : List Int) :
    SeqSep Tryd.prog 29 #[.pointer (some ⟨Bl, 0, none⟩)] (fun x : Nat × List Int => #[.slice (some ⟨x.1, 0, none⟩) x.2.length x.2.length]) (fun x k => k = x.1) (fun x W => W.heap[x.1]? = some (.cells (i64s x.2).toArray 3 (0, 0)) ∧ x.2.length ≤ 10)
      (fun ys => ys.map (·.2) = subsL xs) (fun ys => ys.map (·.2) <+: subsL xs) (fun W D => LBox W Bl lb cap xs ∧ lb < W.heap.size ∧ ¬ D Bl ∧ ¬ D lb) := by
  intro l n J Jx W D ⟨hB, hlb, hDB, hDl⟩ hD hJ hJx h0 hY
  refine callsIn_wide.2 ?_
  unfold subsL
  by_cases hxl : 10 < xs.length
  · refine (subs_large Bl lb cap l xs hxl W hB).mono ?_
    rintro e W' ⟨hv, hb⟩
    exact ⟨hv, D, .of_below hb, fun k hk => ⟨.inl hk, Nat.lt_of_lt_of_le (hD k hk) hb.size⟩, .inl ⟨[], by simp [hxl], hJ _ _ _ _ h0 (fun k hk => hb.block k (hD k hk))⟩⟩
  · rw [if_neg hxl]
    exact subs_small Bl lb cap l n xs (by omega) hJ hY W D hB hlb hDB hDl hD h0
set_option maxHeartbeats 400000 in
theorem Subsets_any (W : World) (ad : Addr) (xs : List Int) (c : Nat) (hc : ∀ j u, (i64s xs)[j]? = some u → W.cell? (ad.add j) = some u) (hl : xs.length ≤ 17592186044416) :
    Calls Tryd.prog 8 #[.slice (some ad) xs.length c] W fun e w' => ∃ Bl lb cap, e = .returned (.func (.func 29) #[] #[.pointer (some ⟨Bl, 0, none⟩)]) ∧ LBox w' Bl lb cap xs ∧ W.heap.size ≤ Bl ∧ W.heap.size ≤ lb ∧ lb < w'.heap.size ∧ Below W.heap.size W w' := by
  have hcl := Lib.hid (clone_ints W ad xs c hc hl)
  clear hc
  go_enter Tryd.func8, Tryd.ntmps8
  go_wp2_with (go_at_call 28; refine hcl.out.mono ?_; rintro e w1 ⟨h, cap, rfl, ho, hb⟩)
  go_ret
  obtain ⟨h1, h2, h3⟩ := irow_cells ho rfl
  refine ⟨w1.heap.size, h, cap, rfl, ⟨cell_of_row _ w1.heap.size 0 _ 22 (0, 0) (heap_alloc_new w1 _), fun j hj => cell_al _ (h3 j hj)⟩, hb.size, h1, (by rw [World.size_alloc]; omega), hb.alloc hb.size _⟩

end Go.Proofs.YthfapneifbjlmaaDoor.Bd
