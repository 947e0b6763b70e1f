/- Layer 3: Subsets' closure. -/
import Derived.Test.YthfapneifbjlmaaDoorF
namespace Go.Proofs.YthfapneifbjlmaaDoor
open Go.RowKit Go.Shelf
set_option linter.unusedVariables false
set_option linter.unusedSimpArgs false

/-- All rows of places: by length, then as rowsL. -/
def subsTo (n m : Nat) : List (List Nat) := (List.range' 1 m).flatMap fun k => rowsL n k 0
theorem subsTo_succ (n m : Nat) : subsTo n (m + 1) = subsTo n m ++ rowsL n (m + 1) 0 := by
  unfold subsTo
  rw [List.range'_concat, List.flatMap_append]
  simp only [Nat.one_mul, List.flatMap_cons, List.flatMap_nil, List.append_nil]
  rw [show 1 + m = m + 1 from by omega]
theorem subsTo_pre (n m m' : Nat) (h : m ≤ m') : subsTo n m <+: subsTo n m' := by
  unfold subsTo
  rw [show m' = m + (m' - m) from by omega, ← List.range'_append_1, List.flatMap_append]
  exact List.prefix_append _ _
/-- What Subsets gives. -/
def subsL (xs : List Int) : List (List Int) := if 10 < xs.length then [] else (subsTo xs.length xs.length).map (pick xs)

/-- What holds between two lengths. -/
structure SubInv (J : List (Nat × List Int) → World → (Nat → Prop) → Prop) (W : World) (D : Nat → Prop) (Bl lb yb cap yl : Nat) (xs : List Int) (pre : List (Nat × List Int)) (wr : World) (D1 : Nat → Prop) : Prop where
  j : J pre wr D1
  own : ∀ k, D1 k → (D k ∨ W.heap.size ≤ k) ∧ k < wr.heap.size
  fr : Fr D W wr
  box : LBox wr Bl lb cap xs
  lt : lb < wr.heap.size
  y : wr.cell? ⟨yb, 0, none⟩ = some (.func (.yield yl) #[] #[])
  away : ¬ D1 Bl ∧ ¬ D1 lb ∧ ¬ D1 yb

/-- The number in the variable that a slot points to. -/
def boxN (w : World) : Value → Nat
  | .pointer (some a) => match w.cell? a with
    | some (.int _ n) => n.toNat
    | _ => 0
  | _ => 0
theorem boxN_eq {w : World} {a : Addr} {q : IntKind} {n : Int} (h : w.cell? a = some (.int q n)) : boxN w (.pointer (some a)) = n.toNat := by simp [boxN, h]

theorem own_made3 (W : World) (n : Nat) (hn : n ≤ 1000) : (W.alloc (.cells (i64s (List.replicate n 0)).toArray 3)).ownsRow 0 3 1 (.slice (some ⟨W.heap.size, 0, none⟩) 0 n) 0 [] :=
  ⟨by simp, .inr ⟨W.heap.size, n, _, rfl, Nat.zero_le _, heap_alloc_new W _, Nat.zero_le _, by simp [maxLen]; omega, by simp [i64s], by simp⟩⟩

theorem SubInv.drew {J : List (Nat × List Int) → World → (Nat → Prop) → Prop} {W : World} {D : Nat → Prop} {Bl lb yb cap yl : Nat} {xs : List Int} {pre : List (Nat × List Int)} {wr : World} {D1 : Nat → Prop} (hJ : Foot J) (h : SubInv J W D Bl lb yb cap yl xs pre wr D1) :
    SubInv J W D Bl lb yb cap yl xs pre wr.drew D1 := ⟨hJ _ _ _ _ h.j (fun _ _ => rfl), h.own, ⟨h.fr.os, h.fr.tape, h.fr.output, h.fr.size, h.fr.block⟩, ⟨h.box.box, h.box.cells⟩, h.lt, h.y, h.away⟩
/-- The rows' invariant at the first place. -/
theorem SubInv.rows {J : List (Nat × List Int) → World → (Nat → Prop) → Prop} {W : World} {D : Nat → Prop} {Bl lb yb cap yl k kb : Nat} {xs : List Int} {pre : List (Nat × List Int)} {wr : World} {D1 : Nat → Prop} (hJ : Foot J) (h : SubInv J W D Bl lb yb cap yl xs pre wr D1)
    (hk : wr.cell? ⟨kb, 0, none⟩ = some (.int .i64 k)) (hkD : ¬ D1 kb) (hk10 : k ≤ 10) : RowsInv J kb Bl lb yb cap yl k wr.heap.size xs [] pre (wr.alloc (.cells (i64s (List.replicate k 0)).toArray 3)) D1 := by
  have h1 := World.block_lt_of_cell? wr _ hk
  have h2 := World.block_lt_of_cell? wr _ h.box.box
  have h3 := World.block_lt_of_cell? wr _ h.y
  simp only at h1 h2 h3
  refine ⟨hJ _ _ _ _ h.j (fun i hi => Below.heap_alloc _ _ _ (h.own i hi).2), fun i hi => by rw [World.size_alloc]; have := (h.own i hi).2; omega,
    ⟨cell_al _ hk, ⟨cell_al _ h.box.box, fun j hj => cell_al _ (h.box.cells j hj)⟩, cell_al _ h.y, by rw [World.size_alloc]; have := h.lt; omega⟩,
    ⟨hkD, h.away.1, h.away.2.1, h.away.2.2, fun hd => by have := (h.own _ hd).2; omega⟩, ⟨by omega, by omega, by have := h.lt; omega, by omega⟩, ?_⟩
  exact own_made3 wr k (by omega)

theorem subs_keep {J Jx : List (Nat × List Int) → World → (Nat → Prop) → Prop} {W : World} {D : Nat → Prop} {Bl lb yb cap yl k kb : Nat} {xs : List Int} {pre : List (Nat × List Int)} {L : List (List Nat)} {wr W3 : World} {o : Obj} {D1 : Nat → Prop} {e : Ending} (h : SubInv J W D Bl lb yb cap yl xs pre wr D1)
    (hk : wr.cell? ⟨kb, 0, none⟩ = some (.int .i64 k)) (hkD : ¬ D1 kb) (hp : RowsPost J Jx kb Bl lb yb cap yl k wr.heap.size xs [] pre L (wr.drew.alloc o) D1 e W3) :
    W3.cell? ⟨Bl, 0, none⟩ = some (.slice (some ⟨lb, 0, none⟩) xs.length cap) ∧ W3.cell? ⟨kb, 0, none⟩ = some (.int .i64 k) := by
  obtain ⟨ys, D', hf, _⟩ := hp
  have h1 := World.block_lt_of_cell? wr _ hk
  have h2 := World.block_lt_of_cell? wr _ h.box.box
  simp only at h1 h2
  exact ⟨hf.cell (cell_al o (show wr.drew.cell? _ = _ from h.box.box)) (fun hd => hd.elim h.away.1 (fun e => by simp at e; omega)), hf.cell (cell_al o (show wr.drew.cell? _ = _ from hk)) (fun hd => hd.elim hkD (fun e => by simp at e; omega))⟩

theorem SubInv.ends {J : List (Nat × List Int) → World → (Nat → Prop) → Prop} {W : World} {D : Nat → Prop} {Bl lb yb cap yl : Nat} {xs : List Int} {pre : List (Nat × List Int)} {wr W3 : World} {o : Obj} {D1 D2 : Nat → Prop} (h : SubInv J W D Bl lb yb cap yl xs pre wr D1)
    (hf : Fr (fun k => D1 k ∨ k = wr.heap.size) (wr.drew.alloc o) W3) (hD : ∀ k, D2 k → (D1 k ∨ (wr.drew.alloc o).heap.size ≤ k) ∧ k < W3.heap.size) :
    Fr D W W3 ∧ ∀ k, D2 k → (D k ∨ W.heap.size ≤ k) ∧ k < W3.heap.size := by
  have hs := h.fr.size
  have hs2 := hf.size
  rw [World.size_alloc] at hs2
  have hs3 : wr.drew.heap.size = wr.heap.size := rfl
  constructor
  · refine h.fr.then_ (M' := fun k => D1 k ∨ k = wr.heap.size) ((show Fr _ wr (wr.drew.alloc o) from ⟨rfl, rfl, rfl, by rw [World.size_alloc, hs3]; omega, fun k hk _ => Below.heap_alloc wr.drew o k hk⟩).trans hf) (fun k hk hd => ?_)
    rcases hd with hd | hd
    · exact (h.own k hd).1.elim id (fun h2 => by omega)
    · omega
  · intro k hk
    obtain ⟨h1, h2⟩ := hD k hk
    refine ⟨?_, h2⟩
    rw [World.size_alloc, hs3] at h1
    rcases h1 with h1 | h1
    · exact (h.own k h1).1
    · exact .inr (by omega)
theorem SubInv.next {J : List (Nat × List Int) → World → (Nat → Prop) → Prop} {W : World} {D : Nat → Prop} {Bl lb yb cap yl k kb : Nat} {xs : List Int} {pre ys2 : List (Nat × List Int)} {wr W3 : World} {o o' : Obj} {D1 D2 : Nat → Prop} (hJ : Foot J) (h : SubInv J W D Bl lb yb cap yl xs pre wr D1)
    (hk : wr.cell? ⟨kb, 0, none⟩ = some (.int .i64 k)) (hkD : ¬ D1 kb) (hf : Fr (fun k => D1 k ∨ k = wr.heap.size) (wr.drew.alloc o) W3) (hD : ∀ k, D2 k → (D1 k ∨ (wr.drew.alloc o).heap.size ≤ k) ∧ k < W3.heap.size)
    (hr : RowsInv J kb Bl lb yb cap yl k wr.heap.size xs [] (pre ++ ys2) W3 D2) : SubInv J W D Bl lb yb cap yl xs (pre ++ ys2) (W3.alloc o') D2 := by
  obtain ⟨h1, h2⟩ := h.ends hf hD
  exact ⟨hJ _ _ _ _ hr.j (fun i hi => Below.heap_alloc _ _ _ (hr.own i hi)), fun i hi => ⟨(h2 i hi).1, by rw [World.size_alloc]; have := (h2 i hi).2; omega⟩, h1.trans (Fr.alloc _ _ _), ⟨cell_al _ hr.env.l.box, fun j hj => cell_al _ (hr.env.l.cells j hj)⟩, by rw [World.size_alloc]; have := hr.env.lt; omega,
    cell_al _ hr.env.y, hr.away.2.1, hr.away.2.2.1, hr.away.2.2.2.1⟩

set_option maxHeartbeats 1000000 in
theorem subs_small (Bl lb cap yl nY : Nat) (xs : List Int) (hxl : xs.length ≤ 10) {J Jx : List (Nat × List Int) → World → (Nat → Prop) → Prop} (hJ : Foot J) (hY : YieldWord J Jx nY yl) (W : World) (D : Nat → Prop) (hB : LBox W Bl lb cap xs) (hlb : lb < W.heap.size) (hDB : ¬ D Bl) (hDl : ¬ D lb)
    (hD : ∀ k, D k → k < W.heap.size) (h0 : J [] W D) :
    Calls Tryd.prog 29 #[.func (.yield yl) #[] #[], .pointer (some ⟨Bl, 0, none⟩)] W fun e W' => (∃ v, e = .returned v) ∧ ∃ D', Fr D W W' ∧ (∀ k, D' k → (D k ∨ W.heap.size ≤ k) ∧ k < W'.heap.size) ∧
      ((∃ ys, ys.map (·.2) = (subsTo xs.length xs.length).map (pick xs) ∧ J ys W' D') ∨ (∃ ys, ys.map (·.2) <+: (subsTo xs.length xs.length).map (pick xs) ∧ Jx ys W' D')) := by
  have hbl : Bl < W.heap.size := World.block_lt_of_cell? W _ hB.box
  have hi0 : SubInv J W D Bl lb W.heap.size cap yl xs [] (W.alloc (.cells #[.func (.yield yl) #[] #[]] 67)) D :=
    ⟨hJ _ _ _ _ h0 (fun k hk => Below.heap_alloc _ _ _ (hD k hk)), fun k hk => ⟨.inl hk, by rw [World.size_alloc]; have := hD k hk; omega⟩, Fr.alloc _ _ _, ⟨cell_al _ hB.box, fun j hj => cell_al _ (hB.cells j hj)⟩, by rw [World.size_alloc]; omega,
      cell_of_row _ W.heap.size 0 _ 67 (0, 0) (heap_alloc_new W _), hDB, hDl, fun h => by have := hD _ h; omega⟩
  have hbox := hB.box
  have HI := Lib.hid hi0
  have hx10 : ¬ ((10 : Int) < (xs.length : Int)) := by omega
  clear hi0 hB
  go_enter Tryd.func29, Tryd.ntmps29
  go_wp2
  go_loopw [3] (fun v wr => ∃ (kb k : Nat) (ys : List (Nat × List Int)) (D1 : Nat → Prop), v = .pointer (some ⟨kb, 0, none⟩) ∧ wr.cell? ⟨kb, 0, none⟩ = some (.int .i64 k) ∧ wr.frozen? ⟨kb, 0, none⟩ = false ∧ 1 ≤ k ∧ k ≤ xs.length + 1 ∧ W.heap.size < kb ∧ ¬ D1 kb ∧
      ys.map (·.2) = (subsTo xs.length (k - 1)).map (pick xs) ∧ SubInv J W D Bl lb W.heap.size cap yl xs ys wr D1) (fun v wr => xs.length + 1 - boxN wr v)
  case atStart =>
    have hI := HI.out
    refine ⟨W.heap.size + 1, 1, [], D, rfl, ?_, ?_, Nat.le_refl _, by omega, by omega, fun h => by have := hD _ h; omega, by simp [subsTo], ?_⟩
    · exact cell_of_row _ _ 0 _ 3 (0, 0) (by have := heap_alloc_new (W.alloc (.cells #[.func (.yield yl) #[] #[]] 67)) (.cells #[.int .i64 1] 3); rwa [World.size_alloc] at this)
    · exact heap_free (t := 3) (by have := heap_alloc_new (W.alloc (.cells #[.func (.yield yl) #[] #[]] 67)) (.cells #[.int .i64 1] 3); rwa [World.size_alloc] at this) 0
    · exact ⟨hJ _ _ _ _ hI.j (fun i hi => Below.heap_alloc _ _ _ (hI.own i hi).2), fun i hi => ⟨(hI.own i hi).1, by rw [World.size_alloc]; have := (hI.own i hi).2; omega⟩, hI.fr.trans (Fr.alloc _ _ _), ⟨cell_al _ hI.box.box, fun j hj => cell_al _ (hI.box.cells j hj)⟩, by rw [World.size_alloc]; have := hI.lt; omega,
        cell_al _ hI.y, hI.away⟩
  case round =>
    obtain ⟨kb, k, ys, D1, rfl, hkc, hkf, hk1, hkn, hkb, hkD, hys, hi⟩ := hrel
    have hbx := hi.box.box
    by_cases hlt : (k : Int) ≤ (xs.length : Int)
    · have HIN := Lib.hid hi
      have HYS := Lib.hid hys
      have hk10 : k ≤ 10 := by omega
      obtain ⟨i0, hi0, hz0, hz1, hz2⟩ := info_parts info3
      have hmk := fun wx => run_make (P := Tryd.prog) wx 22 3 i0 (.int .i64 0) Tryd.underlying22 hi0 hz0 .i64 .i64 0 (k : Int) (by omega) (by omega) (by rw [hz2]; omega) (by omega)
      simp only [hz1, Int.toNat_natCast, Int.toNat_zero, made_ints] at hmk
      have hr := Lib.hid (fun (w2 : World) (h2 : RowsInv J kb Bl lb W.heap.size cap yl k wr.heap.size xs [] ys w2 D1) => rows_any hJ hY kb Bl lb W.heap.size cap wr.heap.size k xs hk10 hxl k 0 [] ys w2 D1 (by simp) (by omega) (by simp) h2)
      have hRI := Lib.hid ((HIN.out.drew hJ).rows hJ hkc hkD hk10)
      have hkeep := Lib.hid (fun (e : Ending) (W3 : World) (hp : RowsPost J Jx kb Bl lb W.heap.size cap yl k wr.heap.size xs [] ys (rowsL xs.length k 0) (wr.drew.alloc (.cells (i64s (List.replicate k 0)).toArray 3)) D1 e W3) => subs_keep HIN.out hkc hkD hp)
      clear hi hys hz0 hz1 hz2 hi0
      go_wp2
      go_region_held3 (fun w' => w'.cell? ⟨Bl, 0, none⟩ = some (.slice (some ⟨lb, 0, none⟩) xs.length cap) ∧ w'.cell? ⟨kb, 0, none⟩ = some (.int .i64 k))
        (first | exact ⟨hbx, hkc⟩ | exact ⟨cell_al _ hbx, cell_al _ hkc⟩ | exact hkeep.out _ _ hp.out)
        ((go_at_call 30; refine (hr.out _ hRI.out).mono ?_; rintro e W3 hp; obtain ⟨b, rfl⟩ := hp.ret; have hp := Lib.hid hp))
      all_goals
        have hkp := hkeep.out _ _ hp.out
        obtain ⟨hb3, hk3⟩ := hkp
        obtain ⟨ys2, D2, hf2, hD2, (⟨hbt, hys2, hr2⟩ | ⟨hbt, hys2, hj2⟩)⟩ := hp.out
        · cases hbt
          go_wp2
          go_roundw
          case rel =>
            refine ⟨W3.heap.size, k + 1, ys ++ ys2, D2, rfl, ?_, ?_, by omega, by omega, ?_, ?_, ?_, ?_⟩
            · exact cell_of_row _ W3.heap.size 0 _ 3 (0, 0) (heap_alloc_new W3 _)
            · exact heap_free (heap_alloc_new W3 _) 0
            · have := hf2.size; have := World.block_lt_of_cell? wr _ hkc; simp at *; omega
            · intro h; have := (hD2 _ h).2; omega
            · rw [List.map_append, HYS.out, hys2, Nat.add_sub_cancel, show subsTo xs.length k = subsTo xs.length (k - 1) ++ rowsL xs.length k 0 from by
                have := subsTo_succ xs.length (k - 1); rwa [show k - 1 + 1 = k from by omega] at this, List.map_append]
              simp
            · exact HIN.out.next (hJ) hkc hkD hf2 hD2 hr2
          case measure => 
            rw [boxN_eq hkc, boxN_eq (cell_of_row _ W3.heap.size 0 _ 3 (0, 0) (heap_alloc_new W3 _) |>.trans rfl)]
            omega
        · cases hbt
          go_wp2
          refine bodyPost_ret (results_none rfl _ _ _) rfl ?_
          obtain ⟨h1, h2⟩ := HIN.out.ends hf2 hD2
          refine ⟨⟨_, rfl⟩, D2, h1, h2, .inr ⟨ys ++ ys2, ?_, hj2⟩⟩
          have hsub := subsTo_succ xs.length (k - 1)
          rw [show k - 1 + 1 = k from by omega] at hsub
          refine List.IsPrefix.trans ?_ (List.IsPrefix.map _ (subsTo_pre xs.length k xs.length (by omega)))
          rw [List.map_append, HYS.out, hsub, List.map_append]
          exact (List.prefix_append_right_inj _).2 (by simpa using hys2)
    · go_wp2
      go_end0
      obtain rfl : k = xs.length + 1 := by omega
      exact ⟨⟨_, rfl⟩, hi.fr, D1, hi.own, .inl ⟨ys, by simpa using hys, hi.j⟩⟩

set_option maxHeartbeats 400000 in
theorem subs_large (Bl lb cap yl : Nat) (xs : List Int) (hxl : 10 < xs.length) (W : World) (hB : LBox W Bl lb cap xs) :
    Calls Tryd.prog 29 #[.func (.yield yl) #[] #[], .pointer (some ⟨Bl, 0, none⟩)] W fun e W' => (∃ v, e = .returned v) ∧ Below W.heap.size W W' := by
  have hbox := hB.box
  have hbl := World.block_lt_of_cell? W _ hB.box
  have hx10 : ((10 : Int) < (xs.length : Int)) := by omega
  clear hB
  go_enter Tryd.func29, Tryd.ntmps29
  go_wp2
  refine bodyPost_ret (results_none rfl _ _ _) rfl ?_
  exact ⟨⟨_, rfl⟩, (Below.refl _ _).alloc (Nat.le_refl _) _⟩

/-- Subsets' iterator: the rows that come by leaving items out. -/
theorem subs_seq (Bl lb cap : Nat) (xs : List Int) :
    SeqSep Tryd.prog 29 #[.pointer (some ⟨Bl, 0, none⟩)] (fun x : Nat × List Int => #[.slice (some ⟨x.1, 0, none⟩) x.2.length x.2.length]) (fun x k => k = x.1) (fun x W => W.heap[x.1]? = some (.cells (i64s x.2).toArray 3 (0, 0)))
      (fun ys => ys.map (·.2) = subsL xs) (fun ys => ys.map (·.2) <+: subsL xs) (fun W D => LBox W Bl lb cap xs ∧ lb < W.heap.size ∧ ¬ D Bl ∧ ¬ D lb) := by
  intro l n J Jx W D ⟨hB, hlb, hDB, hDl⟩ hD hJ hJx h0 hY
  refine callsIn_wide.2 ?_
  unfold subsL
  by_cases hxl : 10 < xs.length
  · refine (subs_large Bl lb cap l xs hxl W hB).mono ?_
    rintro e W' ⟨hv, hb⟩
    exact ⟨hv, D, .of_below hb, fun k hk => ⟨.inl hk, Nat.lt_of_lt_of_le (hD k hk) hb.size⟩, .inl ⟨[], by simp [hxl], hJ _ _ _ _ h0 (fun k hk => hb.block k (hD k hk))⟩⟩
  · rw [if_neg hxl]
    exact subs_small Bl lb cap l n xs (by omega) hJ hY W D hB hlb hDB hDl hD h0
end Go.Proofs.YthfapneifbjlmaaDoor
