/- Layer 3: the statements' heads. -/
import Derived.Test.YthfapneifbjlmaaDoorG
namespace Go.Proofs.YthfapneifbjlmaaDoor
open Go.RowKit Go.Shelf
attribute [local go_sem] Oper.semAt_some
set_option linter.unusedVariables false
set_option linter.unusedSimpArgs false

/-- A variable in memory that a loop's body writes, and nothing else of the body's own. -/
def BoxI {α : Type} (B : Nat) (f : List α → Int) (pre : List α) (W : World) (D : Nat → Prop) : Prop :=
  W.heap[B]? = some (.cells #[.int .i64 (f pre)] 3 (0, 0)) ∧ ∀ k, D k ↔ k = B
theorem BoxI.foot {α : Type} (B : Nat) (f : List α → Int) : Foot (BoxI B f) := fun s W W' D h hk => ⟨(hk B ((h.2 B).2 rfl)).trans h.1, h.2⟩

def sum1 (pre : List Nat) : Int := pre.foldl (fun (a : Int) (i : Nat) => wrap64 (wrap64 (100 * a) + (i : Int))) 0
def sum2 (pre : List (Nat × List Int)) : Int := pre.foldl (fun a x => wrap64 (wrap64 (10 * a) + (x.2.length : Int))) (0 : Int)

def no_exit {α : Type} : Code → List α → World → (Nat → Prop) → Prop := fun _ _ _ _ => False

theorem equalIn_func_nil {P : Program} {t : TypeId} {ps rs : Array TypeId} {vd : Bool} (ht : P.underlying t = some (.func ps rs vd)) (d : Nat) (fn : Fn) (a b : Array Value) (w : World) :
    (Op.equalIn (d + 1) t (.func fn a b) .nilFunc).run P w = .ok false w := by simp [Op.equalIn, run_underlying ht]
theorem run_eql_func_nil {P : Program} {t : TypeId} {ps rs : Array TypeId} {vd : Bool} (ht : P.underlying t = some (.func ps rs vd)) (fn : Fn) (a b : Array Value) (w : World) :
    (binOp .eql t (.func fn a b) .nilFunc).run P w = .ok (.bool false) w := by
  simp only [binOp]
  simp [Op.equal, Op.maxDepth, equalIn_func_nil ht 9999]
/-- A round that stores into the body's variable. -/
theorem BoxI.stored {α : Type} {B : Nat} {f : List α → Int} {pre pre' : List α} {W : World} {D H : Nat → Prop} (h : BoxI B f pre W D) (hD : ∀ k, D k → k < W.heap.size) {x : Int} (hx : f pre' = x) :
    ∃ D', Round D H W (W.setCell ⟨B, 0, none⟩ (.int .i64 x)) D' ∧ BoxI B f pre' (W.setCell ⟨B, 0, none⟩ (.int .i64 x)) D' := by
  subst hx
  exact ⟨D, ⟨Fr.setCell _ _ _ (fun _ => .inl ((h.2 B).2 rfl)), fun k hk => ⟨.inl hk, by simpa [World.setCell] using hD k hk⟩⟩, heap_set_same h.1 0 _, h.2⟩
theorem sum1_snoc (pre : List Nat) (x : Nat) : sum1 (pre ++ [x]) = wrap64 (wrap64 (100 * sum1 pre) + x) := by simp [sum1]
theorem sum2_snoc (pre : List (Nat × List Int)) (x : Nat × List Int) : sum2 (pre ++ [x]) = wrap64 (wrap64 (10 * sum2 pre) + x.2.length) := by simp [sum2]
theorem sum2_map (xs : List (Nat × List Int)) : sum2 xs = (xs.map (·.2)).foldl (fun (a : Int) (x : List Int) => wrap64 (wrap64 (10 * a) + (x.length : Int))) 0 := by simp [sum2, List.foldl_map]
theorem below_putObj {B : Nat} {a b : World} (h : Below B a b) (r : Nat) (o : Obj) (hr : B ≤ r) : Below B a (b.putObj r o) :=
  ⟨h.os, h.tape, h.output, by rw [World.putObj_size]; exact h.size, fun k hk => (World.putObj_heap_other (by omega)).trans (h.block k hk)⟩
theorem addr_lit (h : Nat) (xs : List Int) (t : TypeId) (W : World) : ∀ j u, (i64s xs)[j]? = some u → (W.alloc (.cells (i64s xs).toArray t)).cell? ((⟨W.heap.size, 0, none⟩ : Addr).add j) = some u := by
  intro j u hu
  have e : (⟨W.heap.size, 0, none⟩ : Addr).add j = ⟨W.heap.size, j, none⟩ := by unfold Addr.add; split <;> simp_all
  rw [e, heap_cell (heap_alloc_new W _)]
  exact hu

set_option maxHeartbeats 2000000 in
set_option maxRecDepth 100000 in
theorem heads_any (W : World) (hT : Tab W) : Calls Tryd.prog 9 #[] W fun e w' => e = .returned (.bool true) ∧ Below W.heap.size W w' := by
  refine callsIn_wide (n := 3).1 ?_
  have hnew := Lib.hid (callsIn_wide (n := 2).2 (New_ok W 70 (by omega)))
  refine callsIn_of_wp_marks Tryd.func9 rfl trivial ?_ rfl
  simp only [Tryd.ntmps9, List.size_toArray, List.length_cons, List.length_nil, Nat.reduceAdd, Nat.reduceSub, Array.replicate_succ, Array.replicate_zero, List.push_toArray, List.append_toArray, List.nil_append, List.cons_append]
  gi_wp2_with (first | (refine ⟨trivial, ?_⟩; gi_at_call 15; refine hnew.out.mono ?_; rintro e w1 ⟨g, h, rfl, hs1, hg, hh, hb1⟩))
  refine ⟨trivial, ?_⟩
  refine (callsIn_wide (n := 2).2 (Put_set hs1 3 (by omega) (by omega))).mono ?_
  rintro e w2 ⟨rfl, hs2, hg2⟩
  gi_wp2_with fail
  refine ⟨trivial, ?_⟩
  refine (callsIn_wide (n := 2).2 (Put_set hs2 69 (by omega) (by omega))).mono ?_
  rintro e w3 ⟨rfl, hs3, hg3⟩
  gi_wp2_with fail
  refine ⟨trivial, ?_⟩
  refine (callsIn_wide (n := 2).2 (Put_out hs3 70 (by omega))).mono ?_
  rintro e w4 ⟨rfl, rfl⟩
  have hws : putBit (putBit (List.replicate ((70 + 63) / 64) 0) (3 : Int).toNat) (69 : Int).toNat = [8, 32] := by decide
  rw [hws] at hs3
  have hb3 : Below W.heap.size W w3 := (hb1.grown hg2 hb1.size (fun k e => by injection e with e; omega)).grown hg3 (Nat.le_trans hb1.size hg2.size) (fun k e => by injection e with e; omega)
  have hT3 : Tab w3 := hT.kept (M := fun _ => False) (.of_below hb3) id
  clear hg2 hg3 hs2 hs1 hws hb1 hnew
  gi_wp2_with fail
  refine ⟨trivial, ?_⟩
  refine (callsIn_wide (n := 2).2 (Words_set hs3)).mono ?_
  rintro e w5 ⟨kw, cap5, rfl, ho5, hb5⟩
  gi_wp2_with fail
  refine ⟨trivial, ?_⟩
  refine (callsIn_wide (n := 2).2 (All_any w5 _ (.inr ⟨_, rfl⟩))).mono ?_
  rintro e w6 ⟨rfl, rfl⟩
  gi_wp2_with fail
  refine ⟨trivial, ?_⟩
  have hsub := callsIn_wide (n := 2).2 (Subsets_any ((w5.alloc (.cells #[.pointer (some ⟨g, 0, none⟩)] 33)).alloc (.cells #[.int .i64 5, .int .i64 7] 3)) ⟨w5.heap.size + 1, 0, none⟩ [5, 7] 2 (by
    have := addr_lit 0 [5, 7] 3 (w5.alloc (.cells #[.pointer (some ⟨g, 0, none⟩)] 33))
    rw [World.size_alloc] at this
    exact this) (by simp))
  refine hsub.mono ?_
  rintro e w8 ⟨Bl, lb, cap8, rfl, hL, hBl, hlb, hb8⟩
  clear hsub
  have hn1 := fun w => run_eql_func_nil Tryd.underlying71 (.func 53) #[] #[.pointer (some ⟨w5.heap.size, 0, none⟩)] w
  have hn2 := fun w => run_eql_func_nil Tryd.underlying24 (.func 29) #[] #[.pointer (some ⟨Bl, 0, none⟩)] w
  have hs5 : IsSet w5 g h 70 [8, 32] := hs3.below hb5 hs3.lt.1 hs3.lt.2.1
  have hb58 : Below w5.heap.size w5 w8 := (((Below.refl _ w5).alloc (Nat.le_refl _) _).alloc (by simp) _).trans (hb8.mono (by simp; omega))
  have hs8 : IsSet w8 g h 70 [8, 32] := hs5.below hb58 hs5.lt.1 hs5.lt.2.1
  have hc8 : w8.cell? ⟨w5.heap.size, 0, none⟩ = some (.pointer (some ⟨g, 0, none⟩)) :=
    (hb8.cell (p := ⟨w5.heap.size, 0, none⟩) (by simp; omega)).trans (cell_al _ ((cell_of_row _ w5.heap.size 0 _ 33 (0, 0) (heap_alloc_new w5 _)).trans rfl))
  have h35 := hb3.trans (hb5.mono hb3.size)
  have h8 : Below W.heap.size W w8 := h35.trans (hb58.mono h35.size)
  have hT8 : Tab w8 := hT.kept (M := fun _ => False) (.of_below h8) id
  have hlb8 : lb < w8.heap.size := by simpa using World.block_lt_of_cell? w8 _ (hL.cells 0 (by simp))
  have hbl8 : Bl < w8.heap.size := by simpa using World.block_lt_of_cell? w8 _ hL.box
  have hbx8 : w5.heap.size < w8.heap.size := by simpa using World.block_lt_of_cell? w8 _ hc8
  have h58 := hb58.size
  have hW5 := h35.size
  have hW0 : 0 < W.heap.size := by simpa using World.block_lt_of_cell? W _ (hT 0 (by omega))
  obtain ⟨hkw1, hkw2, hkw3⟩ := row_cells ho5 rfl
  have hkwt : ∀ j, w5.frozen? ⟨kw, j, none⟩ = false := fun j => by
    rcases ho5.2 with ⟨h1, _⟩ | ⟨g', cap', cur, h1, _, hh', _⟩
    · cases h1
    · injection h1 with a _ _; injection a with a; injection a with a; subst a; exact heap_free hh' j
  have hw8 : ∀ j, j < 2 → w8.cell? ⟨kw, j, none⟩ = some (.int .u64 (wd [8, 32] j)) := fun j hj => (hb58.cell (p := ⟨kw, j, none⟩) hkw2).trans (hkw3 j hj)
  have hw80 := hw8 0 (by omega)
  have hw81 := hw8 1 (by omega)
  have HW0 := Lib.hid hw80
  have HW1 := Lib.hid hw81
  have HS8 := Lib.hid hs8
  have HT8 := Lib.hid hT8
  have HC8 := Lib.hid hc8
  have HL := Lib.hid hL
  have HB8 := Lib.hid h8
  clear hb5 hb3 hb8 hT3 hs3 hs5 hb58 hs8 hc8 h35 h8 hT8 hkw3 hkwt hw8 hw80 hw81 hL ho5 hT
  gi_wp2_with fail
  refine rangeFunc_sep (n := 1) rfl (enters_of Tryd.func53 (by kernel_rfl) rfl) (all_set w5.heap.size g h 70 [8, 32]) (fun x => rfl) (fun _ _ _ _ h => h) (BoxI w8.heap.size sum1) no_exit (fun k => k = w8.heap.size)
    (fun k hk => by rw [World.size_alloc]; omega) (BoxI.foot _ _) (fun _ _ _ _ _ h _ => h) ⟨heap_alloc_new w8 _, fun k => Iff.rfl⟩ ?iw ?a1 ?assign ?body ?done ?stop
  case assign =>
    intro l x W' K hK
    gi_wp2
    exact hK
  case iw =>
    intro W1 D1 hb hd
    rw [World.size_alloc] at hb hd
    have hbw : Below w8.heap.size w8 W1 := ((Below.refl _ w8).alloc (Nat.le_refl _) _).trans (hb.mono (by omega))
    exact ⟨(hbw.cell (p := ⟨w5.heap.size, 0, none⟩) hbx8).trans HC8.out, HS8.out.below hbw HS8.out.lt.1 HS8.out.lt.2.1, HT8.out.kept (M := fun _ => False) (.of_below hbw) id, fun h0 => by rcases hd 0 h0 with h | h <;> omega⟩
  case body =>
    rintro l pre x W' D ⟨hb, hD⟩ hDl hx hhand hle
    have hcb := heap_cell (cs := [.int .i64 (sum1 pre)]) hb 0
    have hfb := heap_free hb 0
    simp only [List.getElem?_cons_zero] at hcb
    gi_wp2
    exact BoxI.stored ⟨hb, hD⟩ hDl (sum1_snoc pre x)
  case done =>
    rintro xs W9 D9 rfl ⟨hb9, hD9⟩ hf9 hdef9 hnd9 hdd9
    have hsum : sum1 (mems 0 [8, 32]) = 369 := by decide +kernel
    rw [hsum] at hb9
    have hf89 : Fr (fun k => k = w8.heap.size) w8 W9 := (Fr.alloc _ w8 _).trans hf9
    have hL9 : LBox W9 Bl lb cap8 [5, 7] := ⟨hf89.cell HL.out.box (by simp; omega), fun j hj => hf89.cell (HL.out.cells j hj) (by simp; omega)⟩
    have HL9 := Lib.hid hL9
    have hs9 : w8.heap.size + 1 ≤ W9.heap.size := by have := hf9.size; rwa [World.size_alloc] at this
    have HF9 := Lib.hid hf89
    have HB9 := Lib.hid hb9
    have hdf9 := Lib.hid hdef9
    clear hdef9 hL9 hf89 hf9 hb9
    rw [World.size_alloc] at hnd9 hdf9
    gi_wp2_with fail
    refine rangeFunc_sep (n := 1) rfl (enters_of Tryd.func29 (by kernel_rfl) rfl) (subs_seq Bl lb cap8 [5, 7]) (fun x => rfl) (fun x _ _ h hp => (h x.1 rfl).trans hp) (BoxI W9.heap.size sum2) no_exit (fun k => k = W9.heap.size)
      (fun k hk => by rw [World.size_alloc]; omega) (BoxI.foot _ _) (fun _ _ _ _ _ h _ => h) ⟨heap_alloc_new W9 _, fun k => Iff.rfl⟩ ?iw2 ?a2 ?assign2 ?body2 ?done2 ?stop2
    case assign2 =>
      intro l x W' K hK
      gi_wp2
      exact hK
    case iw2 =>
      intro W1 D1 hb hd
      rw [World.size_alloc] at hb hd
      have hbw : Below W9.heap.size W9 W1 := ((Below.refl _ W9).alloc (Nat.le_refl _) _).trans (hb.mono (by omega))
      have hf : Fr (fun _ => False) W9 W1 := .of_below hbw
      refine ⟨⟨hf.cell HL9.out.box id, fun j hj => hf.cell (HL9.out.cells j hj) id⟩, by have := hbw.size; omega, fun h => ?_, fun h => ?_⟩
      · rcases hd _ h with h | h <;> omega
      · rcases hd _ h with h | h <;> omega
    case body2 =>
      rintro l pre x W' D ⟨hb, hD⟩ hDl hx hhand hle
      have hcb := heap_cell (cs := [.int .i64 (sum2 pre)]) hb 0
      have hfb := heap_free hb 0
      simp only [List.getElem?_cons_zero] at hcb
      clear hx
      gi_wp2
      exact BoxI.stored ⟨hb, hD⟩ hDl (sum2_snoc pre x)
    case done2 =>
      rintro xs WA DA hS ⟨hbA, hDA⟩ hfA hdefA hndA hddA
      have hsum2 : sum2 xs = 112 := by rw [sum2_map, hS]; decide +kernel
      rw [hsum2] at hbA
      have hf9A : Fr (fun k => k = W9.heap.size) W9 WA := (Fr.alloc _ W9 _).trans hfA
      have hc9 := hf9A.cell (heap_cell (cs := [.int .i64 369]) HB9.out 0) (by simp; omega)
      have hcA := heap_cell (cs := [.int .i64 112]) hbA 0
      have hwA0 := hf9A.cell (HF9.out.cell HW0.out (by simp; omega)) (by simp; omega)
      have hwA1 := hf9A.cell (HF9.out.cell HW1.out (by simp; omega)) (by simp; omega)
      have hdA : WA.heap[w8.heap.size + 1]? = some (.deferred (some [])) := (hf9A.block _ (Array.getElem?_eq_some_iff.1 hdf9.out).1 (fun h => by have := (Array.getElem?_eq_some_iff.1 hdf9.out).1; have h' : w8.heap.size + 1 = W9.heap.size := h; omega)).trans hdf9.out
      simp only [List.getElem?_cons_zero, wd, List.getD_cons_zero, List.getD_cons_succ] at hc9 hcA hwA0 hwA1
      rw [World.size_alloc] at hdefA
      have hBA : Below W.heap.size W WA := HB8.out.trans (((HF9.out.below (fun k hk h => absurd h (Nat.ne_of_lt hk))).mono (by omega)).trans ((hf9A.below (fun k hk h => absurd h (Nat.ne_of_lt hk))).mono (by omega)))
      have hdfA := Lib.hid hdefA
      have hdB := Lib.hid hdA
      have HBA := Lib.hid hBA
      clear hdefA hbA hdA hBA hfA hf9A
      gi_wp2
      have hne : w8.heap.size + 1 ≠ W9.heap.size + 1 := by omega
      refine ⟨by simp, .inl ⟨_, _, by rw [World.size_alloc], run_takeDeferred hdfA.out, ?_⟩⟩
      refine ⟨by simp, .inl ⟨_, _, by rw [World.size_alloc], run_takeDeferred ((World.putObj_heap_other hne).trans hdB.out), ?_⟩⟩
      exact ⟨_, results_tmp rfl _ _ _, rfl, below_putObj (below_putObj HBA.out _ _ (by omega)) _ _ (by omega)⟩
    case stop2 => exact fun _ _ _ _ _ h => h.elim
  case stop => exact fun _ _ _ _ _ h => h.elim
end Go.Proofs.YthfapneifbjlmaaDoor
