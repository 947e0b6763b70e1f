/- Layer 3: what is no set: the other calls; BitsNobody's walk. -/
import Derived.Test.YthfapneifbjlmaaDoorH
namespace Go.Proofs.YthfapneifbjlmaaDoor
open Go.RowKit Go.Shelf
set_option linter.unusedVariables false
set_option linter.unusedSimpArgs false

set_option maxHeartbeats 400000 in
theorem Count_dead {W : World} {v : Value} (H : Dead W v) :
    Calls Tryd.prog 21 #[v] W fun e w' => e = .returned (.int .i64 0) ∧ W = w' := by
  have al := Lib.hid (alive_dead H)
  clear H
  go_enter Tryd.func21, Tryd.ntmps21
  go_wp2_with (go_at_call 42; refine al.out.mono ?_; rintro e w' ⟨rfl, rfl⟩)
  go_ret
  exact ⟨rfl, rfl⟩
set_option maxHeartbeats 400000 in
theorem with_dead {W : World} {v u f : Value} (H : Dead W v) :
    Calls Tryd.prog 44 #[v, u, f] W fun e w' => e = .returned (.int .i64 1) ∧ W = w' := by
  have al := Lib.hid (alive_dead H)
  clear H
  go_enter Tryd.func44, Tryd.ntmps44
  go_wp2_with (go_at_call 42; refine al.out.mono ?_; rintro e w' ⟨rfl, rfl⟩)
  go_ret
  exact ⟨rfl, rfl⟩
set_option maxHeartbeats 400000 in
theorem Or_dead {W : World} {v u : Value} (H : Dead W v) :
    Calls Tryd.prog 20 #[v, u] W fun e w' => e = .returned (.int .i64 1) ∧ W = w' := by
  have al := Lib.hid (fun f => with_dead (u := u) (f := f) H)
  clear H
  go_enter Tryd.func20, Tryd.ntmps20
  go_wp2_with (go_at_call 44; refine (al.out _).mono ?_; rintro e w' ⟨rfl, rfl⟩)
  go_ret
  exact ⟨rfl, rfl⟩
set_option maxHeartbeats 400000 in
theorem And_dead {W : World} {v u : Value} (H : Dead W v) :
    Calls Tryd.prog 19 #[v, u] W fun e w' => e = .returned (.int .i64 1) ∧ W = w' := by
  have al := Lib.hid (fun f => with_dead (u := u) (f := f) H)
  clear H
  go_enter Tryd.func19, Tryd.ntmps19
  go_wp2_with (go_at_call 44; refine (al.out _).mono ?_; rintro e w' ⟨rfl, rfl⟩)
  go_ret
  exact ⟨rfl, rfl⟩
set_option maxHeartbeats 400000 in
theorem Without_dead {W : World} {v u : Value} (H : Dead W v) :
    Calls Tryd.prog 18 #[v, u] W fun e w' => e = .returned (.int .i64 1) ∧ W = w' := by
  have al := Lib.hid (fun f => with_dead (u := u) (f := f) H)
  clear H
  go_enter Tryd.func18, Tryd.ntmps18
  go_wp2_with (go_at_call 44; refine (al.out _).mono ?_; rintro e w' ⟨rfl, rfl⟩)
  go_ret
  exact ⟨rfl, rfl⟩
theorem Dead.drewN {W : World} {v : Value} (H : Dead W v) (n : Nat) : Dead (W.drewN n) v := H
set_option maxHeartbeats 400000 in
theorem fits_dead {W : World} {v u : Value} (H : Dead W v) :
    Calls Tryd.prog 49 #[v, u] W fun e w' => e = .returned (.bool false) ∧ ∃ n, W.drewN n = w' := by
  have al := Lib.hid (fun n => alive_dead (H.drewN n))
  clear H
  go_enter Tryd.func49, Tryd.ntmps49
  go_wp2
  go_quiet ((go_at_call 42; exact Calls.quiet_of_same ((al.out _).mono (fun e w' h => ⟨h.1, h.2.symm⟩))))
  go_wp2
  go_ret
  exact ⟨rfl, nq, rfl⟩
set_option maxHeartbeats 400000 in
theorem Within_dead {W : World} {v u : Value} (H : Dead W v) :
    Calls Tryd.prog 23 #[v, u] W fun e w' => e = .returned (.bool false) ∧ ∃ n, W.drewN n = w' := by
  have al := Lib.hid (fits_dead (u := u) H)
  clear H
  go_enter Tryd.func23, Tryd.ntmps23
  go_wp2_with (go_at_call 49; refine al.out.mono ?_; rintro e w' ⟨rfl, n, rfl⟩)
  go_ret
  exact ⟨rfl, n, rfl⟩
set_option maxHeartbeats 400000 in
theorem Same_dead {W : World} {v u : Value} (H : Dead W v) :
    Calls Tryd.prog 22 #[v, u] W fun e w' => e = .returned (.bool false) ∧ ∃ n, W.drewN n = w' := by
  have al := Lib.hid (fun n => fits_dead (u := u) (H.drewN n))
  clear H
  go_enter Tryd.func22, Tryd.ntmps22
  go_wp2
  go_quiet ((go_at_call 49; exact Calls.quiet_of ((al.out _).mono (fun e w' h => ⟨h.1, h.2.imp (fun _ h => h.symm)⟩))))
  go_wp2
  go_ret
  exact ⟨rfl, nq, rfl⟩

def cnt (pre : List Nat) : Int := pre.foldl (fun (a : Int) (_ : Nat) => wrap64 (a + 1)) 0
theorem cnt_snoc (pre : List Nat) (x : Nat) : cnt (pre ++ [x]) = wrap64 (cnt pre + 1) := by simp [cnt]
theorem Dead.kept {M : Nat → Prop} {a b : World} {v : Value} (H : Dead a v) (hf : Fr M a b) (hn : ∀ g, v = .pointer (some ⟨g, 0, none⟩) → ¬ M g) : Dead b v := by
  rcases H with rfl | ⟨g, rfl, h⟩
  · exact .inl rfl
  · exact .inr ⟨g, rfl, hf.cell h (hn g rfl)⟩
theorem Dead.lt {a : World} {v : Value} (H : Dead a v) : ∀ g, v = .pointer (some ⟨g, 0, none⟩) → g < a.heap.size := by
  intro g hg
  rcases H with rfl | ⟨g', rfl, h⟩
  · cases hg
  · injection hg with hg; injection hg with hg; injection hg with hg; subst hg; exact World.block_lt_of_cell? a _ h

section
attribute [local go_sem] Oper.semAt_some
set_option maxHeartbeats 2000000 in
set_option maxRecDepth 100000 in
theorem nobody_any (W : World) (v : Value) (i : Int) (H : Dead W v) :
    Calls Tryd.prog 24 #[v, .int .i64 i] W fun e w' => e = .returned (.bool true) ∧ Below W.heap.size W w' := by
  refine callsIn_wide (n := 3).1 ?_
  have hv : v = .pointer none ∨ ∃ a, v = .pointer (some a) := H.imp id (fun ⟨g, h, _⟩ => ⟨_, h⟩)
  have hall := Lib.hid (callsIn_wide (n := 2).2 (All_any W v hv))
  have HD := Lib.hid H
  clear H hv
  refine callsIn_of_wp_marks Tryd.func24 rfl trivial ?_ rfl
  simp only [Tryd.ntmps24, List.size_toArray, List.length_cons, List.length_nil, Nat.reduceAdd, Nat.reduceSub, Array.replicate_succ, Array.replicate_zero, List.push_toArray, List.append_toArray, List.nil_append, List.cons_append]
  have hn1 := fun w => run_eql_func_nil Tryd.underlying71 (.func 53) #[] #[.pointer (some ⟨W.heap.size, 0, none⟩)] w
  gi_wp2_with (first | (refine ⟨trivial, ?_⟩; gi_at_call 33; refine hall.out.mono ?_; rintro e w1 ⟨rfl, rfl⟩))
  refine rangeFunc_sep (n := 1) rfl (enters_of Tryd.func53 (by kernel_rfl) rfl) (all_dead W.heap.size v) (fun x => rfl) (fun _ _ _ _ h => h) (BoxI (W.heap.size + 1) cnt) no_exit (fun k => k = W.heap.size + 1)
    (fun k hk => by simp; omega) (BoxI.foot _ _) (fun _ _ _ _ _ h _ => h) ⟨by have := heap_alloc_new (W.alloc (.cells #[v] 33)) (.cells #[.int .i64 0] 3); rwa [World.size_alloc] at this, fun k => Iff.rfl⟩ ?iw ?a1 ?assign ?body ?done ?stop
  case assign =>
    intro l x W' K hK
    gi_wp2
    exact hK
  case iw =>
    intro W1 D1 hb hd
    have hb' : Below (W.heap.size + 2) ((W.alloc (.cells #[v] 33)).alloc (.cells #[.int .i64 0] 3)) W1 := by simpa using hb
    have hbw : Below W.heap.size W W1 := (((Below.refl _ W).alloc (Nat.le_refl _) _).alloc (by simp) _).trans (hb'.mono (by omega))
    refine ⟨(hb'.cell (p := ⟨W.heap.size, 0, none⟩) (by simp)).trans (cell_al _ ((cell_of_row _ W.heap.size 0 _ 33 (0, 0) (heap_alloc_new W _)).trans rfl)), HD.out.kept (M := fun _ => False) (.of_below hbw) (fun _ _ => id)⟩
  case body =>
    rintro l pre x W' D ⟨hb, hD⟩ hDl hx hhand hle
    have hcb := heap_cell (cs := [.int .i64 (cnt pre)]) hb 0
    have hfb := heap_free hb 0
    simp only [List.getElem?_cons_zero] at hcb
    gi_wp2
    exact BoxI.stored ⟨hb, hD⟩ hDl (cnt_snoc pre x)
  case done =>
    rintro xs W9 D9 rfl ⟨hb9, hD9⟩ hf9 hdef9 hnd9 hdd9
    have hcb := heap_cell (cs := [.int .i64 (cnt [])]) hb9 0
    simp only [List.getElem?_cons_zero, cnt, List.foldl_nil] at hcb
    have hf : Fr (fun k => k = W.heap.size + 1) W W9 := (Fr.alloc _ W _).trans ((Fr.alloc _ _ _).trans hf9)
    have hd9 : Dead W9 v := HD.out.kept hf (fun g hg h => by have := HD.out.lt g hg; omega)
    have HB9 := Lib.hid (hf.below (fun k hk h => by have h' : k = W.heap.size + 1 := h; omega))
    simp only [World.size_alloc] at hdef9
    have HDF := Lib.hid hdef9
    have HD9 := Lib.hid hd9
    clear hb9 hdef9 hf hd9 hf9
    gi_wp2_with (first | (refine ⟨trivial, ?_⟩; gi_at_call 40; refine (callsIn_wide (n := 2).2 (Room_dead HD9.out)).mono ?_; rintro e w1 ⟨rfl, rfl⟩) | (refine ⟨trivial, ?_⟩; gi_at_call 16; refine (callsIn_wide (n := 2).2 (Put_dead HD9.out _)).mono ?_; rintro e w1 ⟨rfl, rfl⟩) | (refine ⟨trivial, ?_⟩; gi_at_call 35; refine (callsIn_wide (n := 2).2 (Drop_dead HD9.out _)).mono ?_; rintro e w1 ⟨rfl, rfl⟩) | (refine ⟨trivial, ?_⟩; gi_at_call 38; refine (callsIn_wide (n := 2).2 (Has_dead HD9.out _)).mono ?_; rintro e w1 ⟨rfl, rfl⟩) | (refine ⟨trivial, ?_⟩; gi_at_call 21; refine (callsIn_wide (n := 2).2 (Count_dead HD9.out)).mono ?_; rintro e w1 ⟨rfl, rfl⟩) | (refine ⟨trivial, ?_⟩; gi_at_call 32; refine (callsIn_wide (n := 2).2 (Words_dead HD9.out)).mono ?_; rintro e w1 ⟨rfl, rfl⟩) | (refine ⟨trivial, ?_⟩; gi_at_call 20; refine (callsIn_wide (n := 2).2 (Or_dead HD9.out)).mono ?_; rintro e w1 ⟨rfl, rfl⟩) | (refine ⟨trivial, ?_⟩; gi_at_call 19; refine (callsIn_wide (n := 2).2 (And_dead HD9.out)).mono ?_; rintro e w1 ⟨rfl, rfl⟩) | (refine ⟨trivial, ?_⟩; gi_at_call 18; refine (callsIn_wide (n := 2).2 (Without_dead HD9.out)).mono ?_; rintro e w1 ⟨rfl, rfl⟩))
    refine ⟨trivial, ?_⟩
    refine (callsIn_wide (n := 2).2 (Within_dead HD9.out)).mono ?_
    rintro e w1 ⟨rfl, n1, rfl⟩
    gi_wp2_with fail
    refine ⟨trivial, ?_⟩
    refine (callsIn_wide (n := 2).2 (Same_dead (HD9.out.drewN n1))).mono ?_
    rintro e w1 ⟨rfl, n2, rfl⟩
    gi_wp2_with fail
    refine ⟨trivial, ?_⟩
    refine (callsIn_wide (n := 2).2 (Copy_dead (HD9.out.drewN (n1 + n2)))).mono ?_
    rintro e w1 ⟨rfl, rfl⟩
    gi_wp2_with fail
    refine ⟨by simp, .inl ⟨_, _, rfl, run_takeDeferred (show (W9.drewN (n1 + n2)).heap[_]? = _ from HDF.out), ?_⟩⟩
    refine ⟨_, results_tmp rfl _ _ _, rfl, ?_⟩
    have hb : Below W.heap.size W (W9.drewN (n1 + n2)) := ⟨HB9.out.os, HB9.out.tape, HB9.out.output, HB9.out.size, HB9.out.block⟩
    exact below_putObj hb _ _ (by omega)
  case stop => exact fun _ _ _ _ _ h => h.elim
end

set_option maxHeartbeats 1000000 in
theorem BitsNobody_walk (i : Int) (W : World) (hT : Tab W) :
    Calls Tryd.prog 6 #[.int .i64 i] W fun e w' => e = .returned (.bool true) ∧ Below W.heap.size W w' := by
  have h1 := Lib.hid (nobody_any W (.pointer none) i (.inl rfl))
  have hT0 := Lib.hid hT
  clear hT
  go_enter Tryd.func6, Tryd.ntmps6
  go_wp2_with fail
  refine h1.out.mono ?_
  rintro e w1 ⟨rfl, hb1⟩
  clear h1
  go_wp2_with fail
  have hz : Dead (w1.alloc (.cells #[.int .i64 0, .slice none 0 0, .bool false] 55)) (.pointer (some ⟨w1.heap.size, 0, none⟩)) := .inr ⟨_, rfl, (cell_of_row _ w1.heap.size 2 _ 55 (0, 0) (heap_alloc_new w1 _)).trans rfl⟩
  refine (nobody_any _ _ i hz).mono ?_
  rintro e w2 ⟨rfl, hb2⟩
  have hb12 : Below W.heap.size W w2 := (hb1.alloc hb1.size _).trans (hb2.mono (by simp; have := hb1.size; omega))
  have hh := Lib.hid (heads_any w2 (hT0.out.kept (M := fun _ => False) (.of_below hb12) id))
  have HB := Lib.hid hb12
  clear hz hb1 hb2 hb12
  go_wp2_with fail
  refine hh.out.mono ?_
  rintro e w3 ⟨rfl, hb3⟩
  clear hh
  go_wp2_with fail
  go_ret
  exact ⟨rfl, HB.out.trans (hb3.mono HB.out.size)⟩
end Go.Proofs.YthfapneifbjlmaaDoor
