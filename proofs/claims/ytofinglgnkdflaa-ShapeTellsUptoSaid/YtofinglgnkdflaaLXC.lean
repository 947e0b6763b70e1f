/- Layer 7: right: is an event right? Its own law in plain words; the walk. -/
import Derived.Deep.RegionHeld3
import Derived.Test.YtofinglgnkdflaaLXK
section
namespace Go.Proofs.Ytofinglgnkdflaa
section
variable {P : Program} {md : Region.Mode} {ops : Array Oper} {Q : Exit → Act → World → Prop} {S : World → Prop}
theorem takeH {v : Value} {fuel : Nat} {listed : Array Bool} {a : Act} {w : World} (i : Nat) {oi : Oper} {rest : List Oper} (hi : ops.toList.drop i = oi :: rest)
    (hk : (Region.noSelect ops && Region.free md ops listed i && (Region.ready md ops listed).contains i) = true)
    (hQ : ∀ c a w, Q (.panic c) (a.put oi.dst v) w → Q (.panic c) a w) (hS : S w) (hy : YieldsIf P ops S oi v a)
    (h : wpAnyH P md ops Q S fuel (listed.setIfInBounds i true) (a.put oi.dst v) w) : wpAnyH P md ops Q S (fuel + 1) listed a w := by
  rw [Bool.and_eq_true, Bool.and_eq_true] at hk
  refine wpAnyH_take (i := i) ?_ hk.1.1 hk.1.2 hk.2 hQ hy hS h
  rw [← Array.getElem?_toList]
  have h2 := congrArg (fun l => l[0]?) hi
  simpa using h2
theorem runH {v : Value} {fuel : Nat} {listed : Array Bool} {a : Act} {w : World} (i : Nat) {oi : Oper} {rest : List Oper} (hi : ops.toList.drop i = oi :: rest)
    (hk : (Region.noSelect ops && Region.free md ops listed i && (Region.ready md ops listed).contains i) = true)
    (hQ : ∀ c a w, Q (.panic c) (a.put oi.dst v) w → Q (.panic c) a w) (hS : S w) (hw : Region.wanted oi (yielded ops a.tmps) = true) (hy : ∀ w, S w → (execOp a.eval oi).run P w = .ok (.value v) w)
    (h : wpAnyH P md ops Q S fuel (listed.setIfInBounds i true) (a.put oi.dst v) w) : wpAnyH P md ops Q S (fuel + 1) listed a w :=
  takeH i hi hk hQ hS (Or.inl ⟨hw, hy⟩) h
theorem skipH {fuel : Nat} {listed : Array Bool} {a : Act} {w : World} (i : Nat) {oi : Oper} {rest : List Oper} (hi : ops.toList.drop i = oi :: rest)
    (hk : (Region.noSelect ops && Region.free md ops listed i && (Region.ready md ops listed).contains i) = true)
    (hQ : ∀ c a w, Q (.panic c) (a.put oi.dst undef) w → Q (.panic c) a w) (hS : S w) (hw : Region.wanted oi (yielded ops a.tmps) = false)
    (h : wpAnyH P md ops Q S fuel (listed.setIfInBounds i true) (a.put oi.dst undef) w) : wpAnyH P md ops Q S (fuel + 1) listed a w :=
  takeH i hi hk hQ hS (Or.inr ⟨hw, rfl⟩) h
end
end Go.Proofs.Ytofinglgnkdflaa
end
section
namespace Go.Proofs.Ytofinglgnkdflaa
open Go.RowKit
open Go.Proofs.Ytofinglgnkdflaa.PHistoryChecks Go.Proofs.YtofinglgnkdflaaW.PrintWords Go.Proofs.YtofinglgnkdflaaW.PrintLast Go.Proofs.YtofinglgnkdflaaW.PrintMore
set_option linter.unusedVariables false
set_option linter.unusedSimpArgs false
def prevOf (l : List S43) (i : Int) : Option S43 := if i = 0 then none else some (rd_T43 l (i - 1))
theorem formL_from (s : Bool) (l : List S43) (i : Int) (h0 : 0 ≤ i) (h1 : i < (l.length : Int)) :
    formL s (prevOf l i) (l.drop i.toNat) = (formV (rd_T43 l i) && riseB s (prevOf l i) (rd_T43 l i) && formL s (prevOf l (i + 1)) (l.drop (i + 1).toNat)) := by
  have hn : i.toNat < l.length := by omega
  have e : (i + 1).toNat = i.toNat + 1 := by omega
  have hp : prevOf l (i + 1) = some (rd_T43 l i) := by unfold prevOf; rw [if_neg (by omega), show i + 1 - 1 = i by omega]
  rw [hp, e, List.drop_eq_getElem_cons hn]
  simp only [formL]
  unfold rd_T43
  rw [List.getD_eq_getElem?_getD, List.getElem?_eq_getElem hn]; rfl
theorem formL_end (s : Bool) (l : List S43) (i : Int) (h1 : ¬ i < (l.length : Int)) : formL s (prevOf l i) (l.drop i.toNat) = true := by
  rw [List.drop_eq_nil_of_le (by omega)]; simp [formL]
set_option maxHeartbeats 8000000 in
set_option maxRecDepth 100000 in
theorem formed_items (k : Nat) (ih : ∀ (v : S43) (A : Option Addr) (c : Nat) (W : World), nd v ≤ k → okT v → Kd.C k43 W A v.f4.length v.f4 → v.f4.length ≤ c → Calls Try.prog 101 #[v43 v A c] W (FormP v W))
    (v : S43) (A : Option Addr) (c : Nat) (W : World) (hk : nd v ≤ k + 1) (hT : okT v) (hC : Kd.C k43 W A v.f4.length v.f4) (hc : v.f4.length ≤ c) (k5 : v.f0 = 5 ∨ v.f0 = 6 ∨ v.f0 = 7) :
    Calls Try.prog 101 #[v43 v A c] W (FormP v W) := by
  have hT' := hT
  rw [okT_eq] at hT'
  obtain ⟨hts, hTL⟩ := hT'
  have HTL := Lib.hid hTL
  have hlen := Kd.C_max hC
  have HE := Lib.hid (formV_eq v)
  have he1 : v.f3.toList.isEmpty = true ∨ v.f3.toList.isEmpty = false := by cases v.f3.toList.isEmpty <;> simp
  have n1 : (v.f0 == 1) = false := by rw [beq_eq_false_iff_ne]; omega
  have n2 : (v.f0 == 2) = false := by rw [beq_eq_false_iff_ne]; omega
  have n3 : (v.f0 == 3) = false := by rw [beq_eq_false_iff_ne]; omega
  have n4 : (v.f0 == 4) = false := by rw [beq_eq_false_iff_ne]; omega
  have K1 := Lib.hid (show formV v = (decide (v.f1 = 0) && decide (v.f2 = 0) && emB v.f3 && formL (decide (v.f0 = 7)) none v.f4) from by rw [HE.out, if_neg (by omega), if_neg (by omega), if_neg (by omega), if_neg (by omega), if_pos k5])
  have hks : ((v.f0 == 5) = true ∧ (v.f0 == 5) = true ∧ (v.f0 == 7) = false ∧ decide (v.f0 = 7) = false) ∨ ((v.f0 == 5) = false ∧ (v.f0 == 6) = true ∧ (v.f0 == 7) = false ∧ decide (v.f0 = 7) = false) ∨ ((v.f0 == 5) = false ∧ (v.f0 == 6) = false ∧ (v.f0 == 7) = true ∧ decide (v.f0 = 7) = true) := by
    rcases k5 with h | h | h
    · left; rw [h]; decide
    · right; left; rw [h]; decide
    · right; right; rw [h]; decide
  unfold v43
  clear hT hTL k5 HE
  go_enter Try.func101, Try.ntmps101
  by_cases hi : v.f1 = 0
  · by_cases hm : v.f2 = 0
    · rcases he1 with e1 | e1
      · have hi' : (v.f1 != 0) = false := by rw [bne_eq_false_iff_eq]; exact hi
        have hm' : (v.f2 != 0) = false := by rw [bne_eq_false_iff_eq]; exact hm
        have K2 := Lib.hid (show formV v = formL (decide (v.f0 = 7)) (prevOf v.f4 0) (v.f4.drop (0 : Int).toNat) from by rw [K1.out, hi, hm]; unfold emB; rw [e1]; simp [prevOf])
        clear hi hm K1
        have hcutI := K2
        go_upto_block 0 with (fail)
        go_cut [77, 78, 79, 80] (fun _ _ _ _ wc => Hid (wc = W.alloc (.cells #[.int .i64 v.f0, .int .i64 v.f1, .int .i64 v.f2, .string v.f3, .slice A v.f4.length c] 43)))
        case first =>
          rcases hks with ⟨q5, q6, q7, qd⟩ | ⟨q5, q6, q7, qd⟩ | ⟨q5, q6, q7, qd⟩
          all_goals go_wp2
          all_goals go_meet
          all_goals exact rfl
        case rest =>
        have hcut' := hcut.out
        subst hcut'
        clear hcut
        obtain ⟨sk, hsk7, hskd⟩ : ∃ sk, (v.f0 == 7) = sk ∧ decide (v.f0 = 7) = sk := ⟨_, rfl, by rw [Bool.eq_iff_iff]; simp⟩
        rw [hskd] at K2
        clear hks hskd hcutI
        go_wp2
        obtain ⟨W2, hW2⟩ : ∃ W2, W2 = W.alloc (.cells #[.int .i64 v.f0, .int .i64 v.f1, .int .i64 v.f2, .string v.f3, .slice A v.f4.length c] 43) := ⟨_, rfl⟩
        have hA2 : W2.heap[W.heap.size]? = some (.cells #[.int .i64 v.f0, .int .i64 v.f1, .int .i64 v.f2, .string v.f3, .slice A v.f4.length c] 43 (0, 0)) := by rw [hW2]; exact heap_alloc_new W _
        have hb2 : Below W.heap.size W W2 := by rw [hW2]; exact below_alloc (Below.refl _ _) _
        rw [← hW2]
        clear hW2
        have HA2 := Lib.hid hA2
        have HB2 := Lib.hid hb2
        have hsz2 : W.heap.size < W2.heap.size := blk_lt hA2
        clear hA2 hb2 e1
        go_loopw [97, 5, 4] (fun iv bv nv wr => ∃ i : Int, iv = .int .i64 i ∧ 0 ≤ i ∧ i ≤ (v.f4.length : Int) ∧ Hid (formV v = formL sk (prevOf v.f4 i) (v.f4.drop i.toNat)) ∧ Hid (Below W2.heap.size W2 wr)) (fun i _ _ _ => v.f4.length - (intOf i).toNat)
        case atStart => exact ⟨0, rfl, by omega, by omega, K2.out, Below.refl _ _⟩
        case round =>
          obtain ⟨i, rfl, hi0, hi1, HI, HW⟩ := hrel
          have hszr : W.heap.size < wr.heap.size := Nat.lt_of_lt_of_le hsz2 HW.out.size
          have HWW := Lib.hid (show Below W.heap.size W wr from HB2.out.trans (HW.out.mono HB2.out.size))
          by_cases hlt : i < (v.f4.length : Int)
          · have hbx := (HW.out.block _ hsz2).trans HA2.out
            have cv0 : wr.cell? ⟨W.heap.size, 0, none⟩ = some (.int .i64 v.f0) := (blk_cell hbx 0).trans rfl
            have cv4 : wr.cell? ⟨W.heap.size, 4, none⟩ = some (.slice A v.f4.length c) := (blk_cell hbx 4).trans rfl
            have hCr := Kd.C_below hC HWW.out
            have HCr := Lib.hid hCr
            have hxa := at_T43 hCr i hi0 hlt
            obtain ⟨ad, A4, c4, rfl, x0, x1, x2, x3, x4, hl4, hF4⟩ := hxa
            have hmem := rd_mem v.f4 i hi0 hlt
            have hnd : nd (rd_T43 v.f4 i) ≤ k := by have := ndL_mem _ _ hmem; have := nd_eq v; omega
            have hstep := Lib.hid (formL_from sk v.f4 i hi0 hlt)
            have HTx := Lib.hid (okTL_mem _ HTL.out _ hmem)
            obtain ⟨x, hx⟩ : ∃ x, x = rd_T43 v.f4 i := ⟨_, rfl⟩
            rw [← hx] at x0 x1 x2 x3 x4 hl4 hF4 hnd hstep HTx
            have hcall := Lib.hid (fun W4 (h : Below wr.heap.size wr W4) => ih x A4 c4 W4 hnd HTx.out (Kd.C_below hF4 h) hl4)
            have HL4 := Lib.hid hl4
            have HF4 := Lib.hid hF4
            unfold v43 at hcall
            clear hmem hnd hx hl4 hF4 hCr hbx
            go_wp2
            obtain ⟨W5, hW5⟩ : ∃ W5, W5 = wr.alloc (.cells #[.int .i64 x.f0, .int .i64 x.f1, .int .i64 x.f2, .string x.f3, .slice A4 x.f4.length c4] 43) := ⟨_, rfl⟩
            have hx5 : W5.heap[wr.heap.size]? = some (.cells #[.int .i64 x.f0, .int .i64 x.f1, .int .i64 x.f2, .string x.f3, .slice A4 x.f4.length c4] 43 (0, 0)) := by rw [hW5]; exact heap_alloc_new wr _
            have hb5 : Below wr.heap.size wr W5 := by rw [hW5]; exact below_alloc (Below.refl _ _) _
            rw [← hW5]
            clear hW5
            have z0 : W5.cell? ⟨wr.heap.size, 0, none⟩ = some (.int .i64 x.f0) := (blk_cell hx5 0).trans rfl
            have z1 : W5.cell? ⟨wr.heap.size, 1, none⟩ = some (.int .i64 x.f1) := (blk_cell hx5 1).trans rfl
            have z2 : W5.cell? ⟨wr.heap.size, 2, none⟩ = some (.int .i64 x.f2) := (blk_cell hx5 2).trans rfl
            have z3 : W5.cell? ⟨wr.heap.size, 3, none⟩ = some (.string x.f3) := (blk_cell hx5 3).trans rfl
            have z4 : W5.cell? ⟨wr.heap.size, 4, none⟩ = some (.slice A4 x.f4.length c4) := (blk_cell hx5 4).trans rfl
            have cv0' := pw_cell_below hb5 cv0
            have cv4' := pw_cell_below hb5 cv4
            have HB5 := Lib.hid hb5
            have HX5 := Lib.hid hx5
            clear x0 x1 x2 x3 x4 cv0 cv4 hx5 hb5
            obtain ⟨fx, hfx⟩ : ∃ b, b = formV x := ⟨_, rfl⟩
            have HCf := Lib.hid (show Calls Try.prog 101 #[.agg #[.int .i64 x.f0, .int .i64 x.f1, .int .i64 x.f2, .string x.f3, .slice A4 x.f4.length c4]] W5.drew (fun e w1 => e = .returned (.bool fx) ∧ Below W5.drew.heap.size W5.drew w1) from by rw [hfx]; exact hcall.out W5.drew (below_drew HB5.out))
            rw [← hfx] at hstep
            clear hfx hcall
            have HW6 := Lib.hid (fun w1 (hb1 : Below W5.drew.heap.size W5.drew w1) => show Below W2.heap.size W2 w1 from HW.out.trans (((below_drew HB5.out).trans (hb1.mono HB5.out.size)).mono HW.out.size))
            have HWW6 := Lib.hid (fun w1 (hb1 : Below W5.drew.heap.size W5.drew w1) => show Below W.heap.size W w1 from HWW.out.trans (((below_drew HB5.out).trans (hb1.mono HB5.out.size)).mono HWW.out.size))
            cases fx
            · have HR := Lib.hid (show formV v = false from by rw [HI.out, hstep.out]; simp)
              refine wp_region_held_drew (S := (fun w => w.cell? ⟨wr.heap.size, 0, none⟩ = some (.int .i64 x.f0) ∧ w.cell? ⟨wr.heap.size, 1, none⟩ = some (.int .i64 x.f1) ∧ w.cell? ⟨wr.heap.size, 2, none⟩ = some (.int .i64 x.f2) ∧ w.cell? ⟨wr.heap.size, 3, none⟩ = some (.string x.f3) ∧ w.cell? ⟨wr.heap.size, 4, none⟩ = some (.slice A4 x.f4.length c4) ∧ w.cell? ⟨W.heap.size, 4, none⟩ = some (.slice (some ad) v.f4.length c) ∧ w.cell? ⟨W.heap.size, 0, none⟩ = some (.int .i64 v.f0))) (by kernel_rfl) ?_ (fun hHeld => ?_)
              · exact ⟨z0, z1, z2, z3, z4, cv4', cv0'⟩
              refine runH 0 (v := ?va0) rfl (by kernel_rfl) (fun _ _ _ h => h) (by assumption) (by rfl) ?ya0 ?ra0
              case ya0 => (intro w hSw; (try dsimp only at hSw); go_simp; try with_reducible rfl)
              try simp only [Act.put, List.setIfInBounds_toArray, List.set_cons_zero, List.set_cons_succ]
              refine wpAnyH_ready (rs := [1]) (by kernel_rfl) (by simp) ?_
              refine AllReadyH.cons rfl (fun K hK => ?_) AllReadyH.nil
              go_simp
              go_at_call 101; refine (HCf.out).mono ?_; rintro e w1 ⟨rfl, hb1⟩
              go_wp2_with fail
              refine hK.out _ _ ?_ (fun hHeld2 => ?_)
              · exact ⟨pw_cell_below hb1 z0, pw_cell_below hb1 z1, pw_cell_below hb1 z2, pw_cell_below hb1 z3, pw_cell_below hb1 z4, pw_cell_below hb1 cv4', pw_cell_below hb1 cv0'⟩
              clear hK K hHeld
              rename _ => hHeld
              try simp only [Act.put, List.setIfInBounds_toArray, List.set_cons_zero, List.set_cons_succ]
              refine runH 2 (v := ?va2) rfl (by kernel_rfl) (fun _ _ _ h => h) (by assumption) (by rfl) ?ya2 ?ra2
              case ya2 => (intro w hSw; (try dsimp only at hSw); go_simp; try with_reducible rfl)
              try simp only [Act.put, List.setIfInBounds_toArray, List.set_cons_zero, List.set_cons_succ]
              refine runH 3 (v := ?va3) rfl (by kernel_rfl) (fun _ _ _ h => h) (by assumption) (by rfl) ?ya3 ?ra3
              case ya3 => (intro w hSw; (try dsimp only at hSw); go_simp; try with_reducible rfl)
              try simp only [Act.put, List.setIfInBounds_toArray, List.set_cons_zero, List.set_cons_succ]
              refine skipH 4 rfl (by kernel_rfl) (fun _ _ _ h => h) (by assumption) (by rfl) ?_
              try simp only [Act.put, List.setIfInBounds_toArray, List.set_cons_zero, List.set_cons_succ]
              refine skipH 5 rfl (by kernel_rfl) (fun _ _ _ h => h) (by assumption) (by rfl) ?_
              try simp only [Act.put, List.setIfInBounds_toArray, List.set_cons_zero, List.set_cons_succ]
              refine skipH 6 rfl (by kernel_rfl) (fun _ _ _ h => h) (by assumption) (by rfl) ?_
              try simp only [Act.put, List.setIfInBounds_toArray, List.set_cons_zero, List.set_cons_succ]
              refine skipH 7 rfl (by kernel_rfl) (fun _ _ _ h => h) (by assumption) (by rfl) ?_
              try simp only [Act.put, List.setIfInBounds_toArray, List.set_cons_zero, List.set_cons_succ]
              refine skipH 8 rfl (by kernel_rfl) (fun _ _ _ h => h) (by assumption) (by rfl) ?_
              try simp only [Act.put, List.setIfInBounds_toArray, List.set_cons_zero, List.set_cons_succ]
              refine skipH 9 rfl (by kernel_rfl) (fun _ _ _ h => h) (by assumption) (by rfl) ?_
              try simp only [Act.put, List.setIfInBounds_toArray, List.set_cons_zero, List.set_cons_succ]
              refine skipH 10 rfl (by kernel_rfl) (fun _ _ _ h => h) (by assumption) (by rfl) ?_
              try simp only [Act.put, List.setIfInBounds_toArray, List.set_cons_zero, List.set_cons_succ]
              refine skipH 11 rfl (by kernel_rfl) (fun _ _ _ h => h) (by assumption) (by rfl) ?_
              try simp only [Act.put, List.setIfInBounds_toArray, List.set_cons_zero, List.set_cons_succ]
              refine skipH 12 rfl (by kernel_rfl) (fun _ _ _ h => h) (by assumption) (by rfl) ?_
              try simp only [Act.put, List.setIfInBounds_toArray, List.set_cons_zero, List.set_cons_succ]
              refine skipH 13 rfl (by kernel_rfl) (fun _ _ _ h => h) (by assumption) (by rfl) ?_
              try simp only [Act.put, List.setIfInBounds_toArray, List.set_cons_zero, List.set_cons_succ]
              refine skipH 14 rfl (by kernel_rfl) (fun _ _ _ h => h) (by assumption) (by rfl) ?_
              try simp only [Act.put, List.setIfInBounds_toArray, List.set_cons_zero, List.set_cons_succ]
              refine skipH 15 rfl (by kernel_rfl) (fun _ _ _ h => h) (by assumption) (by rfl) ?_
              try simp only [Act.put, List.setIfInBounds_toArray, List.set_cons_zero, List.set_cons_succ]
              refine skipH 16 rfl (by kernel_rfl) (fun _ _ _ h => h) (by assumption) (by rfl) ?_
              try simp only [Act.put, List.setIfInBounds_toArray, List.set_cons_zero, List.set_cons_succ]
              refine skipH 17 rfl (by kernel_rfl) (fun _ _ _ h => h) (by assumption) (by rfl) ?_
              try simp only [Act.put, List.setIfInBounds_toArray, List.set_cons_zero, List.set_cons_succ]
              refine skipH 18 rfl (by kernel_rfl) (fun _ _ _ h => h) (by assumption) (by rfl) ?_
              try simp only [Act.put, List.setIfInBounds_toArray, List.set_cons_zero, List.set_cons_succ]
              refine skipH 19 rfl (by kernel_rfl) (fun _ _ _ h => h) (by assumption) (by rfl) ?_
              try simp only [Act.put, List.setIfInBounds_toArray, List.set_cons_zero, List.set_cons_succ]
              refine skipH 20 rfl (by kernel_rfl) (fun _ _ _ h => h) (by assumption) (by rfl) ?_
              try simp only [Act.put, List.setIfInBounds_toArray, List.set_cons_zero, List.set_cons_succ]
              refine skipH 21 rfl (by kernel_rfl) (fun _ _ _ h => h) (by assumption) (by rfl) ?_
              try simp only [Act.put, List.setIfInBounds_toArray, List.set_cons_zero, List.set_cons_succ]
              refine runH 22 (v := ?va22) rfl (by kernel_rfl) (fun _ _ _ h => h) (by assumption) (by rfl) ?ya22 ?ra22
              case ya22 => (intro w hSw; (try dsimp only at hSw); go_simp; try with_reducible rfl)
              try simp only [Act.put, List.setIfInBounds_toArray, List.set_cons_zero, List.set_cons_succ]
              refine wpAnyH_done (by kernel_rfl) ?_ _
              go_wp2
              go_ret
              exact ⟨by rw [HR.out]; rfl, HWW6.out w1 hb1⟩
            · cases sk
              · have HN := Lib.hid (show formV v = formL false (prevOf v.f4 (i + 1)) (v.f4.drop (i + 1).toNat) from by rw [HI.out, hstep.out]; simp [riseB])
                refine wp_region_held_drew (S := (fun w => w.cell? ⟨wr.heap.size, 0, none⟩ = some (.int .i64 x.f0) ∧ w.cell? ⟨wr.heap.size, 1, none⟩ = some (.int .i64 x.f1) ∧ w.cell? ⟨wr.heap.size, 2, none⟩ = some (.int .i64 x.f2) ∧ w.cell? ⟨wr.heap.size, 3, none⟩ = some (.string x.f3) ∧ w.cell? ⟨wr.heap.size, 4, none⟩ = some (.slice A4 x.f4.length c4) ∧ w.cell? ⟨W.heap.size, 4, none⟩ = some (.slice (some ad) v.f4.length c) ∧ w.cell? ⟨W.heap.size, 0, none⟩ = some (.int .i64 v.f0))) (by kernel_rfl) ?_ (fun hHeld => ?_)
                · exact ⟨z0, z1, z2, z3, z4, cv4', cv0'⟩
                refine runH 0 (v := ?vb0) rfl (by kernel_rfl) (fun _ _ _ h => h) (by assumption) (by rfl) ?yb0 ?rb0
                case yb0 => (intro w hSw; (try dsimp only at hSw); go_simp; try with_reducible rfl)
                try simp only [Act.put, List.setIfInBounds_toArray, List.set_cons_zero, List.set_cons_succ]
                refine wpAnyH_ready (rs := [1]) (by kernel_rfl) (by simp) ?_
                refine AllReadyH.cons rfl (fun K hK => ?_) AllReadyH.nil
                go_simp
                go_at_call 101; refine (HCf.out).mono ?_; rintro e w1 ⟨rfl, hb1⟩
                go_wp2_with fail
                refine hK.out _ _ ?_ (fun hHeld2 => ?_)
                · exact ⟨pw_cell_below hb1 z0, pw_cell_below hb1 z1, pw_cell_below hb1 z2, pw_cell_below hb1 z3, pw_cell_below hb1 z4, pw_cell_below hb1 cv4', pw_cell_below hb1 cv0'⟩
                clear hK K hHeld
                rename _ => hHeld
                try simp only [Act.put, List.setIfInBounds_toArray, List.set_cons_zero, List.set_cons_succ]
                refine runH 2 (v := ?vb2) rfl (by kernel_rfl) (fun _ _ _ h => h) (by assumption) (by rfl) ?yb2 ?rb2
                case yb2 => (intro w hSw; (try dsimp only at hSw); go_simp; try with_reducible rfl)
                try simp only [Act.put, List.setIfInBounds_toArray, List.set_cons_zero, List.set_cons_succ]
                refine runH 3 (v := ?vb3) rfl (by kernel_rfl) (fun _ _ _ h => h) (by assumption) (by rfl) ?yb3 ?rb3
                case yb3 => (intro w hSw; (try dsimp only at hSw); go_simp; try with_reducible rfl)
                try simp only [Act.put, List.setIfInBounds_toArray, List.set_cons_zero, List.set_cons_succ]
                refine runH 4 (v := ?vb4) rfl (by kernel_rfl) (fun _ _ _ h => h) (by assumption) (by rfl) ?yb4 ?rb4
                case yb4 => (intro w hSw; (try dsimp only at hSw); go_simp; try with_reducible rfl)
                try simp only [Act.put, List.setIfInBounds_toArray, List.set_cons_zero, List.set_cons_succ]
                refine runH 5 (v := ?vb5) rfl (by kernel_rfl) (fun _ _ _ h => h) (by assumption) (by rfl) ?yb5 ?rb5
                case yb5 => (intro w hSw; (try dsimp only at hSw); go_simp; try with_reducible rfl)
                try simp only [Act.put, List.setIfInBounds_toArray, List.set_cons_zero, List.set_cons_succ]
                refine runH 6 (v := ?vb6) rfl (by kernel_rfl) (fun _ _ _ h => h) (by assumption) (by rfl) ?yb6 ?rb6
                case yb6 => (intro w hSw; (try dsimp only at hSw); go_simp; try with_reducible rfl)
                try simp only [Act.put, List.setIfInBounds_toArray, List.set_cons_zero, List.set_cons_succ]
                refine runH 7 (v := ?vb7) rfl (by kernel_rfl) (fun _ _ _ h => h) (by assumption) (by rfl) ?yb7 ?rb7
                case yb7 => (intro w hSw; (try dsimp only at hSw); go_simp; try with_reducible rfl)
                try simp only [Act.put, List.setIfInBounds_toArray, List.set_cons_zero, List.set_cons_succ]
                refine skipH 8 rfl (by kernel_rfl) (fun _ _ _ h => h) (by assumption) (by rfl) ?_
                try simp only [Act.put, List.setIfInBounds_toArray, List.set_cons_zero, List.set_cons_succ]
                refine skipH 9 rfl (by kernel_rfl) (fun _ _ _ h => h) (by assumption) (by rfl) ?_
                try simp only [Act.put, List.setIfInBounds_toArray, List.set_cons_zero, List.set_cons_succ]
                refine runH 10 (v := ?vb10) rfl (by kernel_rfl) (fun _ _ _ h => h) (by assumption) (by rfl) ?yb10 ?rb10
                case yb10 => (intro w hSw; (try dsimp only at hSw); go_simp; try with_reducible rfl)
                try simp only [Act.put, List.setIfInBounds_toArray, List.set_cons_zero, List.set_cons_succ]
                refine runH 11 (v := ?vb11) rfl (by kernel_rfl) (fun _ _ _ h => h) (by assumption) (by rfl) ?yb11 ?rb11
                case yb11 => (intro w hSw; (try dsimp only at hSw); go_simp; try with_reducible rfl)
                try simp only [Act.put, List.setIfInBounds_toArray, List.set_cons_zero, List.set_cons_succ]
                refine skipH 12 rfl (by kernel_rfl) (fun _ _ _ h => h) (by assumption) (by rfl) ?_
                try simp only [Act.put, List.setIfInBounds_toArray, List.set_cons_zero, List.set_cons_succ]
                refine skipH 13 rfl (by kernel_rfl) (fun _ _ _ h => h) (by assumption) (by rfl) ?_
                try simp only [Act.put, List.setIfInBounds_toArray, List.set_cons_zero, List.set_cons_succ]
                refine skipH 14 rfl (by kernel_rfl) (fun _ _ _ h => h) (by assumption) (by rfl) ?_
                try simp only [Act.put, List.setIfInBounds_toArray, List.set_cons_zero, List.set_cons_succ]
                refine skipH 15 rfl (by kernel_rfl) (fun _ _ _ h => h) (by assumption) (by rfl) ?_
                try simp only [Act.put, List.setIfInBounds_toArray, List.set_cons_zero, List.set_cons_succ]
                refine skipH 16 rfl (by kernel_rfl) (fun _ _ _ h => h) (by assumption) (by rfl) ?_
                try simp only [Act.put, List.setIfInBounds_toArray, List.set_cons_zero, List.set_cons_succ]
                refine skipH 17 rfl (by kernel_rfl) (fun _ _ _ h => h) (by assumption) (by rfl) ?_
                try simp only [Act.put, List.setIfInBounds_toArray, List.set_cons_zero, List.set_cons_succ]
                refine skipH 18 rfl (by kernel_rfl) (fun _ _ _ h => h) (by assumption) (by rfl) ?_
                try simp only [Act.put, List.setIfInBounds_toArray, List.set_cons_zero, List.set_cons_succ]
                refine skipH 19 rfl (by kernel_rfl) (fun _ _ _ h => h) (by assumption) (by rfl) ?_
                try simp only [Act.put, List.setIfInBounds_toArray, List.set_cons_zero, List.set_cons_succ]
                refine skipH 20 rfl (by kernel_rfl) (fun _ _ _ h => h) (by assumption) (by rfl) ?_
                try simp only [Act.put, List.setIfInBounds_toArray, List.set_cons_zero, List.set_cons_succ]
                refine runH 21 (v := ?vb21) rfl (by kernel_rfl) (fun _ _ _ h => h) (by assumption) (by rfl) ?yb21 ?rb21
                case yb21 => (intro w hSw; (try dsimp only at hSw); go_simp; try with_reducible rfl)
                try simp only [Act.put, List.setIfInBounds_toArray, List.set_cons_zero, List.set_cons_succ]
                refine runH 22 (v := ?vb22) rfl (by kernel_rfl) (fun _ _ _ h => h) (by assumption) (by rfl) ?yb22 ?rb22
                case yb22 => (intro w hSw; (try dsimp only at hSw); go_simp; try with_reducible rfl)
                try simp only [Act.put, List.setIfInBounds_toArray, List.set_cons_zero, List.set_cons_succ]
                refine wpAnyH_done (by kernel_rfl) ?_ _
                go_wp2
                go_roundw
                case rel => exact ⟨i + 1, rfl, by omega, by omega, HN.out, HW6.out w1 hb1⟩
                case measure => simp [intOf]; omega
              · by_cases hi0' : i = 0
                · have HN := Lib.hid (show formV v = formL true (prevOf v.f4 (i + 1)) (v.f4.drop (i + 1).toNat) from by rw [HI.out, hstep.out]; simp [riseB, prevOf, hi0'])
                  have hd0 : decide (0 < i) = false := decide_eq_false (by omega)
                  clear hi0'
                  refine wp_region_held_drew (S := (fun w => w.cell? ⟨wr.heap.size, 0, none⟩ = some (.int .i64 x.f0) ∧ w.cell? ⟨wr.heap.size, 1, none⟩ = some (.int .i64 x.f1) ∧ w.cell? ⟨wr.heap.size, 2, none⟩ = some (.int .i64 x.f2) ∧ w.cell? ⟨wr.heap.size, 3, none⟩ = some (.string x.f3) ∧ w.cell? ⟨wr.heap.size, 4, none⟩ = some (.slice A4 x.f4.length c4) ∧ w.cell? ⟨W.heap.size, 4, none⟩ = some (.slice (some ad) v.f4.length c) ∧ w.cell? ⟨W.heap.size, 0, none⟩ = some (.int .i64 v.f0))) (by kernel_rfl) ?_ (fun hHeld => ?_)
                  · exact ⟨z0, z1, z2, z3, z4, cv4', cv0'⟩
                  refine runH 0 (v := ?vc0) rfl (by kernel_rfl) (fun _ _ _ h => h) (by assumption) (by rfl) ?yc0 ?rc0
                  case yc0 => (intro w hSw; (try dsimp only at hSw); go_simp; try with_reducible rfl)
                  try simp only [Act.put, List.setIfInBounds_toArray, List.set_cons_zero, List.set_cons_succ]
                  refine wpAnyH_ready (rs := [1]) (by kernel_rfl) (by simp) ?_
                  refine AllReadyH.cons rfl (fun K hK => ?_) AllReadyH.nil
                  go_simp
                  go_at_call 101; refine (HCf.out).mono ?_; rintro e w1 ⟨rfl, hb1⟩
                  go_wp2_with fail
                  refine hK.out _ _ ?_ (fun hHeld2 => ?_)
                  · exact ⟨pw_cell_below hb1 z0, pw_cell_below hb1 z1, pw_cell_below hb1 z2, pw_cell_below hb1 z3, pw_cell_below hb1 z4, pw_cell_below hb1 cv4', pw_cell_below hb1 cv0'⟩
                  clear hK K hHeld
                  rename _ => hHeld
                  try simp only [Act.put, List.setIfInBounds_toArray, List.set_cons_zero, List.set_cons_succ]
                  refine runH 2 (v := ?vc2) rfl (by kernel_rfl) (fun _ _ _ h => h) (by assumption) (by rfl) ?yc2 ?rc2
                  case yc2 => (intro w hSw; (try dsimp only at hSw); go_simp; try with_reducible rfl)
                  try simp only [Act.put, List.setIfInBounds_toArray, List.set_cons_zero, List.set_cons_succ]
                  refine runH 3 (v := ?vc3) rfl (by kernel_rfl) (fun _ _ _ h => h) (by assumption) (by rfl) ?yc3 ?rc3
                  case yc3 => (intro w hSw; (try dsimp only at hSw); go_simp; try with_reducible rfl)
                  try simp only [Act.put, List.setIfInBounds_toArray, List.set_cons_zero, List.set_cons_succ]
                  refine runH 4 (v := ?vc4) rfl (by kernel_rfl) (fun _ _ _ h => h) (by assumption) (by rfl) ?yc4 ?rc4
                  case yc4 => (intro w hSw; (try dsimp only at hSw); go_simp; try with_reducible rfl)
                  try simp only [Act.put, List.setIfInBounds_toArray, List.set_cons_zero, List.set_cons_succ]
                  refine runH 5 (v := ?vc5) rfl (by kernel_rfl) (fun _ _ _ h => h) (by assumption) (by rfl) ?yc5 ?rc5
                  case yc5 => (intro w hSw; (try dsimp only at hSw); go_simp; try with_reducible rfl)
                  try simp only [Act.put, List.setIfInBounds_toArray, List.set_cons_zero, List.set_cons_succ]
                  refine runH 6 (v := ?vc6) rfl (by kernel_rfl) (fun _ _ _ h => h) (by assumption) (by rfl) ?yc6 ?rc6
                  case yc6 => (intro w hSw; (try dsimp only at hSw); go_simp; try with_reducible rfl)
                  try simp only [Act.put, List.setIfInBounds_toArray, List.set_cons_zero, List.set_cons_succ]
                  refine runH 7 (v := ?vc7) rfl (by kernel_rfl) (fun _ _ _ h => h) (by assumption) (by rfl) ?yc7 ?rc7
                  case yc7 => (intro w hSw; (try dsimp only at hSw); go_simp; try with_reducible rfl)
                  try simp only [Act.put, List.setIfInBounds_toArray, List.set_cons_zero, List.set_cons_succ]
                  refine runH 8 (v := ?vc8) rfl (by kernel_rfl) (fun _ _ _ h => h) (by assumption) (by rfl) ?yc8 ?rc8
                  case yc8 => (intro w hSw; (try dsimp only at hSw); go_simp; try with_reducible rfl)
                  try simp only [Act.put, List.setIfInBounds_toArray, List.set_cons_zero, List.set_cons_succ]
                  refine runH 9 (v := ?vc9) rfl (by kernel_rfl) (fun _ _ _ h => h) (by assumption) (by rfl) ?yc9 ?rc9
                  case yc9 => (intro w hSw; (try dsimp only at hSw); go_simp; try with_reducible rfl)
                  try simp only [Act.put, List.setIfInBounds_toArray, List.set_cons_zero, List.set_cons_succ]
                  refine runH 10 (v := ?vc10) rfl (by kernel_rfl) (fun _ _ _ h => h) (by assumption) (by rfl) ?yc10 ?rc10
                  case yc10 => (intro w hSw; (try dsimp only at hSw); go_simp; try with_reducible rfl)
                  try simp only [Act.put, List.setIfInBounds_toArray, List.set_cons_zero, List.set_cons_succ]
                  refine runH 11 (v := ?vc11) rfl (by kernel_rfl) (fun _ _ _ h => h) (by assumption) (by rfl) ?yc11 ?rc11
                  case yc11 => (intro w hSw; (try dsimp only at hSw); go_simp; try with_reducible rfl)
                  try simp only [Act.put, List.setIfInBounds_toArray, List.set_cons_zero, List.set_cons_succ]
                  refine skipH 12 rfl (by kernel_rfl) (fun _ _ _ h => h) (by assumption) (by rfl) ?_
                  try simp only [Act.put, List.setIfInBounds_toArray, List.set_cons_zero, List.set_cons_succ]
                  refine skipH 13 rfl (by kernel_rfl) (fun _ _ _ h => h) (by assumption) (by rfl) ?_
                  try simp only [Act.put, List.setIfInBounds_toArray, List.set_cons_zero, List.set_cons_succ]
                  refine skipH 14 rfl (by kernel_rfl) (fun _ _ _ h => h) (by assumption) (by rfl) ?_
                  try simp only [Act.put, List.setIfInBounds_toArray, List.set_cons_zero, List.set_cons_succ]
                  refine skipH 15 rfl (by kernel_rfl) (fun _ _ _ h => h) (by assumption) (by rfl) ?_
                  try simp only [Act.put, List.setIfInBounds_toArray, List.set_cons_zero, List.set_cons_succ]
                  refine skipH 16 rfl (by kernel_rfl) (fun _ _ _ h => h) (by assumption) (by rfl) ?_
                  try simp only [Act.put, List.setIfInBounds_toArray, List.set_cons_zero, List.set_cons_succ]
                  refine skipH 17 rfl (by kernel_rfl) (fun _ _ _ h => h) (by assumption) (by rfl) ?_
                  try simp only [Act.put, List.setIfInBounds_toArray, List.set_cons_zero, List.set_cons_succ]
                  refine skipH 18 rfl (by kernel_rfl) (fun _ _ _ h => h) (by assumption) (by rfl) ?_
                  try simp only [Act.put, List.setIfInBounds_toArray, List.set_cons_zero, List.set_cons_succ]
                  refine skipH 19 rfl (by kernel_rfl) (fun _ _ _ h => h) (by assumption) (by rfl) ?_
                  try simp only [Act.put, List.setIfInBounds_toArray, List.set_cons_zero, List.set_cons_succ]
                  refine skipH 20 rfl (by kernel_rfl) (fun _ _ _ h => h) (by assumption) (by rfl) ?_
                  try simp only [Act.put, List.setIfInBounds_toArray, List.set_cons_zero, List.set_cons_succ]
                  refine runH 21 (v := ?vc21) rfl (by kernel_rfl) (fun _ _ _ h => h) (by assumption) (by rfl) ?yc21 ?rc21
                  case yc21 => (intro w hSw; (try dsimp only at hSw); go_simp; try with_reducible rfl)
                  try simp only [Act.put, List.setIfInBounds_toArray, List.set_cons_zero, List.set_cons_succ]
                  refine runH 22 (v := ?vc22) rfl (by kernel_rfl) (fun _ _ _ h => h) (by assumption) (by rfl) ?yc22 ?rc22
                  case yc22 => (intro w hSw; (try dsimp only at hSw); go_simp; try with_reducible rfl)
                  try simp only [Act.put, List.setIfInBounds_toArray, List.set_cons_zero, List.set_cons_succ]
                  refine wpAnyH_done (by kernel_rfl) ?_ _
                  go_wp2
                  go_roundw
                  case rel => exact ⟨i + 1, rfl, by omega, by omega, HN.out, HW6.out w1 hb1⟩
                  case measure => simp [intOf]; omega
                · have hi1' : 0 < i := by omega
                  obtain ⟨j, rfl⟩ : ∃ j, i = j + 1 := ⟨i - 1, by omega⟩
                  have hj0 : 0 ≤ j := by omega
                  have hj1 : j < (v.f4.length : Int) := by omega
                  have hd0 : decide (0 < j + 1) = true := decide_eq_true (by omega)
                  have hya := at_T43 HCr.out j hj0 hj1
                  have hpv : prevOf v.f4 (j + 1) = some (rd_T43 v.f4 j) := by unfold prevOf; rw [if_neg (by omega), show j + 1 - 1 = j by omega]
                  rw [hpv] at hstep
                  obtain ⟨y, hy⟩ : ∃ y, y = rd_T43 v.f4 j := ⟨_, rfl⟩
                  rw [← hy] at hya hstep
                  obtain ⟨ad', B4, d4, hade, y0, y1, y2, y3, y4, ml4, mF4⟩ := hya
                  obtain rfl : ad = ad' := by injection hade
                  have y0' := pw_cell_below HB5.out y0
                  have y1' := pw_cell_below HB5.out y1
                  have y2' := pw_cell_below HB5.out y2
                  have y3' := pw_cell_below HB5.out y3
                  have y4' := pw_cell_below HB5.out y4
                  have hwr : IntKind.i64.wrap j = j := IntWalk.i64_in _ (by omega)
                  obtain ⟨r, hr⟩ : ∃ r, r = ordV y x := ⟨_, rfl⟩
                  have HOr := Lib.hid (fun w1 (hb1 : Below W5.drew.heap.size W5.drew w1) => show Calls Try.prog 102 #[.agg #[.int .i64 y.f0, .int .i64 y.f1, .int .i64 y.f2, .string y.f3, .slice B4 y.f4.length d4], .agg #[.int .i64 x.f0, .int .i64 x.f1, .int .i64 x.f2, .string x.f3, .slice A4 x.f4.length c4]] w1 (fun e w2 => e = .returned (.int .i64 r) ∧ Below w1.heap.size w1 w2) from by
                    rw [hr]
                    have hbw : Below wr.heap.size wr w1 := (below_drew HB5.out).trans (hb1.mono HB5.out.size)
                    exact order_any (nd y) y x B4 A4 d4 c4 w1 (Nat.le_refl _) (Kd.C_below mF4 hbw) ml4 (Kd.C_below HF4.out hbw) HL4.out)
                  have HW7 := Lib.hid (fun w1 w2 (hb1 : Below W5.drew.heap.size W5.drew w1) (hb2 : Below w1.heap.size w1 w2) => show Below W2.heap.size W2 w2 from (HW6.out w1 hb1).trans (hb2.mono (HW6.out w1 hb1).size))
                  have HWW7 := Lib.hid (fun w1 w2 (hb1 : Below W5.drew.heap.size W5.drew w1) (hb2 : Below w1.heap.size w1 w2) => show Below W.heap.size W w2 from (HWW6.out w1 hb1).trans (hb2.mono (HWW6.out w1 hb1).size))
                  have hstep2 := Lib.hid (show formV v = (!(decide (0 ≤ r)) && formL true (prevOf v.f4 (j + 1 + 1)) (v.f4.drop (j + 1 + 1).toNat)) from by rw [HI.out, hpv, ← hy, hstep.out, hr]; simp [riseB])
                  clear hi0' hpv hy hr hade hstep mF4 ml4 y0 y1 y2 y3 y4 hi1'
                  refine wp_region_held_drew (S := (fun w => w.cell? ⟨wr.heap.size, 0, none⟩ = some (.int .i64 x.f0) ∧ w.cell? ⟨wr.heap.size, 1, none⟩ = some (.int .i64 x.f1) ∧ w.cell? ⟨wr.heap.size, 2, none⟩ = some (.int .i64 x.f2) ∧ w.cell? ⟨wr.heap.size, 3, none⟩ = some (.string x.f3) ∧ w.cell? ⟨wr.heap.size, 4, none⟩ = some (.slice A4 x.f4.length c4) ∧ w.cell? ⟨W.heap.size, 4, none⟩ = some (.slice (some ad) v.f4.length c) ∧ w.cell? ⟨W.heap.size, 0, none⟩ = some (.int .i64 v.f0) ∧ w.cell? (ad.add (j.toNat * 5)) = some (.int .i64 y.f0) ∧ w.cell? ⟨(ad.add (j.toNat * 5)).block, (ad.add (j.toNat * 5)).off + 1, none⟩ = some (.int .i64 y.f1) ∧ w.cell? ⟨(ad.add (j.toNat * 5)).block, (ad.add (j.toNat * 5)).off + 2, none⟩ = some (.int .i64 y.f2) ∧ w.cell? ⟨(ad.add (j.toNat * 5)).block, (ad.add (j.toNat * 5)).off + 3, none⟩ = some (.string y.f3) ∧ w.cell? ⟨(ad.add (j.toNat * 5)).block, (ad.add (j.toNat * 5)).off + 4, none⟩ = some (.slice B4 y.f4.length d4))) (by kernel_rfl) ?_ (fun hHeld => ?_)
                  · exact ⟨z0, z1, z2, z3, z4, cv4', cv0', y0', y1', y2', y3', y4'⟩
                  refine runH 0 (v := ?vd0) rfl (by kernel_rfl) (fun _ _ _ h => h) (by assumption) (by rfl) ?yd0 ?rd0
                  case yd0 => (intro w hSw; (try dsimp only at hSw); go_simp; try with_reducible rfl)
                  try simp only [Act.put, List.setIfInBounds_toArray, List.set_cons_zero, List.set_cons_succ]
                  refine wpAnyH_ready (rs := [1]) (by kernel_rfl) (by simp) ?_
                  refine AllReadyH.cons rfl (fun K hK => ?_) AllReadyH.nil
                  go_simp
                  go_at_call 101; refine (HCf.out).mono ?_; rintro e w1 ⟨rfl, hb1⟩
                  go_wp2_with fail
                  refine hK.out _ _ ?_ (fun hHeld2 => ?_)
                  · exact ⟨pw_cell_below hb1 z0, pw_cell_below hb1 z1, pw_cell_below hb1 z2, pw_cell_below hb1 z3, pw_cell_below hb1 z4, pw_cell_below hb1 cv4', pw_cell_below hb1 cv0', pw_cell_below hb1 y0', pw_cell_below hb1 y1', pw_cell_below hb1 y2', pw_cell_below hb1 y3', pw_cell_below hb1 y4'⟩
                  clear hK K hHeld
                  rename _ => hHeld
                  try simp only [Act.put, List.setIfInBounds_toArray, List.set_cons_zero, List.set_cons_succ]
                  refine runH 2 (v := ?vd2) rfl (by kernel_rfl) (fun _ _ _ h => h) (by assumption) (by rfl) ?yd2 ?rd2
                  case yd2 => (intro w hSw; (try dsimp only at hSw); go_simp; try with_reducible rfl)
                  try simp only [Act.put, List.setIfInBounds_toArray, List.set_cons_zero, List.set_cons_succ]
                  refine runH 3 (v := ?vd3) rfl (by kernel_rfl) (fun _ _ _ h => h) (by assumption) (by rfl) ?yd3 ?rd3
                  case yd3 => (intro w hSw; (try dsimp only at hSw); go_simp; try with_reducible rfl)
                  try simp only [Act.put, List.setIfInBounds_toArray, List.set_cons_zero, List.set_cons_succ]
                  refine runH 4 (v := ?vd4) rfl (by kernel_rfl) (fun _ _ _ h => h) (by assumption) (by rfl) ?yd4 ?rd4
                  case yd4 => (intro w hSw; (try dsimp only at hSw); go_simp; try with_reducible rfl)
                  try simp only [Act.put, List.setIfInBounds_toArray, List.set_cons_zero, List.set_cons_succ]
                  refine runH 5 (v := ?vd5) rfl (by kernel_rfl) (fun _ _ _ h => h) (by assumption) (by rfl) ?yd5 ?rd5
                  case yd5 => (intro w hSw; (try dsimp only at hSw); go_simp; try with_reducible rfl)
                  try simp only [Act.put, List.setIfInBounds_toArray, List.set_cons_zero, List.set_cons_succ]
                  refine runH 6 (v := ?vd6) rfl (by kernel_rfl) (fun _ _ _ h => h) (by assumption) (by rfl) ?yd6 ?rd6
                  case yd6 => (intro w hSw; (try dsimp only at hSw); go_simp; try with_reducible rfl)
                  try simp only [Act.put, List.setIfInBounds_toArray, List.set_cons_zero, List.set_cons_succ]
                  refine runH 7 (v := ?vd7) rfl (by kernel_rfl) (fun _ _ _ h => h) (by assumption) (by rfl) ?yd7 ?rd7
                  case yd7 => (intro w hSw; (try dsimp only at hSw); go_simp; try with_reducible rfl)
                  try simp only [Act.put, List.setIfInBounds_toArray, List.set_cons_zero, List.set_cons_succ]
                  refine runH 8 (v := ?vd8) rfl (by kernel_rfl) (fun _ _ _ h => h) (by assumption) (by rfl) ?yd8 ?rd8
                  case yd8 => (intro w hSw; (try dsimp only at hSw); go_simp; try with_reducible rfl)
                  try simp only [Act.put, List.setIfInBounds_toArray, List.set_cons_zero, List.set_cons_succ]
                  refine runH 9 (v := ?vd9) rfl (by kernel_rfl) (fun _ _ _ h => h) (by assumption) (by rfl) ?yd9 ?rd9
                  case yd9 => (intro w hSw; (try dsimp only at hSw); go_simp; try with_reducible rfl)
                  try simp only [Act.put, List.setIfInBounds_toArray, List.set_cons_zero, List.set_cons_succ]
                  refine runH 10 (v := ?vd10) rfl (by kernel_rfl) (fun _ _ _ h => h) (by assumption) (by rfl) ?yd10 ?rd10
                  case yd10 => (intro w hSw; (try dsimp only at hSw); go_simp; try with_reducible rfl)
                  try simp only [Act.put, List.setIfInBounds_toArray, List.set_cons_zero, List.set_cons_succ]
                  refine runH 11 (v := ?vd11) rfl (by kernel_rfl) (fun _ _ _ h => h) (by assumption) (by rfl) ?yd11 ?rd11
                  case yd11 => (intro w hSw; (try dsimp only at hSw); go_simp; try with_reducible rfl)
                  try simp only [Act.put, List.setIfInBounds_toArray, List.set_cons_zero, List.set_cons_succ]
                  refine runH 12 (v := ?vd12) rfl (by kernel_rfl) (fun _ _ _ h => h) (by assumption) (by rfl) ?yd12 ?rd12
                  case yd12 => (intro w hSw; (try dsimp only at hSw); go_simp; try with_reducible rfl)
                  try simp only [Act.put, List.setIfInBounds_toArray, List.set_cons_zero, List.set_cons_succ]
                  refine runH 13 (v := ?vd13) rfl (by kernel_rfl) (fun _ _ _ h => h) (by assumption) (by rfl) ?yd13 ?rd13
                  case yd13 => (intro w hSw; (try dsimp only at hSw); go_simp; try with_reducible rfl)
                  try simp only [Act.put, List.setIfInBounds_toArray, List.set_cons_zero, List.set_cons_succ]
                  refine runH 14 (v := ?vd14) rfl (by kernel_rfl) (fun _ _ _ h => h) (by assumption) (by rfl) ?yd14 ?rd14
                  case yd14 => (intro w hSw; (try dsimp only at hSw); go_simp; try with_reducible rfl)
                  try simp only [Act.put, List.setIfInBounds_toArray, List.set_cons_zero, List.set_cons_succ]
                  refine runH 15 (v := ?vd15) rfl (by kernel_rfl) (fun _ _ _ h => h) (by assumption) (by rfl) ?yd15 ?rd15
                  case yd15 => (intro w hSw; (try dsimp only at hSw); go_simp; try with_reducible rfl)
                  try simp only [Act.put, List.setIfInBounds_toArray, List.set_cons_zero, List.set_cons_succ]
                  refine runH 16 (v := ?vd16) rfl (by kernel_rfl) (fun _ _ _ h => h) (by assumption) (by rfl) ?yd16 ?rd16
                  case yd16 => (intro w hSw; (try dsimp only at hSw); go_simp; try with_reducible rfl)
                  try simp only [Act.put, List.setIfInBounds_toArray, List.set_cons_zero, List.set_cons_succ]
                  refine runH 17 (v := ?vd17) rfl (by kernel_rfl) (fun _ _ _ h => h) (by assumption) (by rfl) ?yd17 ?rd17
                  case yd17 => (intro w hSw; (try dsimp only at hSw); go_simp; try with_reducible rfl)
                  try simp only [Act.put, List.setIfInBounds_toArray, List.set_cons_zero, List.set_cons_succ]
                  refine runH 18 (v := ?vd18) rfl (by kernel_rfl) (fun _ _ _ h => h) (by assumption) (by rfl) ?yd18 ?rd18
                  case yd18 => (intro w hSw; (try dsimp only at hSw); go_simp; try with_reducible rfl)
                  try simp only [Act.put, List.setIfInBounds_toArray, List.set_cons_zero, List.set_cons_succ]
                  refine wpAnyH_ready (rs := [19]) (by kernel_rfl) (by simp) ?_
                  refine AllReadyH.cons rfl (fun K hK => ?_) AllReadyH.nil
                  go_simp
                  go_at_call 102; refine (HOr.out w1 hb1).mono ?_; rintro e w2 ⟨rfl, hb2⟩
                  go_wp2_with fail
                  refine hK.out _ _ ?_ (fun hHeld2 => ?_)
                  · exact ⟨pw_cell_below hb2 (pw_cell_below hb1 z0), pw_cell_below hb2 (pw_cell_below hb1 z1), pw_cell_below hb2 (pw_cell_below hb1 z2), pw_cell_below hb2 (pw_cell_below hb1 z3), pw_cell_below hb2 (pw_cell_below hb1 z4), pw_cell_below hb2 (pw_cell_below hb1 cv4'), pw_cell_below hb2 (pw_cell_below hb1 cv0'), pw_cell_below hb2 (pw_cell_below hb1 y0'), pw_cell_below hb2 (pw_cell_below hb1 y1'), pw_cell_below hb2 (pw_cell_below hb1 y2'), pw_cell_below hb2 (pw_cell_below hb1 y3'), pw_cell_below hb2 (pw_cell_below hb1 y4')⟩
                  clear hK K hHeld
                  rename _ => hHeld
                  try simp only [Act.put, List.setIfInBounds_toArray, List.set_cons_zero, List.set_cons_succ]
                  refine runH 20 (v := ?vd20) rfl (by kernel_rfl) (fun _ _ _ h => h) (by assumption) (by rfl) ?yd20 ?rd20
                  case yd20 => (intro w hSw; (try dsimp only at hSw); go_simp; try with_reducible rfl)
                  try simp only [Act.put, List.setIfInBounds_toArray, List.set_cons_zero, List.set_cons_succ]
                  refine runH 21 (v := ?vd21) rfl (by kernel_rfl) (fun _ _ _ h => h) (by assumption) (by rfl) ?yd21 ?rd21
                  case yd21 => (intro w hSw; (try dsimp only at hSw); go_simp; try with_reducible rfl)
                  try simp only [Act.put, List.setIfInBounds_toArray, List.set_cons_zero, List.set_cons_succ]
                  refine runH 22 (v := ?vd22) rfl (by kernel_rfl) (fun _ _ _ h => h) (by assumption) (by rfl) ?yd22 ?rd22
                  case yd22 => (intro w hSw; (try dsimp only at hSw); go_simp; try with_reducible rfl)
                  try simp only [Act.put, List.setIfInBounds_toArray, List.set_cons_zero, List.set_cons_succ]
                  refine wpAnyH_done (by kernel_rfl) ?_ _
                  clear hwr hd0
                  by_cases hr0 : 0 ≤ r
                  · have HR := Lib.hid (show formV v = false from by rw [hstep2.out, decide_eq_true hr0]; rfl)
                    go_wp2
                    go_ret
                    exact ⟨by rw [HR.out]; rfl, HWW7.out w1 w2 hb1 hb2⟩
                  · have HN := Lib.hid (show formV v = formL true (prevOf v.f4 (j + 1 + 1)) (v.f4.drop (j + 1 + 1).toNat) from by rw [hstep2.out, decide_eq_false hr0]; rfl)
                    have hr1 : r < 0 := by omega
                    clear hr0
                    go_wp2
                    go_roundw
                    case rel => exact ⟨j + 1 + 1, rfl, by omega, by omega, HN.out, HW7.out w1 w2 hb1 hb2⟩
                    case measure => simp [intOf]; omega
          · have HR2 := Lib.hid (show formV v = true from by rw [HI.out]; exact formL_end _ _ _ hlt)
            have hge : (v.f4.length : Int) ≤ i := by omega
            clear hlt
            go_wp2
            go_ret
            exact ⟨by rw [HR2.out]; rfl, HWW.out⟩
      · have HR := Lib.hid (show formV v = false from by rw [K1.out]; unfold emB; rw [e1]; simp)
        clear K1
        rcases hks with ⟨q5, q6, q7, qd⟩ | ⟨q5, q6, q7, qd⟩ | ⟨q5, q6, q7, qd⟩
        all_goals go_wp2
        all_goals go_ret
        all_goals exact ⟨by rw [HR.out]; rfl, below_alloc (Below.refl _ _) _⟩
    · have hm' : (v.f2 != 0) = true := by rw [bne_iff_ne]; exact hm
      have HR := Lib.hid (show formV v = false from by rw [K1.out, decide_eq_false hm]; simp)
      clear K1 he1 hm hi
      rcases hks with ⟨q5, q6, q7, qd⟩ | ⟨q5, q6, q7, qd⟩ | ⟨q5, q6, q7, qd⟩
      all_goals go_wp2
      all_goals go_ret
      all_goals exact ⟨by rw [HR.out]; rfl, below_alloc (Below.refl _ _) _⟩
  · have hi' : (v.f1 != 0) = true := by rw [bne_iff_ne]; exact hi
    have HR := Lib.hid (show formV v = false from by rw [K1.out, decide_eq_false hi]; simp)
    clear K1 he1 hi
    rcases hks with ⟨q5, q6, q7, qd⟩ | ⟨q5, q6, q7, qd⟩ | ⟨q5, q6, q7, qd⟩
    all_goals go_wp2
    all_goals go_ret
    all_goals exact ⟨by rw [HR.out]; rfl, below_alloc (Below.refl _ _) _⟩
theorem formed_any (k : Nat) : ∀ (v : S43) (A : Option Addr) (c : Nat) (W : World), nd v ≤ k → okT v → Kd.C k43 W A v.f4.length v.f4 → v.f4.length ≤ c →
    Calls Try.prog 101 #[v43 v A c] W (FormP v W) := by
  induction k with
  | zero => intro a; intros; have := nd_pos a; omega
  | succ k ih =>
    intro v A c W hk hT hC hc
    by_cases k5 : v.f0 = 5 ∨ v.f0 = 6 ∨ v.f0 = 7
    · exact formed_items k ih v A c W hk hT hC hc k5
    · exact formed_flat v A c W hT hC hc k5
def rightV (v : S43) : Bool := smallB v && formV v
def chkI (v : S43) : Int := if rightV v then 0 else 40
set_option maxHeartbeats 1000000 in
theorem Check_any (v : S43) (A : Option Addr) (c : Nat) (W : World) (hT : okT v) (hC : Kd.C k43 W A v.f4.length v.f4) (hc : v.f4.length ≤ c) :
    Calls Try.prog 79 #[v43 v A c] W (fun e w' => e = .returned (.int .i64 (chkI v)) ∧ Below W.heap.size W w') := by
  have H1 := Lib.hid (fun W1 (h : Below W.heap.size W W1) => small_any v A c W1 (Kd.C_below hC h) hc)
  have H2 := Lib.hid (fun W1 (h : Below W.heap.size W W1) => formed_any (nd v) v A c W1 (Nat.le_refl _) hT (Kd.C_below hC h) hc)
  have hd : chkI v = if (smallB v && formV v) = true then 0 else 40 := rfl
  have HD := Lib.hid hd
  obtain ⟨b1, hb1⟩ : ∃ b, smallB v = b := ⟨_, rfl⟩
  obtain ⟨b2, hb2⟩ : ∃ b, formV v = b := ⟨_, rfl⟩
  unfold FormP at H2
  rw [hb1] at H1 HD
  rw [hb2] at H2 HD
  unfold v43 at H1 H2 ⊢
  have hb0 := Lib.hid (below_alloc (Below.refl W.heap.size W) (.cells #[.int .i64 v.f0, .int .i64 v.f1, .int .i64 v.f2, .string v.f3, .slice A v.f4.length c] 43))
  have hcl : ∀ W1, Below (W.alloc (.cells #[.int .i64 v.f0, .int .i64 v.f1, .int .i64 v.f2, .string v.f3, .slice A v.f4.length c] 43)).heap.size (W.alloc (.cells #[.int .i64 v.f0, .int .i64 v.f1, .int .i64 v.f2, .string v.f3, .slice A v.f4.length c] 43)) W1 → W1.heap[W.heap.size]? = some (.cells #[.int .i64 v.f0, .int .i64 v.f1, .int .i64 v.f2, .string v.f3, .slice A v.f4.length c] 43 (0, 0)) := fun W1 h => (h.block _ (by rw [alloc_size]; omega)).trans (heap_alloc_new W _)
  have HCL := Lib.hid hcl
  clear hd hb1 hb2 hC hT hcl
  go_enter Try.func79, Try.ntmps79
  go_wp2_with fail
  refine (H1.out _ hb0.out).mono ?_
  rintro e w1 ⟨rfl, hw1⟩
  have hx := HCL.out w1 hw1
  have z0 : w1.cell? ⟨W.heap.size, 0, none⟩ = some (.int .i64 v.f0) := (blk_cell hx 0).trans rfl
  have z1 : w1.cell? ⟨W.heap.size, 1, none⟩ = some (.int .i64 v.f1) := (blk_cell hx 1).trans rfl
  have z2 : w1.cell? ⟨W.heap.size, 2, none⟩ = some (.int .i64 v.f2) := (blk_cell hx 2).trans rfl
  have z3 : w1.cell? ⟨W.heap.size, 3, none⟩ = some (.string v.f3) := (blk_cell hx 3).trans rfl
  have z4 : w1.cell? ⟨W.heap.size, 4, none⟩ = some (.slice A v.f4.length c) := (blk_cell hx 4).trans rfl
  have HB1 := Lib.hid (hb0.out.trans (hw1.mono (by rw [alloc_size]; omega)))
  clear hx hw1
  cases b1
  · go_wp2
    go_ret
    exact ⟨by rw [HD.out]; rfl, HB1.out⟩
  · cases b2
    · go_wp2_with fail
      refine (H2.out w1 HB1.out).mono ?_
      rintro e w2 ⟨rfl, hw2⟩
      have HB2 := Lib.hid (HB1.out.trans (hw2.mono HB1.out.size))
      clear hw2
      go_wp2
      go_ret
      exact ⟨by rw [HD.out]; rfl, HB2.out⟩
    · go_wp2_with fail
      refine (H2.out w1 HB1.out).mono ?_
      rintro e w2 ⟨rfl, hw2⟩
      have HB2 := Lib.hid (HB1.out.trans (hw2.mono HB1.out.size))
      clear hw2
      go_wp2
      go_ret
      exact ⟨by rw [HD.out]; rfl, HB2.out⟩
end Go.Proofs.Ytofinglgnkdflaa
end
section
namespace Go.Proofs.Ytofinglgnkdflaa
open Go.RowKit
open Go.Proofs.Ytofinglgnkdflaa.PHistoryChecks Go.Proofs.YtofinglgnkdflaaW.PrintWords Go.Proofs.YtofinglgnkdflaaW.PrintLast Go.Proofs.YtofinglgnkdflaaW.PrintMore
set_option linter.unusedVariables false
set_option linter.unusedSimpArgs false
def c47 (e : S47) (A : Option Addr) (c : Nat) : Array Value := #[.int .i64 e.f0, .string e.f1, .string e.f2, .string e.f3, .int .i64 e.f4.f0, .int .i64 e.f4.f1, .int .i64 e.f4.f2, .string e.f4.f3, .slice A e.f4.f4.length c, .int .i64 e.f5.f0, .int .i64 e.f5.f1, .int .i64 e.f5.f2]
def okE (e : S47) : Prop := e.f1.size ≤ 140737488351232 ∧ e.f2.size ≤ 140737488351232 ∧ e.f3.size ≤ 140737488351232 ∧ okT e.f4
def tailE (e : S47) : Bool := if e.f0 = 1 then nameB e.f2 && symB e.f3 else if e.f0 = 2 then emB e.f2 && emB e.f3 else false
def rightE (e : S47) : Bool := symB e.f1 && (rightV e.f4 && tailE e)
set_option maxHeartbeats 4000000 in
theorem right_any (e : S47) (A : Option Addr) (c : Nat) (W : World) (hE : okE e) (hC : Kd.C k43 W A e.f4.f4.length e.f4.f4) (hc : e.f4.f4.length ≤ c) :
    Calls Try.prog 55 #[.agg (c47 e A c)] W (fun r w' => r = .returned (.bool (rightE e)) ∧ Below W.heap.size W w') := by
  have H1 := Lib.hid (fun W1 => named_any W1 e.f1 hE.1)
  have H2 := Lib.hid (fun W1 (h : Below W.heap.size W W1) => Check_any e.f4 A c W1 hE.2.2.2 (Kd.C_below hC h) hc)
  have H3 := Lib.hid (fun W1 => Name_any W1 e.f2 hE.2.1)
  have H4 := Lib.hid (fun W1 => named_any W1 e.f3 hE.2.2.1)
  have HD := Lib.hid (show rightE e = (symB e.f1 && (rightV e.f4 && tailE e)) from rfl)
  have HT := Lib.hid (show tailE e = (if e.f0 = 1 then nameB e.f2 && symB e.f3 else if e.f0 = 2 then emB e.f2 && emB e.f3 else false) from rfl)
  have hck : chkI e.f4 = if rightV e.f4 = true then 0 else 40 := rfl
  obtain ⟨b1, hb1⟩ : ∃ b, symB e.f1 = b := ⟨_, rfl⟩
  obtain ⟨b2, hb2⟩ : ∃ b, rightV e.f4 = b := ⟨_, rfl⟩
  rw [hb2] at hck
  rw [hck] at H2
  rw [hb1] at H1 HD
  rw [hb2] at HD
  unfold v43 at H2
  unfold c47
  clear hb1 hb2 hck hC hE
  obtain ⟨W2, hW2⟩ : ∃ W2, W2 = W.alloc (.cells #[.int .i64 e.f0, .string e.f1, .string e.f2, .string e.f3, .int .i64 e.f4.f0, .int .i64 e.f4.f1, .int .i64 e.f4.f2, .string e.f4.f3, .slice A e.f4.f4.length c, .int .i64 e.f5.f0, .int .i64 e.f5.f1, .int .i64 e.f5.f2] 47) := ⟨_, rfl⟩
  have hA2 : W2.heap[W.heap.size]? = some (.cells #[.int .i64 e.f0, .string e.f1, .string e.f2, .string e.f3, .int .i64 e.f4.f0, .int .i64 e.f4.f1, .int .i64 e.f4.f2, .string e.f4.f3, .slice A e.f4.f4.length c, .int .i64 e.f5.f0, .int .i64 e.f5.f1, .int .i64 e.f5.f2] 47 (0, 0)) := by rw [hW2]; exact heap_alloc_new W _
  have hb2 : Below W.heap.size W W2 := by rw [hW2]; exact below_alloc (Below.refl _ _) _
  have hsz2 : W.heap.size < W2.heap.size := blk_lt hA2
  have HCell := Lib.hid (fun (w : World) (h : Below W2.heap.size W2 w) (i : Nat) => (blk_cell ((h.block _ hsz2).trans hA2) i))
  have HB2 := Lib.hid (fun (w : World) (h : Below W2.heap.size W2 w) => hb2.trans (h.mono hb2.size))
  go_enter Try.func55, Try.ntmps55
  go_wp2_with fail
  rw [← hW2]
  clear hW2 hA2 hb2
  refine (H1.out W2).mono ?_
  rintro r w1 ⟨rfl, hw1⟩
  have p0 : w1.cell? ⟨W.heap.size, 0, none⟩ = some (.int .i64 e.f0) := HCell.out w1 hw1 0
  have p2 : w1.cell? ⟨W.heap.size, 2, none⟩ = some (.string e.f2) := HCell.out w1 hw1 2
  have p3 : w1.cell? ⟨W.heap.size, 3, none⟩ = some (.string e.f3) := HCell.out w1 hw1 3
  have p4 : w1.cell? ⟨W.heap.size, 4, none⟩ = some (.int .i64 e.f4.f0) := HCell.out w1 hw1 4
  have p5 : w1.cell? ⟨W.heap.size, 5, none⟩ = some (.int .i64 e.f4.f1) := HCell.out w1 hw1 5
  have p6 : w1.cell? ⟨W.heap.size, 6, none⟩ = some (.int .i64 e.f4.f2) := HCell.out w1 hw1 6
  have p7 : w1.cell? ⟨W.heap.size, 7, none⟩ = some (.string e.f4.f3) := HCell.out w1 hw1 7
  have p8 : w1.cell? ⟨W.heap.size, 8, none⟩ = some (.slice A e.f4.f4.length c) := HCell.out w1 hw1 8
  have HW1 := Lib.hid hw1
  have HBB := Lib.hid (HB2.out w1 hw1)
  clear hw1
  cases b1
  · go_wp2
    go_ret
    exact ⟨by rw [HD.out]; rfl, HBB.out⟩
  · go_wp2_with fail
    refine (H2.out w1 HBB.out).mono ?_
    rintro r w2 ⟨rfl, hw2⟩
    have hw12 : Below W2.heap.size W2 w2 := HW1.out.trans (hw2.mono HW1.out.size)
    have q0 : w2.cell? ⟨W.heap.size, 0, none⟩ = some (.int .i64 e.f0) := HCell.out w2 hw12 0
    have q2 : w2.cell? ⟨W.heap.size, 2, none⟩ = some (.string e.f2) := HCell.out w2 hw12 2
    have q3 : w2.cell? ⟨W.heap.size, 3, none⟩ = some (.string e.f3) := HCell.out w2 hw12 3
    have HW2 := Lib.hid hw12
    have HBB2 := Lib.hid (HB2.out w2 hw12)
    clear hw2 hw12
    cases b2
    · go_wp2
      go_ret
      exact ⟨by rw [HD.out]; rfl, HBB2.out⟩
    · by_cases k1 : e.f0 = 1
      · have k1' : (e.f0 == 1) = true := by rw [beq_iff_eq]; exact k1
        have HR := Lib.hid (show rightE e = (nameB e.f2 && symB e.f3) from by rw [HD.out, HT.out, if_pos k1]; rfl)
        obtain ⟨b3, hb3⟩ : ∃ b, nameB e.f2 = b := ⟨_, rfl⟩
        rw [hb3] at H3 HR
        clear k1 hb3
        go_wp2_with fail
        refine (H3.out w2).mono ?_
        rintro r w3 ⟨rfl, hw3⟩
        have hw13 : Below W2.heap.size W2 w3 := HW2.out.trans (hw3.mono HW2.out.size)
        have t3 : w3.cell? ⟨W.heap.size, 3, none⟩ = some (.string e.f3) := HCell.out w3 hw13 3
        have HW3 := Lib.hid hw13
        have HBB3 := Lib.hid (HB2.out w3 hw13)
        clear hw3 hw13
        cases b3
        · go_wp2
          go_ret
          exact ⟨by rw [HR.out]; rfl, HBB3.out⟩
        · go_wp2_with fail
          refine (H4.out w3).mono ?_
          rintro r w4 ⟨rfl, hw4⟩
          have hw14 : Below W2.heap.size W2 w4 := HW3.out.trans (hw4.mono HW3.out.size)
          have HBB4 := Lib.hid (HB2.out w4 hw14)
          clear hw4 hw14
          go_wp2
          go_ret
          exact ⟨by rw [HR.out]; rfl, HBB4.out⟩
      · have k1' : (e.f0 == 1) = false := by rw [beq_eq_false_iff_ne]; exact k1
        by_cases k2 : e.f0 = 2
        · have k2' : (e.f0 == 2) = true := by rw [beq_iff_eq]; exact k2
          have HR := Lib.hid (show rightE e = (emB e.f2 && emB e.f3) from by rw [HD.out, HT.out, if_neg k1, if_pos k2]; rfl)
          have he : e.f2.toList.isEmpty = true ∨ e.f2.toList.isEmpty = false := by cases e.f2.toList.isEmpty <;> simp
          clear k1 k2
          rcases he with he | he
          · have HE := Lib.hid he
            go_wp2
            go_ret
            exact ⟨by rw [HR.out]; unfold emB; rw [HE.out]; rfl, HBB2.out⟩
          · have HE := Lib.hid he
            go_wp2
            go_ret
            exact ⟨by rw [HR.out]; unfold emB; rw [HE.out]; rfl, HBB2.out⟩
        · have k2' : (e.f0 == 2) = false := by rw [beq_eq_false_iff_ne]; exact k2
          have HR := Lib.hid (show rightE e = false from by rw [HD.out, HT.out, if_neg k1, if_neg k2]; rfl)
          clear k1 k2
          go_wp2
          go_ret
          exact ⟨by rw [HR.out]; rfl, HBB2.out⟩
end Go.Proofs.Ytofinglgnkdflaa
end
