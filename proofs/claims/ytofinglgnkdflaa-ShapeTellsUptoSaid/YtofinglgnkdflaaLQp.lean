/- The reference of layer 7: Make, any events: the walk. -/
import Derived.Test.YtofinglgnkdflaaLQo
namespace Go.Proofs.Ytofinglgnkdflaa
open Go.RowKit
open Go.Proofs.Ytofinglgnkdflaa.PHistoryChecks Go.Proofs.YtofinglgnkdflaaW.PrintWords Go.Proofs.YtofinglgnkdflaaW.PrintLast Go.Proofs.YtofinglgnkdflaaW.PrintMore
set_option linter.unusedVariables false
set_option linter.unusedSimpArgs false
def raddR (P : PastL) (e : S47) (at_ : Int) : PastL × Int := if rgoodB P e then (raddP P e at_, 0) else (P, if e.f0 = 2 then 70 else 71)
inductive RR where
  | bad (at_ code : Int)
  | ok (P : PastL)
def rgoE : List S47 → Int → PastL → RR
  | [], _, P => .ok P
  | e :: l, i, P => if rightE e = true then (if (raddR P e i).2 = 0 then rgoE l (i + 1) (raddR P e i).1 else .bad i (raddR P e i).2) else .bad i 2
def rlgFrom (cl : List S50) : Nat → Int → Option Int
  | 0, _ => none
  | k + 1, j => if largeF cl j then some j else rlgFrom cl k (j + 1)
def rEnd (n : Nat) : RR → PastL × Int × Int
  | .bad a c => (past0, a, c)
  | .ok P => match rlgFrom P.cl n 0 with
    | some j => (past0, j, 72)
    | none => (P, 0, 0)
def rmakeF (E : List S47) : PastL × Int × Int := rEnd E.length (rgoE E 0 ⟨[], [], []⟩)
theorem rgoE_step (E : List S47) (i : Int) (P : PastL) (h0 : 0 ≤ i) (h1 : i < (E.length : Int)) : rgoE (E.drop i.toNat) i P = if rightE (rd_T47 E i) = true then (if (raddR P (rd_T47 E i) i).2 = 0 then rgoE (E.drop (i + 1).toNat) (i + 1) (raddR P (rd_T47 E i) i).1 else .bad i (raddR P (rd_T47 E i) i).2) else .bad i 2 := by
  have hn : i.toNat < E.length := by omega
  have e : rd_T47 E i = E[i.toNat] := by unfold rd_T47; rw [List.getD_eq_getElem?_getD, List.getElem?_eq_getElem hn]; rfl
  have e2 : (i + 1).toNat = i.toNat + 1 := by omega
  rw [List.drop_eq_getElem_cons hn, e2, e]
  simp only [rgoE]
theorem rlg_step (cl : List S50) (n : Nat) (j : Int) (h0 : 0 ≤ j) (h1 : j < (n : Int)) : rlgFrom cl (n - j.toNat) j = if largeF cl j then some j else rlgFrom cl (n - (j + 1).toNat) (j + 1) := by
  rw [show n - j.toNat = (n - (j + 1).toNat) + 1 by omega]; rfl
theorem raddR_len (P : PastL) (e : S47) (i : Int) : (raddR P e i).1.pr.length ≤ P.pr.length + 1 ∧ (raddR P e i).1.ob.length ≤ P.ob.length + 1 ∧ (raddR P e i).1.cl.length ≤ P.cl.length + 1 := by
  unfold raddR
  split
  · exact raddP_len P e i
  · simp only; omega
def FpB (P : PastL) : Prop := ∀ k : Nat, k < P.cl.length → 0 ≤ (rd_T50 P.cl (k : Int)).f0 ∧ (rd_T50 P.cl (k : Int)).f0 < (P.pr.length : Int)
theorem fpB_add {P : PastL} (h : FpB P) (e : S47) (i : Int) : FpB (raddR P e i).1 := by
  unfold raddR
  split
  · rename_i hg
    unfold raddP
    unfold rgoodB at hg
    by_cases h2 : e.f0 = 2
    · rw [if_pos h2]
      unfold resP
      intro k hk
      simp only at hk ⊢
      rw [setRes_length] at hk
      unfold setRes
      have e1 : rd_T50 (P.cl.set (opnF P.cl (ixFrom e.f1 P.pr 0)).toNat { rd_T50 P.cl (opnF P.cl (ixFrom e.f1 P.pr 0)) with f5 := i, f6 := e.f4 }) (k : Int) = if (opnF P.cl (ixFrom e.f1 P.pr 0)).toNat = k then { rd_T50 P.cl (opnF P.cl (ixFrom e.f1 P.pr 0)) with f5 := i, f6 := e.f4 } else rd_T50 P.cl (k : Int) := by
        unfold rd_T50
        rw [Int.toNat_natCast, List.getD_eq_getElem?_getD, List.getD_eq_getElem?_getD (i := k), List.getElem?_set]
        by_cases he : (opnF P.cl (ixFrom e.f1 P.pr 0)).toNat = k
        · rw [if_pos he, if_pos he, if_pos (by omega)]; rfl
        · rw [if_neg he, if_neg he]
      rw [e1]
      split
      · rename_i he
        rw [if_pos h2, Bool.and_eq_true, decide_eq_true_eq, decide_eq_true_eq] at hg
        have := h k hk
        rw [show opnF P.cl (ixFrom e.f1 P.pr 0) = (k : Int) from by omega]
        exact this
      · exact h k hk
    · rw [if_neg h2]
      unfold invP
      intro k hk
      simp only [List.length_append, List.length_cons, List.length_nil] at hk ⊢
      have hb := ixFrom_bound e.f1 P.pr
      have hp : (P.pr.length : Int) ≤ ((if ixFrom e.f1 P.pr 0 < 0 then P.pr ++ [e.f1] else P.pr).length : Int) := by
        split
        · rw [List.length_append]; omega
        · exact Int.le_refl _
      by_cases hkl : k < P.cl.length
      · have := h k hkl
        have e1 : ∀ z, rd_T50 (P.cl ++ [z]) (k : Int) = rd_T50 P.cl (k : Int) := fun z => by
          unfold rd_T50
          rw [Int.toNat_natCast, List.getD_eq_getElem?_getD, List.getD_eq_getElem?_getD, List.getElem?_append_left hkl]
        rw [e1]; omega
      · have e1 : ∀ z, rd_T50 (P.cl ++ [z]) (k : Int) = z := fun z => by
          unfold rd_T50
          rw [Int.toNat_natCast, List.getD_eq_getElem?_getD, List.getElem?_append_right (by omega), show k - P.cl.length = 0 by omega]; rfl
        rw [e1]
        simp only
        split
        · rw [List.length_append]; simp only [List.length_cons, List.length_nil]; omega
        · omega
  · exact h
theorem radd_all (W : World) (f : Nat → Nat) (B : Nat) (s1 s2 cv : Value) (P : PastL) (e : S47) (A : Option Addr) (c : Nat) (at_ : Int) (h : RsF f B W s1 s2 cv P) (hlo : ∀ k, k < B → f k = 0)
    (hpl : P.pr.length ≤ 1000000) (hol : P.ob.length ≤ 1000000) (hcl : P.cl.length ≤ 1000000) (hr : rightE e = true)
    (hF : Kd.F k43 W (fun k => k < B) A e.f4.f4.length e.f4.f4) (hcp : ∀ W1 A c, Kd.C k43 W1 A e.f4.f4.length e.f4.f4 → Calls Try.prog 54 #[v43 e.f4 A c] W1 (OwnP e.f4 W1)) :
    Calls Try.prog 59 #[.agg #[s1, s2, cv], .agg (c47 e A c), .int .i64 at_] W (AddP f B W (raddR P e at_).1 (raddR P e at_).2) := by
  unfold raddR
  cases hg : rgoodB P e with
  | true => exact radd_any W f B s1 s2 cv P e A c at_ h hlo hpl hol hcl hg hF hcp
  | false =>
    refine add_bad W f B s1 s2 cv P e A c at_ h ?_ hg
    unfold rightE tailE at hr
    by_cases h1 : e.f0 = 1
    · exact .inl h1
    · by_cases h2 : e.f0 = 2
      · exact .inr h2
      · rw [if_neg h1, if_neg h2] at hr; simp at hr
theorem right_copy {e : S47} (h : rightE e = true) (W1 : World) (A : Option Addr) (c : Nat) (hC : Kd.C k43 W1 A e.f4.f4.length e.f4.f4) : Calls Try.prog 54 #[v43 e.f4 A c] W1 (OwnP e.f4 W1) := by
  refine (copy_any W1 e.f4 A c hC).mono fun r w' h2 => ?_
  unfold rightE rightV at h
  simp only [Bool.and_eq_true] at h
  rcases h2 with ⟨_, h2⟩ | ⟨h3, _⟩
  · exact h2
  · rw [h.2.1.1] at h3; cases h3
theorem make_fin {W w : World} {act : Act} {v1 v2 v3 : Value} {at_ code : Int} {Q : Ending → World → Prop} {z : Array Value} (hz : w.heap[W.heap.size]? = some (.cells z 30 (0, 0))) (h3 : z.size = 3) (h2 : act.tmps[2]? = some (.pointer (some ⟨W.heap.size, 0, none⟩))) (ha : act.tmps[3]? = some (.int .i64 at_)) (hc : act.tmps[4]? = some (.int .i64 code)) (hd : act.defers = [])
    (h : Q (.returned (.tuple #[.agg #[v1, v2, v3], .int .i64 at_, .int .i64 code])) (set3w W.heap.size v1 v2 v3 w)) : bodyPost Try.prog Try.f16 Q Exit.ret act (set3w W.heap.size v1 v2 v3 w) := by
  obtain ⟨z0, z1, z2, rfl⟩ : ∃ z0 z1 z2, z = #[z0, z1, z2] := by
    match z, h3 with
    | ⟨[a, b, d]⟩, _ => exact ⟨a, b, d, rfl⟩
  obtain ⟨Wf, hWf⟩ : ∃ Wf, Wf = set3w W.heap.size v1 v2 v3 w := ⟨_, rfl⟩
  rw [← hWf] at h ⊢
  have hRf : Wf.heap[W.heap.size]? = some (.cells #[v1, v2, v3] 30 (0, 0)) := by rw [hWf]; exact set3w_at _ _ _ hz
  have t0 : Wf.cell? ⟨W.heap.size, 0, none⟩ = some v1 := (blk_cell hRf 0).trans rfl
  have t1 : Wf.cell? ⟨W.heap.size, 1, none⟩ = some v2 := (blk_cell hRf 1).trans rfl
  have t2 : Wf.cell? ⟨W.heap.size, 2, none⟩ = some v3 := (blk_cell hRf 2).trans rfl
  exact bodyPost_ret (v := .tuple #[.agg #[v1, v2, v3], .int .i64 at_, .int .i64 code]) (by simp [results, Try.results16, go_sem, h2, ha, hc, t0, t1, t2]) hd h
set_option maxHeartbeats 8000000 in
set_option maxRecDepth 100000 in
theorem RMake_any (W : World) (E : List S47) (A : Option Addr) (c : Nat) (hC : Kd.C k47 W A E.length E) (hc : E.length ≤ c) (hl : E.length ≤ 500000) (hE : ∀ e ∈ E, okE2 e) :
    Calls Try.prog 16 #[.slice A E.length c] W (MakeP (rmakeF E) W) := by
  obtain ⟨res, hres⟩ : ∃ r, r = rmakeF E := ⟨_, rfl⟩
  have HG0 := Lib.hid (show res = rEnd E.length (rgoE (E.drop (0 : Int).toNat) 0 ⟨[], [], []⟩) from hres)
  have HST := Lib.hid (rk_start W)
  have HRI := Lib.hid (fun e (he : e ∈ E) W1 A1 c1 (hC1 : Kd.C k43 W1 A1 e.f4.f4.length e.f4.f4) (hc1 : e.f4.f4.length ≤ c1) => rright_any W1 e A1 c1 (hE e he) hC1 hc1)
  have HC := Lib.hid hC
  rw [← hres]
  clear hC hE hres
  go_enter Try.func16, Try.ntmps16
  go_wp2
  go_loopw [6] (fun iv wr => ∃ (i : Int) (f : Nat → Nat) (s1 s2 cv : Value) (P : PastL), iv = .int .i64 i ∧ 0 ≤ i ∧ i ≤ (E.length : Int) ∧ P.pr.length ≤ i.toNat ∧ P.ob.length ≤ i.toNat ∧ P.cl.length ≤ i.toNat ∧ Hid (res = rEnd E.length (rgoE (E.drop i.toNat) i P)) ∧ Hid (FpB P) ∧ Hid (RkS f W wr s1 s2 cv P)) (fun i _ => E.length - (intOf i).toNat)
  case atStart => exact ⟨0, _, _, _, _, _, rfl, by omega, by omega, Nat.zero_le _, Nat.zero_le _, Nat.zero_le _, HG0.out, fun k hk => absurd hk (Nat.not_lt_zero _), HST.out⟩
  case round =>
    obtain ⟨i, f, s1, s2, cv, P, rfl, hi0, hi1, hpl, hol, hcl, HG, HFB, HK⟩ := hrel
    clear HST HG0
    by_cases hlt : i < (E.length : Int)
    · obtain ⟨ad, A4, c4, rfl, x0, x1, x2, x3, x4, x5, x6, x7, x8, x9, x10, x11, hl4, hC4⟩ := at_T47 HC.out i hi0 hlt
      have hst := HG.out
      rw [rgoE_step E i P hi0 hlt] at hst
      have hmem := rd_mem47 E i hi0 hlt
      have hri := HRI.out _ hmem
      obtain ⟨e, he⟩ : ∃ e, e = rd_T47 E i := ⟨_, rfl⟩
      rw [← he] at x0 x1 x2 x3 x4 x5 x6 x7 x8 x9 x10 x11 hl4 hC4 hst hri
      obtain ⟨rb, hrb⟩ : ∃ b, b = rightE e := ⟨_, rfl⟩
      have HRB := Lib.hid hrb
      rw [← hrb] at hst hri
      have HRG := Lib.hid (fun W1 (h : Below W.heap.size W W1) => hri W1 A4 c4 (Kd.C_below hC4 h) hl4)
      unfold c47 at HRG
      have HSP := Lib.hid hst
      have HF4 := Lib.hid (k43_F hC4)
      have HLN := Lib.hid (raddR_len P e i)
      have HX := Lib.hid (show W.cell? (ad.add (i.toNat * 12)) = some (.int .i64 e.f0) ∧ W.cell? ⟨(ad.add (i.toNat * 12)).block, (ad.add (i.toNat * 12)).off + 1, none⟩ = some (.string e.f1) ∧ W.cell? ⟨(ad.add (i.toNat * 12)).block, (ad.add (i.toNat * 12)).off + 2, none⟩ = some (.string e.f2) ∧ W.cell? ⟨(ad.add (i.toNat * 12)).block, (ad.add (i.toNat * 12)).off + 3, none⟩ = some (.string e.f3) ∧ W.cell? ⟨(ad.add (i.toNat * 12)).block, (ad.add (i.toNat * 12)).off + 4, none⟩ = some (.int .i64 e.f4.f0) ∧ W.cell? ⟨(ad.add (i.toNat * 12)).block, (ad.add (i.toNat * 12)).off + 5, none⟩ = some (.int .i64 e.f4.f1) ∧ W.cell? ⟨(ad.add (i.toNat * 12)).block, (ad.add (i.toNat * 12)).off + 6, none⟩ = some (.int .i64 e.f4.f2) ∧ W.cell? ⟨(ad.add (i.toNat * 12)).block, (ad.add (i.toNat * 12)).off + 7, none⟩ = some (.string e.f4.f3) ∧ W.cell? ⟨(ad.add (i.toNat * 12)).block, (ad.add (i.toNat * 12)).off + 8, none⟩ = some (.slice A4 e.f4.f4.length c4) ∧ W.cell? ⟨(ad.add (i.toNat * 12)).block, (ad.add (i.toNat * 12)).off + 9, none⟩ = some (.int .i64 e.f5.f0) ∧ W.cell? ⟨(ad.add (i.toNat * 12)).block, (ad.add (i.toNat * 12)).off + 10, none⟩ = some (.int .i64 e.f5.f1) ∧ W.cell? ⟨(ad.add (i.toNat * 12)).block, (ad.add (i.toNat * 12)).off + 11, none⟩ = some (.int .i64 e.f5.f2) from ⟨x0, x1, x2, x3, x4, x5, x6, x7, x8, x9, x10, x11⟩)
      replace x0 := pw_cell_below HK.out.bl x0
      replace x1 := pw_cell_below HK.out.bl x1
      replace x2 := pw_cell_below HK.out.bl x2
      replace x3 := pw_cell_below HK.out.bl x3
      replace x4 := pw_cell_below HK.out.bl x4
      replace x5 := pw_cell_below HK.out.bl x5
      replace x6 := pw_cell_below HK.out.bl x6
      replace x7 := pw_cell_below HK.out.bl x7
      replace x8 := pw_cell_below HK.out.bl x8
      replace x9 := pw_cell_below HK.out.bl x9
      replace x10 := pw_cell_below HK.out.bl x10
      replace x11 := pw_cell_below HK.out.bl x11
      clear hst hmem hri he hl4 hC4 hrb
      go_wp2_with fail
      refine (HRG.out _ HK.out.bl).mono ?_
      rintro r w2 ⟨rfl, hw2⟩
      have HK2 := Lib.hid (HK.out.below hw2)
      obtain ⟨f2, hf2⟩ : ∃ g, g = recol f wr.heap.size 9 := ⟨_, rfl⟩
      rw [← hf2] at HK2
      clear hf2 hw2 HRG x0 x1 x2 x3 x4 x5 x6 x7 x8 x9 x10 x11
      cases rb
      · have HV := Lib.hid (show res = (past0, i, 2) from HSP.out)
        have hr := HK2.out.br
        have r0 : w2.cell? ⟨W.heap.size, 0, none⟩ = some (.slice none 0 0) := (blk_cell hr 0).trans rfl
        have r1 : w2.cell? ⟨W.heap.size, 1, none⟩ = some (.slice none 0 0) := (blk_cell hr 1).trans rfl
        have r2 : w2.cell? ⟨W.heap.size, 2, none⟩ = some (.slice none 0 0) := (blk_cell hr 2).trans rfl
        have z0 := blk_frozen hr 0
        have z1 := blk_frozen hr 1
        have z2 := blk_frozen hr 2
        clear hr HSP
        go_wp2
        exact make_fin HK2.out.br rfl rfl rfl rfl rfl (makeP_bad HV.out (set3w_below HK2.out.bl (Nat.le_refl _) _ _ _))
      have hrt := HRB.out.symm
      have HCV := Lib.hid (fun W1 A1 c1 hC1 => right_copy hrt W1 A1 c1 hC1)
      go_upto_region 9 with fail
      refine wp_region_last_drew (ds := [10, 11]) (S := (fun w => w.cell? ⟨W.heap.size + 1, 0, none⟩ = some (s1) ∧ w.cell? ⟨W.heap.size + 1, 1, none⟩ = some (s2) ∧ w.cell? ⟨W.heap.size + 1, 2, none⟩ = some (cv) ∧ w.cell? (ad.add (i.toNat * 12)) = some (.int .i64 e.f0) ∧ w.cell? ⟨(ad.add (i.toNat * 12)).block, (ad.add (i.toNat * 12)).off + 1, none⟩ = some (.string e.f1) ∧ w.cell? ⟨(ad.add (i.toNat * 12)).block, (ad.add (i.toNat * 12)).off + 2, none⟩ = some (.string e.f2) ∧ w.cell? ⟨(ad.add (i.toNat * 12)).block, (ad.add (i.toNat * 12)).off + 3, none⟩ = some (.string e.f3) ∧ w.cell? ⟨(ad.add (i.toNat * 12)).block, (ad.add (i.toNat * 12)).off + 4, none⟩ = some (.int .i64 e.f4.f0) ∧ w.cell? ⟨(ad.add (i.toNat * 12)).block, (ad.add (i.toNat * 12)).off + 5, none⟩ = some (.int .i64 e.f4.f1) ∧ w.cell? ⟨(ad.add (i.toNat * 12)).block, (ad.add (i.toNat * 12)).off + 6, none⟩ = some (.int .i64 e.f4.f2) ∧ w.cell? ⟨(ad.add (i.toNat * 12)).block, (ad.add (i.toNat * 12)).off + 7, none⟩ = some (.string e.f4.f3) ∧ w.cell? ⟨(ad.add (i.toNat * 12)).block, (ad.add (i.toNat * 12)).off + 8, none⟩ = some (.slice A4 e.f4.f4.length c4) ∧ w.cell? ⟨(ad.add (i.toNat * 12)).block, (ad.add (i.toNat * 12)).off + 9, none⟩ = some (.int .i64 e.f5.f0) ∧ w.cell? ⟨(ad.add (i.toNat * 12)).block, (ad.add (i.toNat * 12)).off + 10, none⟩ = some (.int .i64 e.f5.f1) ∧ w.cell? ⟨(ad.add (i.toNat * 12)).block, (ad.add (i.toNat * 12)).off + 11, none⟩ = some (.int .i64 e.f5.f2))) (by kernel_rfl) ?_ (fun hHeld => ?_)
      · exact rk_cells (w := w2.drew) HK2.out.bx (below_drew HK2.out.bl) HX.out
      refine runL 0 (v := ?vu0) rfl (by kernel_rfl) (fun _ _ _ h => h) (by assumption) (by rfl) ?yu0 ?ru0
      case yu0 => (intro w hSw; (try dsimp only at hSw); go_simp; try with_reducible rfl)
      try simp only [Act.put, List.setIfInBounds_toArray, List.set_cons_zero, List.set_cons_succ]
      refine runL 1 (v := ?vu1) rfl (by kernel_rfl) (fun _ _ _ h => h) (by assumption) (by rfl) ?yu1 ?ru1
      case yu1 => (intro w hSw; (try dsimp only at hSw); go_simp; try with_reducible rfl)
      try simp only [Act.put, List.setIfInBounds_toArray, List.set_cons_zero, List.set_cons_succ]
      refine runL 2 (v := ?vu2) rfl (by kernel_rfl) (fun _ _ _ h => h) (by assumption) (by rfl) ?yu2 ?ru2
      case yu2 => (intro w hSw; (try dsimp only at hSw); go_simp; try with_reducible rfl)
      try simp only [Act.put, List.setIfInBounds_toArray, List.set_cons_zero, List.set_cons_succ]
      refine runL 3 (v := ?vu3) rfl (by kernel_rfl) (fun _ _ _ h => h) (by assumption) (by rfl) ?yu3 ?ru3
      case yu3 => (intro w hSw; (try dsimp only at hSw); go_simp; try with_reducible rfl)
      try simp only [Act.put, List.setIfInBounds_toArray, List.set_cons_zero, List.set_cons_succ]
      refine runL 4 (v := ?vu4) rfl (by kernel_rfl) (fun _ _ _ h => h) (by assumption) (by rfl) ?yu4 ?ru4
      case yu4 => (intro w hSw; (try dsimp only at hSw); go_simp; try with_reducible rfl)
      try simp only [Act.put, List.setIfInBounds_toArray, List.set_cons_zero, List.set_cons_succ]
      refine runL 5 (v := ?vu5) rfl (by kernel_rfl) (fun _ _ _ h => h) (by assumption) (by rfl) ?yu5 ?ru5
      case yu5 => (intro w hSw; (try dsimp only at hSw); go_simp; try with_reducible rfl)
      try simp only [Act.put, List.setIfInBounds_toArray, List.set_cons_zero, List.set_cons_succ]
      refine wpAnyLast_ready (rs := [6]) (by kernel_rfl) (by simp) ?_
      refine AllReadyL.cons rfl (by decide) (fun K hK => ?_) AllReadyL.nil
      go_simp
      go_at_call 59; refine (radd_all w2.drew f2 W.heap.size s1 s2 cv P e A4 c4 i HK2.out.drew.rs (fun k hk => HK2.out.lo k (by omega)) (by omega) (by omega) (by omega) hrt (Kd.F_below HF4.out (below_drew HK2.out.bl)) HCV.out).mono ?_; rintro r w3 ⟨t1, t2, t3, f3, rfl, hr3, hlt3, hT3⟩; obtain ⟨U1, m1, rfl⟩ := Kd.R_slice hr3.pr; obtain ⟨U2, m2, rfl⟩ := Kd.R_slice hr3.ob; obtain ⟨U3, m3, rfl⟩ := Kd.R_slice hr3.cl; obtain ⟨hk3, hx3, hb3⟩ := HK2.out.drew.add hr3 hlt3 hT3; have HK3 := Lib.hid hk3; have HX3 := Lib.hid hx3; have HB3 := Lib.hid hb3; clear hk3 hx3 hb3 hr3 hlt3 hT3
      go_wp2_with fail
      refine hK.out _ _ ?_ (fun hHeld2 => ?_)
      · exact rk_cells HX3.out HB3.out HX.out
      clear hK K hHeld
      rename _ => hHeld
      try simp only [Act.put, List.setIfInBounds_toArray, List.set_cons_zero, List.set_cons_succ]
      refine runL 7 (v := ?vv7) rfl (by kernel_rfl) (fun _ _ _ h => h) (by assumption) (by rfl) ?yv7 ?rv7
      case yv7 => (intro w hSw; (try dsimp only at hSw); go_simp; try with_reducible rfl)
      try simp only [Act.put, List.setIfInBounds_toArray, List.set_cons_zero, List.set_cons_succ]
      refine runL 8 (v := ?vv8) rfl (by kernel_rfl) (fun _ _ _ h => h) (by assumption) (by rfl) ?yv8 ?rv8
      case yv8 => (intro w hSw; (try dsimp only at hSw); go_simp; try with_reducible rfl)
      try simp only [Act.put, List.setIfInBounds_toArray, List.set_cons_zero, List.set_cons_succ]
      refine runPure 9 (v := ?vp9) rfl (by kernel_rfl) (fun _ _ _ h => h) (by rfl) ?yp9 ?rp9
      case yp9 => (intro w; go_simp; try with_reducible rfl)
      try simp only [Act.put, List.setIfInBounds_toArray, List.set_cons_zero, List.set_cons_succ]
      have q0 : w3.cell? ⟨W.heap.size + 1, 0, none⟩ = some (s1) := (blk_cell HX3.out 0).trans rfl
      have q1 : w3.cell? ⟨W.heap.size + 1, 1, none⟩ = some (s2) := (blk_cell HX3.out 1).trans rfl
      have q2 : w3.cell? ⟨W.heap.size + 1, 2, none⟩ = some (cv) := (blk_cell HX3.out 2).trans rfl
      have fz0 := blk_frozen HX3.out 0
      have fz1 := blk_frozen HX3.out 1
      have fz2 := blk_frozen HX3.out 2
      refine wpAnyLast_ready (rs := [10]) (by kernel_rfl) (by simp) ?_
      refine AllReadyL.cons_last rfl (by decide) (fun K hK => ?_) AllReadyL.nil
      go_simp
      skip
      go_wp2_with fail
      refine hK.out _ _ ?_
      clear hK K
      refine wpAnyLast_ready (rs := [11]) (by kernel_rfl) (by simp) ?_
      refine AllReadyL.cons_last rfl (by decide) (fun K hK => ?_) AllReadyL.nil
      go_simp
      skip
      go_wp2_with fail
      refine hK.out _ _ ?_
      clear hK K hHeld
      try simp only [Act.put, List.setIfInBounds_toArray, List.set_cons_zero, List.set_cons_succ]
      refine wpAnyLast_done (by kernel_rfl) ?_ _
      have hln := HLN.out
      have hfb := fpB_add HFB.out e i
      have hbr3 := HK3.out.br
      rw [set3w_far _ _ _ _ (by omega)] at hbr3
      have HSP2 := Lib.hid (show res = rEnd E.length (if (raddR P e i).2 = 0 then rgoE (E.drop (i + 1).toNat) (i + 1) (raddR P e i).1 else .bad i (raddR P e i).2) from HSP.out)
      obtain ⟨⟨P', k⟩, hP'⟩ : ∃ q, q = raddR P e i := ⟨_, rfl⟩
      rw [← hP'] at hln hfb HK3 HSP2 ⊢
      simp only at hln hfb HK3 HSP2 ⊢
      have HFB2 := Lib.hid hfb
      clear hP' HSP HLN q0 q1 q2 fz0 fz1 fz2 hfb
      by_cases hk0 : k = 0
      · have g0 : (k != 0) = false := by rw [bne_eq_false_iff_eq]; exact hk0
        have HSP3 := Lib.hid (show res = rEnd E.length (rgoE (E.drop (i + 1).toNat) (i + 1) P') from by rw [HSP2.out, if_pos hk0])
        clear hk0 HSP2 hbr3
        go_wp2
        go_roundw
        case rel => exact ⟨i + 1, f3, _, _, _, P', rfl, by omega, by omega, by omega, by omega, by omega, HSP3.out, HFB2.out, HK3.out⟩
        case measure => simp [intOf]; omega
      · have g0 : (k != 0) = true := by rw [bne_iff_ne]; exact hk0
        have HV := Lib.hid (show res = (past0, i, k) from by rw [HSP2.out, if_neg hk0]; rfl)
        have r0 : w3.cell? ⟨W.heap.size, 0, none⟩ = some (.slice none 0 0) := (blk_cell hbr3 0).trans rfl
        have r1 : w3.cell? ⟨W.heap.size, 1, none⟩ = some (.slice none 0 0) := (blk_cell hbr3 1).trans rfl
        have r2 : w3.cell? ⟨W.heap.size, 2, none⟩ = some (.slice none 0 0) := (blk_cell hbr3 2).trans rfl
        have z0 := blk_frozen hbr3 0
        have z1 := blk_frozen hbr3 1
        have z2 := blk_frozen hbr3 2
        clear hk0 HSP2 hbr3
        go_wp2
        exact make_fin HK3.out.br rfl rfl rfl rfl rfl (makeP_bad HV.out (set3w_below HK3.out.bl (Nat.le_refl _) _ _ _))
    · have HL0 := Lib.hid (show res = (match rlgFrom P.cl (E.length - (0 : Int).toNat) 0 with | some j => (past0, j, 72) | none => (P, 0, 0)) from by
        rw [HG.out, List.drop_eq_nil_of_le (by omega)]; rfl)
      have HFP := Lib.hid (show ∀ q : Int, 0 ≤ q → q < (P.cl.length : Int) → 0 ≤ (rd_T50 P.cl q).f0 ∧ (rd_T50 P.cl q).f0 ≤ 1000000 from fun q h0 h1 => by
        obtain ⟨n, rfl⟩ : ∃ n : Nat, q = (n : Int) := ⟨q.toNat, by omega⟩
        have := HFB.out n (by omega)
        omega)
      have hge : (E.length : Int) ≤ i := by omega
      obtain ⟨A1, n1, hv1, _, _⟩ := Kd.R_reads HK.out.rs.pr
      obtain ⟨A2, n2, hv2, _, _⟩ := Kd.R_reads HK.out.rs.ob
      obtain ⟨A3, n3, hv3, _, _⟩ := Kd.R_reads HK.out.rs.cl
      subst hv1 hv2 hv3
      clear hlt HG
      go_wp2
      go_loopw [9] (fun jv wr => ∃ (j : Int) (f : Nat → Nat), jv = .int .i64 j ∧ 0 ≤ j ∧ j ≤ (E.length : Int) ∧ Hid (res = (match rlgFrom P.cl (E.length - j.toNat) j with | some j => (past0, j, 72) | none => (P, 0, 0))) ∧ Hid (RkS f W wr (.slice A1 P.pr.length n1) (.slice A2 P.ob.length n2) (.slice A3 P.cl.length n3) P)) (fun j _ => E.length - (intOf j).toNat)
      case atStart => exact ⟨0, f, rfl, by omega, by omega, HL0.out, HK.out⟩
      case round =>
        clear HK HL0
        obtain ⟨j, f, rfl, hj0, hj1, HL, HK⟩ := hrel
        have hb := HK.out.bx
        have p0 : wr.cell? ⟨W.heap.size + 1, 0, none⟩ = some (.slice A1 P.pr.length n1) := (blk_cell hb 0).trans rfl
        have p1 : wr.cell? ⟨W.heap.size + 1, 1, none⟩ = some (.slice A2 P.ob.length n2) := (blk_cell hb 1).trans rfl
        have p2 : wr.cell? ⟨W.heap.size + 1, 2, none⟩ = some (.slice A3 P.cl.length n3) := (blk_cell hb 2).trans rfl
        by_cases hlt : j < (E.length : Int)
        · have HLA := Lib.hid (large_any wr (.slice A1 P.pr.length n1) (.slice A2 P.ob.length n2) P.cl A3 n3 j (Kd.R_reads' HK.out.rs.cl).2.2 rfl rfl (by omega) HFP.out)
          have hls := HL.out
          rw [rlg_step P.cl E.length j hj0 hlt] at hls
          obtain ⟨lb, hlb⟩ : ∃ b, b = largeF P.cl j := ⟨_, rfl⟩
          rw [← hlb] at HLA hls
          have HLS := Lib.hid hls
          clear hls hlb
          clear hb
          go_wp2_with fail
          refine HLA.out.mono ?_
          rintro r w2 ⟨rfl, hw2⟩
          have HK2 := Lib.hid (HK.out.below hw2)
          clear hw2 HLA
          cases lb
          rotate_left
          · have HV := Lib.hid (show res = (past0, j, 72) from HLS.out)
            have hr := HK2.out.br
            have r0 : w2.cell? ⟨W.heap.size, 0, none⟩ = some (.slice none 0 0) := (blk_cell hr 0).trans rfl
            have r1 : w2.cell? ⟨W.heap.size, 1, none⟩ = some (.slice none 0 0) := (blk_cell hr 1).trans rfl
            have r2 : w2.cell? ⟨W.heap.size, 2, none⟩ = some (.slice none 0 0) := (blk_cell hr 2).trans rfl
            have z0 := blk_frozen hr 0
            have z1 := blk_frozen hr 1
            have z2 := blk_frozen hr 2
            clear hr HLS
            go_wp2
            exact make_fin HK2.out.br rfl rfl rfl rfl rfl (makeP_bad HV.out (set3w_below HK2.out.bl (Nat.le_refl _) _ _ _))
          have HL2 := Lib.hid (show res = (match rlgFrom P.cl (E.length - (j + 1).toNat) (j + 1) with | some j => (past0, j, 72) | none => (P, 0, 0)) from HLS.out)
          go_wp2
          go_roundw
          case rel => exact ⟨j + 1, _, rfl, by omega, by omega, HL2.out, HK2.out⟩
          case measure => simp [intOf]; omega
        · have hge2 : (E.length : Int) ≤ j := by omega
          have HV := Lib.hid (show res = (P, 0, 0) from by rw [HL.out, show E.length - j.toNat = 0 by omega]; rfl)
          have hr := HK.out.br
          have r0 : wr.cell? ⟨W.heap.size, 0, none⟩ = some (.slice none 0 0) := (blk_cell hr 0).trans rfl
          have r1 : wr.cell? ⟨W.heap.size, 1, none⟩ = some (.slice none 0 0) := (blk_cell hr 1).trans rfl
          have r2 : wr.cell? ⟨W.heap.size, 2, none⟩ = some (.slice none 0 0) := (blk_cell hr 2).trans rfl
          have z0 := blk_frozen hr 0
          have z1 := blk_frozen hr 1
          have z2 := blk_frozen hr 2
          have hww : W.heap.size + 1 < wr.heap.size := blk_lt hb
          clear hlt hb hr
          go_wp2
          obtain ⟨Wf, hWf⟩ : ∃ Wf, Wf = set3w W.heap.size (.slice A1 P.pr.length n1) (.slice A2 P.ob.length n2) (.slice A3 P.cl.length n3) wr := ⟨_, rfl⟩
          change bodyPost _ _ _ _ _ (set3w W.heap.size (.slice A1 P.pr.length n1) (.slice A2 P.ob.length n2) (.slice A3 P.cl.length n3) wr)
          rw [← hWf]
          have hRf : Wf.heap[W.heap.size]? = some (.cells #[.slice A1 P.pr.length n1, .slice A2 P.ob.length n2, .slice A3 P.cl.length n3] 30 (0, 0)) := by rw [hWf]; exact set3w_at _ _ _ HK.out.br
          have t0 : Wf.cell? ⟨W.heap.size, 0, none⟩ = some (.slice A1 P.pr.length n1) := (blk_cell hRf 0).trans rfl
          have t1 : Wf.cell? ⟨W.heap.size, 1, none⟩ = some (.slice A2 P.ob.length n2) := (blk_cell hRf 1).trans rfl
          have t2 : Wf.cell? ⟨W.heap.size, 2, none⟩ = some (.slice A3 P.cl.length n3) := (blk_cell hRf 2).trans rfl
          have h0 : f W.heap.size = 0 := HK.out.lo _ (by omega)
          have hrs : RsF f W.heap.size Wf (.slice A1 P.pr.length n1) (.slice A2 P.ob.length n2) (.slice A3 P.cl.length n3) P := by rw [hWf]; exact ((HK.out.rs.set0 h0 0 _).set0 h0 1 _).set0 h0 2 _
          have hBf : Below W.heap.size W Wf := by rw [hWf]; exact set3w_below HK.out.bl (Nat.le_refl _) _ _ _
          exact bodyPost_ret (v := .tuple #[.agg #[.slice A1 P.pr.length n1, .slice A2 P.ob.length n2, .slice A3 P.cl.length n3], .int .i64 0, .int .i64 0]) (by simp [results, Try.results16, go_sem, t0, t1, t2]) rfl (by rw [HV.out]; exact ⟨_, _, _, rfl, Kd.R_mono hrs.pr (fun _ _ => trivial), Kd.R_mono hrs.ob (fun _ _ => trivial), Kd.R_mono hrs.cl (fun _ _ => trivial), hBf⟩)
end Go.Proofs.Ytofinglgnkdflaa
