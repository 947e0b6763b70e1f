/- The reference of layer 7: add, where an event is at fault. -/
import Derived.Test.YtofinglgnkdflaaLQk
import Derived.Test.YtofinglgnkdflaaLXQ
namespace Go.Proofs.Ytofinglgnkdflaa
open Go.RowKit
open Go.Proofs.Ytofinglgnkdflaa.PHistoryChecks Go.Proofs.YtofinglgnkdflaaW.PrintWords Go.Proofs.YtofinglgnkdflaaW.PrintLast Go.Proofs.YtofinglgnkdflaaW.PrintMore
set_option linter.unusedVariables false
set_option linter.unusedSimpArgs false
theorem add_fin {f g : Nat → Nat} {B : Nat} {W w : World} {e : S47} {A : Option Addr} {c : Nat} {s1 s2 cv : Value} {P : PastL} {act : Act} {code : Int} (h : AdS f g B W e A c w s1 s2 cv s1 s2 cv P) (h6 : act.tmps[6]? = some (.pointer (some ⟨W.heap.size + 2, 0, none⟩))) (h7 : act.tmps[7]? = some (.int .i64 code)) (hd : act.defers = []) :
    bodyPost Try.prog Try.f59 (AddP f B W P code) Exit.ret act (set3w (W.heap.size + 2) s1 s2 cv w) := by
  obtain ⟨Wf, hWf⟩ : ∃ Wf, Wf = set3w (W.heap.size + 2) s1 s2 cv w := ⟨_, rfl⟩
  rw [← hWf]
  have hRf : Wf.heap[W.heap.size + 2]? = some (.cells #[s1, s2, cv] 30 (0, 0)) := by rw [hWf]; exact set3w_at _ _ _ h.xr
  have t0 : Wf.cell? ⟨W.heap.size + 2, 0, none⟩ = some s1 := (blk_cell hRf 0).trans rfl
  have t1 : Wf.cell? ⟨W.heap.size + 2, 1, none⟩ = some s2 := (blk_cell hRf 1).trans rfl
  have t2 : Wf.cell? ⟨W.heap.size + 2, 2, none⟩ = some cv := (blk_cell hRf 2).trans rfl
  refine bodyPost_ret (v := .tuple #[.agg #[s1, s2, cv], .int .i64 code]) (by simp [results, Try.results59, go_sem, h6, h7, t0, t1, t2]) hd ⟨_, _, _, g, rfl, ?_, h.lt, ?_⟩
  · rw [hWf]; exact ((h.rs.set h.c2 0 _).set h.c2 1 _).set h.c2 2 _
  · rw [hWf]; exact ((h.tu.set (W.heap.size + 2) 0 _ (fun hl => absurd hl (by omega))).set (W.heap.size + 2) 1 _ (fun hl => absurd hl (by omega))).set (W.heap.size + 2) 2 _ (fun hl => absurd hl (by omega))
set_option maxHeartbeats 8000000 in
set_option maxRecDepth 100000 in
theorem add_bad (W : World) (f : Nat → Nat) (B : Nat) (s1 s2 cv : Value) (P : PastL) (e : S47) (A : Option Addr) (c : Nat) (at_ : Int) (h : RsF f B W s1 s2 cv P) (h12 : e.f0 = 1 ∨ e.f0 = 2) (hg : rgoodB P e = false) :
    Calls Try.prog 59 #[.agg #[s1, s2, cv], .agg (c47 e A c), .int .i64 at_] W (AddP f B W P (if e.f0 = 2 then 70 else 71)) := by
  obtain ⟨A1, n1, hv1, hl1, _⟩ := Kd.R_reads h.pr
  obtain ⟨A2, n2, hv2, hl2, _⟩ := Kd.R_reads h.ob
  obtain ⟨A3, n3, hv3, hl3, _⟩ := Kd.R_reads h.cl
  subst hv1 hv2 hv3
  have HS3 := Lib.hid (add_start (e := e) (A := A) (c := c) h)
  obtain ⟨g3, hg3⟩ : ∃ g, g = recol f W.heap.size 7 := ⟨_, rfl⟩
  rw [← hg3] at HS3
  obtain ⟨pi, hpi⟩ : ∃ o, o = ixFrom e.f1 P.pr 0 := ⟨_, rfl⟩
  obtain ⟨oi, hoi⟩ : ∃ o, o = opnF P.cl pi := ⟨_, rfl⟩
  have hpb := ixFrom_bound e.f1 P.pr
  obtain ⟨code, hcode⟩ : ∃ k : Int, k = if e.f0 = 2 then 70 else 71 := ⟨_, rfl⟩
  rw [← hcode]
  have HCO := Lib.hid hcode
  have H12 := Lib.hid h12
  clear hcode h12
  unfold rgoodB at hg
  rw [← hpi] at hg hpb
  rw [← hoi] at hg
  have HG := Lib.hid hg
  have HPI := Lib.hid hpi
  have HOI := Lib.hid hoi
  clear hg3 h hpi hoi hg
  go_enter Try.func59, Try.ntmps59
  unfold c47
  go_upto_region 1 with fail
  obtain ⟨w3, hw3⟩ : ∃ w3, w3 = ((W.alloc (.cells #[.slice A1 P.pr.length n1, .slice A2 P.ob.length n2, .slice A3 P.cl.length n3] 30)).alloc (.cells (c47 e A c) 47)).alloc (.cells #[.slice none 0 0, .slice none 0 0, .slice none 0 0] 30) := ⟨_, rfl⟩
  rw [← hw3] at HS3
  unfold c47 at hw3
  rw [← hw3, show W.heap.size + 1 + 1 = W.heap.size + 2 from rfl]
  clear hw3
  have p0 : w3.cell? ⟨W.heap.size, 0, none⟩ = some (.slice A1 P.pr.length n1) := (blk_cell HS3.out.xp 0).trans rfl
  have p1 : w3.cell? ⟨W.heap.size, 1, none⟩ = some (.slice A2 P.ob.length n2) := (blk_cell HS3.out.xp 1).trans rfl
  have p2 : w3.cell? ⟨W.heap.size, 2, none⟩ = some (.slice A3 P.cl.length n3) := (blk_cell HS3.out.xp 2).trans rfl
  obtain ⟨y0, y1, y2, y3, y4, y5, y6, y7, y8⟩ := box47 HS3.out.xe
  have hsz : W.heap.size + 2 < w3.heap.size := HS3.out.size
  go_wp2_with fail
  refine (find_any P.pr e.f1 A1 n1 _ (Kd.R_reads' HS3.out.rs.pr).2.2 hl1).mono ?_
  rintro r w4 ⟨rfl, hw4⟩
  have HS4 := Lib.hid (HS3.out.below hw4)
  obtain ⟨g4, hg4⟩ : ∃ g, g = recol g3 w3.heap.size 9 := ⟨_, rfl⟩
  rw [← hg4] at HS4
  clear hg4 hw4 HS3 p0 p1 p2 y0 y1 y2 y3 y4 y5 y6 y7 y8 hsz
  rw [← HPI.out]
  have p0 : w4.cell? ⟨W.heap.size, 0, none⟩ = some (.slice A1 P.pr.length n1) := (blk_cell HS4.out.xp 0).trans rfl
  have p1 : w4.cell? ⟨W.heap.size, 1, none⟩ = some (.slice A2 P.ob.length n2) := (blk_cell HS4.out.xp 1).trans rfl
  have p2 : w4.cell? ⟨W.heap.size, 2, none⟩ = some (.slice A3 P.cl.length n3) := (blk_cell HS4.out.xp 2).trans rfl
  obtain ⟨y0, y1, y2, y3, y4, y5, y6, y7, y8⟩ := box47 HS4.out.xe
  have hsz : W.heap.size + 2 < w4.heap.size := HS4.out.size
  by_cases h2 : e.f0 = 2
  · have h2' : (e.f0 == 2) = true := by rw [beq_iff_eq]; exact h2
    obtain rfl : code = 70 := by rw [HCO.out, if_pos h2]
    have hg := HG.out
    rw [if_pos h2] at hg
    clear h2 HG HCO
    by_cases hp0 : pi < 0
    · have d0 : decide (pi ≥ 0) = false := decide_eq_false (by omega)
      have r0 : w4.cell? ⟨W.heap.size + 2, 0, none⟩ = some (.slice none 0 0) := (blk_cell HS4.out.xr 0).trans rfl
      have r1 : w4.cell? ⟨W.heap.size + 2, 1, none⟩ = some (.slice none 0 0) := (blk_cell HS4.out.xr 1).trans rfl
      have r2 : w4.cell? ⟨W.heap.size + 2, 2, none⟩ = some (.slice none 0 0) := (blk_cell HS4.out.xr 2).trans rfl
      have z0 := blk_frozen HS4.out.xr 0
      have z1 := blk_frozen HS4.out.xr 1
      have z2 := blk_frozen HS4.out.xr 2
      go_wp2
      exact add_fin HS4.out rfl rfl rfl
    · have d0 : decide (pi ≥ 0) = true := decide_eq_true (by omega)
      have ho : oi < 0 := by
        rw [decide_eq_true (show 0 ≤ pi by omega), Bool.true_and, decide_eq_false_iff_not] at hg; omega
      go_wp2_with fail
      refine (ropen_any _ _ _ P.cl A3 n3 pi (Kd.R_reads' HS4.out.rs.cl).2.2 rfl rfl).mono ?_
      rintro r w5 ⟨rfl, hw5⟩
      have HS5 := Lib.hid (HS4.out.below hw5)
      obtain ⟨g5, hg5⟩ : ∃ g, g = recol g4 w4.heap.size 9 := ⟨_, rfl⟩
      rw [← hg5] at HS5
      clear hg5 hw5 HS4 p0 p1 p2 y0 y1 y2 y3 y4 y5 y6 y7 y8 hsz
      rw [← HOI.out]
      have p0 : w5.cell? ⟨W.heap.size, 0, none⟩ = some (.slice A1 P.pr.length n1) := (blk_cell HS5.out.xp 0).trans rfl
      have p1 : w5.cell? ⟨W.heap.size, 1, none⟩ = some (.slice A2 P.ob.length n2) := (blk_cell HS5.out.xp 1).trans rfl
      have p2 : w5.cell? ⟨W.heap.size, 2, none⟩ = some (.slice A3 P.cl.length n3) := (blk_cell HS5.out.xp 2).trans rfl
      obtain ⟨y0, y1, y2, y3, y4, y5, y6, y7, y8⟩ := box47 HS5.out.xe
      have hsz : W.heap.size + 2 < w5.heap.size := HS5.out.size
      have d1 : decide (oi < 0) = true := decide_eq_true ho
      have r0 : w5.cell? ⟨W.heap.size + 2, 0, none⟩ = some (.slice none 0 0) := (blk_cell HS5.out.xr 0).trans rfl
      have r1 : w5.cell? ⟨W.heap.size + 2, 1, none⟩ = some (.slice none 0 0) := (blk_cell HS5.out.xr 1).trans rfl
      have r2 : w5.cell? ⟨W.heap.size + 2, 2, none⟩ = some (.slice none 0 0) := (blk_cell HS5.out.xr 2).trans rfl
      have z0 := blk_frozen HS5.out.xr 0
      have z1 := blk_frozen HS5.out.xr 1
      have z2 := blk_frozen HS5.out.xr 2
      go_wp2
      exact add_fin HS5.out rfl rfl rfl
  · have h1 : e.f0 = 1 := by rcases H12.out with h | h
                             · exact h
                             · exact absurd h h2
    have h2' : (e.f0 == 2) = false := by rw [beq_eq_false_iff_ne]; exact h2
    obtain rfl : code = 71 := by rw [HCO.out, if_neg h2]
    have hg := HG.out
    rw [if_neg h2] at hg
    rw [decide_eq_true h1, Bool.true_and, Bool.or_eq_false_iff, decide_eq_false_iff_not, decide_eq_false_iff_not] at hg
    have d0 : decide (pi ≥ 0) = true := decide_eq_true (by omega)
    have d1 : decide (oi ≥ 0) = true := decide_eq_true (by omega)
    clear h1 h2 H12 HG HCO
    go_wp2_with fail
    refine (ropen_any _ _ _ P.cl A3 n3 pi (Kd.R_reads' HS4.out.rs.cl).2.2 rfl rfl).mono ?_
    rintro r w5 ⟨rfl, hw5⟩
    have HS5 := Lib.hid (HS4.out.below hw5)
    obtain ⟨g5, hg5⟩ : ∃ g, g = recol g4 w4.heap.size 9 := ⟨_, rfl⟩
    rw [← hg5] at HS5
    clear hg5 hw5 HS4 p0 p1 p2 y0 y1 y2 y3 y4 y5 y6 y7 y8 hsz
    rw [← HOI.out]
    have p0 : w5.cell? ⟨W.heap.size, 0, none⟩ = some (.slice A1 P.pr.length n1) := (blk_cell HS5.out.xp 0).trans rfl
    have p1 : w5.cell? ⟨W.heap.size, 1, none⟩ = some (.slice A2 P.ob.length n2) := (blk_cell HS5.out.xp 1).trans rfl
    have p2 : w5.cell? ⟨W.heap.size, 2, none⟩ = some (.slice A3 P.cl.length n3) := (blk_cell HS5.out.xp 2).trans rfl
    obtain ⟨y0, y1, y2, y3, y4, y5, y6, y7, y8⟩ := box47 HS5.out.xe
    have hsz : W.heap.size + 2 < w5.heap.size := HS5.out.size
    have r0 : w5.cell? ⟨W.heap.size + 2, 0, none⟩ = some (.slice none 0 0) := (blk_cell HS5.out.xr 0).trans rfl
    have r1 : w5.cell? ⟨W.heap.size + 2, 1, none⟩ = some (.slice none 0 0) := (blk_cell HS5.out.xr 1).trans rfl
    have r2 : w5.cell? ⟨W.heap.size + 2, 2, none⟩ = some (.slice none 0 0) := (blk_cell HS5.out.xr 2).trans rfl
    have z0 := blk_frozen HS5.out.xr 0
    have z1 := blk_frozen HS5.out.xr 1
    have z2 := blk_frozen HS5.out.xr 2
    go_wp2
    exact add_fin HS5.out rfl rfl rfl
end Go.Proofs.Ytofinglgnkdflaa
