/- Layer 8: the law's own small row of events. -/
import Derived.Test.YtofinglgnkdflaaLXG
import Derived.BigQuiet
section
namespace Go.Proofs.Ytofinglgnkdflaa
open Go.RowKit
open Go.Proofs.Ytofinglgnkdflaa.PHistoryChecks Go.Proofs.YtofinglgnkdflaaW.PrintWords Go.Proofs.YtofinglgnkdflaaW.PrintLast Go.Proofs.YtofinglgnkdflaaW.PrintMore
set_option linter.unusedVariables false
set_option linter.unusedSimpArgs false
def befB (cl : List S50) (a b : Int) : Bool := decide (0 ≤ a) && (decide (a < (cl.length : Int)) && (decide (0 ≤ b) && (decide (b < (cl.length : Int)) && (decide (0 ≤ (rd_T50 cl a).f5) && decide ((rd_T50 cl a).f5 < (rd_T50 cl b).f4)))))
set_option maxHeartbeats 4000000 in
set_option maxRecDepth 100000 in
theorem Before_any (W : World) (P : PastL) (R : Rw3) (a b : Int) (hR : RdP W P R) :
    Calls Try.prog 29 #[.agg (cP P R), .int .i64 a, .int .i64 b] W (fun e w' => e = .returned (.bool (befB P.cl a b)) ∧ Below W.heap.size W w') := by
  obtain ⟨r, hr⟩ : ∃ r, r = befB P.cl a b := ⟨_, rfl⟩
  rw [← hr]
  have HQ := Lib.hid hr
  have h3 := Lib.hid hR.cl
  obtain ⟨a1, c1, a2, c2, a3, c3⟩ := R
  have HB0 := Lib.hid (below_alloc (Below.refl W.heap.size W) (.cells (cP P ⟨a1, c1, a2, c2, a3, c3⟩) 30))
  unfold cP at HB0 ⊢
  obtain ⟨l, hle⟩ : ∃ l, l = P.cl := ⟨_, rfl⟩
  rw [← hle] at h3 HQ HB0 ⊢
  have hlm := Kd.C_max h3.out
  clear hR hr hle
  go_enter Try.func29, Try.ntmps29
  by_cases h0 : 0 ≤ a
  · by_cases h1 : a < (l.length : Int)
    · obtain ⟨ad, A7, c7, A14, c14, rfl, x0, x1, x2, x3, x4, x5, x6, x7, x8, x9, x10, x11, x12, x13, x14, _⟩ := at_T50 h3.out a h0 h1
      clear x0 x1 x2 x3 x4 x5 x6 x7 x8 x10 x11 x12 x13 x14
      by_cases h2 : 0 ≤ b
      · by_cases h4 : b < (l.length : Int)
        · obtain ⟨bd, B7, d7, B14, d14, hbd, y0, y1, y2, y3, y4, y5, y6, y7, y8, y9, y10, y11, y12, y13, y14, _⟩ := at_T50 h3.out b h2 h4
          cases hbd
          clear y0 y1 y2 y3 y4 y5 y6 y7 y9 y10 y11 y12 y13 y14
          have hyb : (ad.add (b.toNat * 15)).block < W.heap.size := by have h := World.block_lt_of_cell? W _ y8; exact h
          have hxb : (ad.add (a.toNat * 15)).block < W.heap.size := by have h := World.block_lt_of_cell? W _ x9; exact h
          have hab : ad.block < W.heap.size := by rw [← add_block ad (a.toNat * 15)]; exact hxb
          obtain ⟨fx, hfx⟩ : ∃ v, v = (rd_T50 l a).f5 := ⟨_, rfl⟩
          obtain ⟨fy, hfy⟩ : ∃ v, v = (rd_T50 l b).f4 := ⟨_, rfl⟩
          rw [← hfx] at x9
          rw [← hfy] at y8
          by_cases h5 : 0 ≤ fx
          · have HR := Lib.hid (show r = decide (fx < fy) from by rw [HQ.out]; unfold befB; rw [decide_eq_true h0, decide_eq_true h1, decide_eq_true h2, decide_eq_true h4, ← hfx, decide_eq_true h5, ← hfy]; rfl)
            clear hfx hfy
            go_wp2
            go_quiet (fail)
            go_wp2
            go_ret
            exact ⟨by rw [HR.out]; rfl, by first | exact HB0.out | exact below_drew HB0.out | exact pw_below_drewN HB0.out _⟩
          · have HR := Lib.hid (show r = false from by rw [HQ.out]; unfold befB; rw [← hfx, decide_eq_false h5]; simp)
            have hd : decide (0 ≤ fx) = false := decide_eq_false h5
            clear h5 hfx hfy
            go_wp2
            go_quiet (fail)
            go_wp2
            go_ret
            exact ⟨by rw [HR.out]; rfl, by first | exact HB0.out | exact below_drew HB0.out | exact pw_below_drewN HB0.out _⟩
        · have HR := Lib.hid (show r = false from by rw [HQ.out]; unfold befB; rw [decide_eq_false h4]; simp)
          have hd : decide (b < (l.length : Int)) = false := decide_eq_false h4
          clear h4
          go_wp2
          go_quiet (fail)
          go_wp2
          go_ret
          exact ⟨by rw [HR.out]; rfl, by first | exact HB0.out | exact below_drew HB0.out | exact pw_below_drewN HB0.out _⟩
      · have HR := Lib.hid (show r = false from by rw [HQ.out]; unfold befB; rw [decide_eq_false h2]; simp)
        have hd : decide (0 ≤ b) = false := decide_eq_false h2
        clear h2
        go_wp2
        go_quiet (fail)
        go_wp2
        go_ret
        exact ⟨by rw [HR.out]; rfl, by first | exact HB0.out | exact below_drew HB0.out | exact pw_below_drewN HB0.out _⟩
    · have HR := Lib.hid (show r = false from by rw [HQ.out]; unfold befB; rw [decide_eq_false h1]; simp)
      have hd : decide (a < (l.length : Int)) = false := decide_eq_false h1
      clear h1
      go_wp2
      go_quiet (fail)
      go_wp2
      go_ret
      exact ⟨by rw [HR.out]; rfl, by first | exact HB0.out | exact below_drew HB0.out | exact pw_below_drewN HB0.out _⟩
  · have HR := Lib.hid (show r = false from by rw [HQ.out]; unfold befB; rw [decide_eq_false h0]; simp)
    have hd : decide (0 ≤ a) = false := decide_eq_false h0
    clear h0
    go_wp2
    go_quiet (fail)
    go_wp2
    go_ret
    exact ⟨by rw [HR.out]; rfl, by first | exact HB0.out | exact below_drew HB0.out | exact pw_below_drewN HB0.out _⟩
end Go.Proofs.Ytofinglgnkdflaa
end
section
namespace Go.Proofs.Ytofinglgnkdflaa
open Go.RowKit
open Go.Proofs.Ytofinglgnkdflaa.PHistoryChecks Go.Proofs.YtofinglgnkdflaaW.PrintWords Go.Proofs.YtofinglgnkdflaaW.PrintLast Go.Proofs.YtofinglgnkdflaaW.PrintMore
set_option linter.unusedVariables false
set_option linter.unusedSimpArgs false
end Go.Proofs.Ytofinglgnkdflaa
end
section
namespace Go.Proofs.Ytofinglgnkdflaa
open Go.RowKit
open Go.Proofs.Ytofinglgnkdflaa.PHistoryChecks Go.Proofs.YtofinglgnkdflaaW.PrintWords Go.Proofs.YtofinglgnkdflaaW.PrintLast Go.Proofs.YtofinglgnkdflaaW.PrintMore
set_option linter.unusedVariables false
set_option linter.unusedSimpArgs false
theorem info3' : (Try.prog.info? 3).map (fun i => (i.zero, i.size, i.bytes)) = some (some (.int .i64 0), 1, 8) := by kernel_rfl
theorem under68 : Try.prog.underlying 68 = some (.slice 3) := by kernel_rfl
def opB (t : Int) (c : S50) : Bool := decide (c.f4 < t) && (decide (c.f5 < 0) || decide (t ≤ c.f5))
end Go.Proofs.Ytofinglgnkdflaa
end
section
namespace Go.Proofs.Ytofinglgnkdflaa
open Go.RowKit
open Go.Proofs.Ytofinglgnkdflaa.PHistoryChecks Go.Proofs.YtofinglgnkdflaaW.PrintWords Go.Proofs.YtofinglgnkdflaaW.PrintLast Go.Proofs.YtofinglgnkdflaaW.PrintMore
set_option linter.unusedVariables false
set_option linter.unusedSimpArgs false
def ixFrom (s : ByteArray) : List ByteArray → Int → Int
  | [], _ => -1
  | x :: l, i => if s.toList == x.toList then i else ixFrom s l (i + 1)
theorem ixFrom_step (s : ByteArray) (l : List ByteArray) (i : Int) (h0 : 0 ≤ i) (h1 : i < (l.length : Int)) : ixFrom s (l.drop i.toNat) i = if s.toList == (rdOf ByteArray.empty l i).toList then i else ixFrom s (l.drop (i + 1).toNat) (i + 1) := by
  have hn : i.toNat < l.length := by omega
  have e2 : (i + 1).toNat = i.toNat + 1 := by omega
  rw [e2, List.drop_eq_getElem_cons hn]
  simp only [ixFrom]
  unfold rdOf
  rw [List.getD_eq_getElem?_getD, List.getElem?_eq_getElem hn]; rfl
theorem ixFrom_end (s : ByteArray) (l : List ByteArray) (i : Int) (h1 : ¬ i < (l.length : Int)) : ixFrom s (l.drop i.toNat) i = -1 := by
  rw [List.drop_eq_nil_of_le (by omega)]; rfl
end Go.Proofs.Ytofinglgnkdflaa
end
section
namespace Go.Proofs.Ytofinglgnkdflaa
open Go.RowKit
open Go.Proofs.Ytofinglgnkdflaa.PHistoryChecks Go.Proofs.YtofinglgnkdflaaW.PrintWords Go.Proofs.YtofinglgnkdflaaW.PrintLast Go.Proofs.YtofinglgnkdflaaW.PrintMore
set_option linter.unusedVariables false
set_option linter.unusedSimpArgs false
theorem chunk_app {sz j : Nat} (pre c post : List Value) (hp : pre.length = j * sz) (hc : c.length = sz) : Chunk sz (pre ++ (c ++ post)).toArray j c := by
  refine ⟨hc, fun o u hu => ?_⟩
  have ho : o < c.length := (List.getElem?_eq_some_iff.1 hu).1
  rw [List.getElem?_toArray, ← hp, List.getElem?_append_right (by omega), show pre.length + o - pre.length = o by omega, List.getElem?_append_left ho]
  exact hu
def smallC (l : List S47) : List Value := l.flatMap fun x => (c47 x none 0).toList
end Go.Proofs.Ytofinglgnkdflaa
end
