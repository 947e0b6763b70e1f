/- Layer 8: the law's own small row of events. -/
import Derived.Test.YtofinglgnkdflaaKXG
import Derived.BigQuiet
section
namespace Go.Proofs.Ytofinglgnkdflaa
open Go.RowKit
open Go.Proofs.Ytofinglgnkdflaa.PHistoryChecks Go.Proofs.YtofinglgnkdflaaW.PrintWords Go.Proofs.YtofinglgnkdflaaW.PrintLast Go.Proofs.YtofinglgnkdflaaW.PrintMore
set_option linter.unusedVariables false
set_option linter.unusedSimpArgs false
def befB (cl : List S50) (a b : Int) : Bool := decide (0 ≤ a) && (decide (a < (cl.length : Int)) && (decide (0 ≤ b) && (decide (b < (cl.length : Int)) && (decide (0 ≤ (rd_T50 cl a).f5) && decide ((rd_T50 cl a).f5 < (rd_T50 cl b).f4)))))
end Go.Proofs.Ytofinglgnkdflaa
end
section
namespace Go.Proofs.Ytofinglgnkdflaa
open Go.RowKit
open Go.Proofs.Ytofinglgnkdflaa.PHistoryChecks Go.Proofs.YtofinglgnkdflaaW.PrintWords Go.Proofs.YtofinglgnkdflaaW.PrintLast Go.Proofs.YtofinglgnkdflaaW.PrintMore
set_option linter.unusedVariables false
set_option linter.unusedSimpArgs false
def widNow (e : S47) (now : Int) : Int := if e.f0 = 1 then now + 1 else now - 1
def widGo : List S47 → Int → Int → Int
  | [], _, wide => wide
  | e :: l, now, wide => widGo l (widNow e now) (max wide (widNow e now))
theorem widGo_step (l : List S47) (i now wide : Int) (h0 : 0 ≤ i) (h1 : i < (l.length : Int)) : widGo (l.drop i.toNat) now wide = widGo (l.drop (i + 1).toNat) (widNow (rd_T47 l i) now) (max wide (widNow (rd_T47 l i) now)) := by
  have hn : i.toNat < l.length := by omega
  have e : rd_T47 l i = l[i.toNat] := by unfold rd_T47; rw [List.getD_eq_getElem?_getD, List.getElem?_eq_getElem hn]; rfl
  have e2 : (i + 1).toNat = i.toNat + 1 := by omega
  rw [e2, List.drop_eq_getElem_cons hn, e]
  rfl
theorem widGo_end (l : List S47) (i now wide : Int) (h1 : ¬ i < (l.length : Int)) : widGo (l.drop i.toNat) now wide = wide := by
  rw [List.drop_eq_nil_of_le (by omega)]; rfl
def widF (P : PastL) : Int × Int := match eventsF P with
  | none => (0, 2)
  | some xs => (widGo xs 0 0, 0)
set_option maxHeartbeats 4000000 in
set_option maxRecDepth 100000 in
theorem Widest_any (W : World) (P : PastL) (R : Rw3) (hR : RdP W P R) (hl : P.cl.length ≤ 500000) (hE : ∀ xs, eventsL P = some xs → ∀ e ∈ xs, okE e ∧ nd e.f4 ≤ 1000000) :
    Calls Try.prog 36 #[.agg (cP P R)] W (fun e w' => e = .returned (.tuple #[.int .i64 (widF P).1, .int .i64 (widF P).2]) ∧ Below W.heap.size W w') := by
  have HEV := Lib.hid (fun W1 (h : Below W.heap.size W W1) => Events_any W1 P R (hR.below h) hl hE)
  have HB0 := Lib.hid (below_alloc (Below.refl W.heap.size W) (.cells (cP P R) 30))
  have hle : ∀ xs, eventsF P = some xs → xs.length ≤ 1000000 := by
    intro xs h
    unfold eventsF at h
    rcases h2 : eventsL P with _ | ys
    · rw [h2] at h; cases h
    · rw [h2] at h
      have e : ys = xs := by
        simp only at h
        repeat' split at h
        all_goals (first | (cases h; rfl) | cases h)
      subst e
      have h3 := evFrom_length P.cl h2
      rw [List.length_replicate] at h3
      have h4 := cntR_le P.cl
      unfold sizeL at h3; omega
  obtain ⟨wv, hwv⟩ : ∃ r, r = widF P := ⟨_, rfl⟩
  rw [← hwv]
  have HQ := Lib.hid hwv
  have HLE := Lib.hid hle
  clear hwv hle
  obtain ⟨v1, v2⟩ := wv
  unfold EvsP at HEV
  unfold cP at HB0 HEV ⊢
  clear hR hE
  go_enter Try.func36, Try.ntmps36
  go_wp2_with fail
  refine (HEV.out _ HB0.out).mono ?_
  rintro e w1 ⟨hw1, hm⟩
  have HB1 := Lib.hid (HB0.out.trans (hw1.mono HB0.out.size))
  rcases hxs : eventsF P with _ | xs
  · rw [hxs] at hm
    subst hm
    have HR := Lib.hid (show (v1, v2) = ((0 : Int), (2 : Int)) from by rw [HQ.out]; unfold widF; rw [hxs])
    clear hxs HEV hw1
    go_wp2
    go_loopw [17, 6, 7, 9] (fun iv av bv nv wr => iv = .int .i64 0 ∧ av = .int .i64 0 ∧ Hid (Below W.heap.size W wr)) (fun _ _ _ _ _ => 0)
    case atStart => exact ⟨rfl, rfl, HB1.out⟩
    case round =>
      obtain ⟨rfl, rfl, HB⟩ := hrel
      go_wp2
      go_ret2
      have h1 := HR.out
      cases h1
      exact ⟨rfl, HB.out⟩
  · rw [hxs] at hm
    obtain ⟨g, hg, rfl, hrow⟩ := hm
    have hxl := HLE.out xs hxs
    have HR := Lib.hid (show (v1, v2) = (widGo (xs.drop (0 : Int).toNat) 0 0, (0 : Int)) from by rw [HQ.out]; unfold widF; rw [hxs]; rfl)
    have hC := (Kd.R_reads' hrow).2.2
    obtain ⟨ad0, had0⟩ : ∃ ad0 : Addr, ad0 = ⟨g, 0, none⟩ := ⟨_, rfl⟩
    rw [← had0] at hC ⊢
    have HC := Lib.hid hC
    clear hxs HEV hw1 hg hrow HLE HQ had0 hC
    go_wp2
    go_loopw [17, 6, 7, 9] (fun iv av bv nv wr => ∃ i a b : Int, iv = .int .i64 i ∧ av = .int .i64 a ∧ bv = .int .i64 b ∧ 0 ≤ i ∧ i ≤ (xs.length : Int) ∧ 0 ≤ a ∧ a ≤ i ∧ -i ≤ b ∧ b ≤ i ∧ Hid ((v1, v2) = (widGo (xs.drop i.toNat) b a, (0 : Int))) ∧ Hid (Below w1.heap.size w1 wr)) (fun i _ _ _ _ => xs.length - (intOf i).toNat)
    case atStart => exact ⟨0, 0, 0, rfl, rfl, rfl, by omega, by omega, by omega, by omega, by omega, by omega, HR.out, Below.refl _ _⟩
    case round =>
      obtain ⟨i, a, b, rfl, rfl, rfl, hi0, hi1, ha0, ha1, hb0, hb1, HN, HB⟩ := hrel
      by_cases hlt : i < (xs.length : Int)
      · obtain ⟨ad, A8, c8, hAd, x0, x1, x2, x3, x4, x5, x6, x7, x8, x9, x10, x11, _⟩ := at_T47 (Kd.C_below HC.out HB.out) i hi0 hlt
        have HST := Lib.hid (HN.out.trans (by rw [widGo_step xs i b a hi0 hlt]))
        obtain ⟨x, hx⟩ : ∃ x, x = rd_T47 xs i := ⟨_, rfl⟩
        rw [← hx] at x0 x1 x2 x3 x4 x5 x6 x7 x8 x9 x10 x11 HST
        cases hAd
        have HB2 := Lib.hid (below_alloc HB.out (.cells (c47 x A8 c8) 47))
        have hg := World.block_lt_of_cell? wr _ x0
        clear hx
        by_cases hf : x.f0 = 1
        · have hf' : (x.f0 == 1) = true := by rw [beq_iff_eq]; exact hf
          have HS2 := Lib.hid (show (v1, v2) = (widGo (xs.drop (i + 1).toNat) (b + 1) (max a (b + 1)), (0 : Int)) from by rw [HST.out]; unfold widNow; rw [if_pos hf])
          clear HST
          clear hf
          go_wp2
          go_roundw
          case rel => exact ⟨i + 1, max a (b + 1), b + 1, rfl, rfl, rfl, by omega, by omega, by omega, by omega, by omega, by omega, HS2.out, HB2.out⟩
          case measure => simp [intOf]; omega
        · have hf' : (x.f0 == 1) = false := by rw [beq_eq_false_iff_ne]; exact hf
          have HS2 := Lib.hid (show (v1, v2) = (widGo (xs.drop (i + 1).toNat) (b - 1) (max a (b - 1)), (0 : Int)) from by rw [HST.out]; unfold widNow; rw [if_neg hf])
          clear HST hf
          go_wp2
          go_roundw
          case rel => exact ⟨i + 1, max a (b - 1), b - 1, rfl, rfl, rfl, by omega, by omega, by omega, by omega, by omega, by omega, HS2.out, HB2.out⟩
          case measure => simp [intOf]; omega
      · have HE := Lib.hid (HN.out.trans (by rw [widGo_end xs i b a hlt]))
        have hge : (xs.length : Int) ≤ i := by omega
        clear hlt
        go_wp2
        go_ret2
        have h1 := HE.out
        cases h1
        exact ⟨rfl, HB1.out.trans (HB.out.mono HB1.out.size)⟩
end Go.Proofs.Ytofinglgnkdflaa
end
section
namespace Go.Proofs.Ytofinglgnkdflaa
open Go.RowKit
open Go.Proofs.Ytofinglgnkdflaa.PHistoryChecks Go.Proofs.YtofinglgnkdflaaW.PrintWords Go.Proofs.YtofinglgnkdflaaW.PrintLast Go.Proofs.YtofinglgnkdflaaW.PrintMore
set_option linter.unusedVariables false
set_option linter.unusedSimpArgs false
theorem info3' : (Try.prog.info? 3).map (fun i => (i.zero, i.size, i.bytes)) = some (some (.int .i64 0), 1, 8) := by kernel_rfl
theorem under68 : Try.prog.underlying 68 = some (.slice 3) := by kernel_rfl
def opB (t : Int) (c : S50) : Bool := decide (c.f4 < t) && (decide (c.f5 < 0) || decide (t ≤ c.f5))
def openGo (t : Int) : List S50 → Int → List Int → List Int
  | [], _, acc => acc
  | c :: l, i, acc => openGo t l (i + 1) (if opB t c then acc ++ [i] else acc)
theorem openGo_step (t : Int) (l : List S50) (i : Int) (acc : List Int) (h0 : 0 ≤ i) (h1 : i < (l.length : Int)) : openGo t (l.drop i.toNat) i acc = openGo t (l.drop (i + 1).toNat) (i + 1) (if opB t (rd_T50 l i) then acc ++ [i] else acc) := by
  have hn : i.toNat < l.length := by omega
  have e : rd_T50 l i = l[i.toNat] := by unfold rd_T50; rw [List.getD_eq_getElem?_getD, List.getElem?_eq_getElem hn]; rfl
  have e2 : (i + 1).toNat = i.toNat + 1 := by omega
  rw [e2, List.drop_eq_getElem_cons hn, e]
  rfl
theorem openGo_end (t : Int) (l : List S50) (i : Int) (acc : List Int) (h1 : ¬ i < (l.length : Int)) : openGo t (l.drop i.toNat) i acc = acc := by
  rw [List.drop_eq_nil_of_le (by omega)]; rfl
def openF (P : PastL) (t : Int) : Option (List Int) := if (eventsF P).isSome then if t < 0 then none else if (sizeL P.cl : Int) < t then none else some (openGo t P.cl 0 []) else none
def OpenP (P : PastL) (t : Int) (W : World) (e : Ending) (w' : World) : Prop :=
  Below W.heap.size W w' ∧ match openF P t with
    | none => e = .returned (.tuple #[.slice none 0 0, .int .i64 2])
    | some js => ∃ v, e = .returned (.tuple #[v, .int .i64 0]) ∧ (Kd.int .i64).R 3 w' W.heap.size (fun _ => True) v js
theorem openP_bad {P : PastL} {t : Int} {W w' : World} (h : openF P t = none) (hb : Below W.heap.size W w') : OpenP P t W (.returned (.tuple #[.slice none 0 0, .int .i64 2])) w' := ⟨hb, by rw [h]⟩
set_option maxHeartbeats 4000000 in
set_option maxRecDepth 100000 in
theorem Open_any (W : World) (P : PastL) (R : Rw3) (t : Int) (hR : RdP W P R) (hl : P.cl.length ≤ 500000) (hE : ∀ xs, eventsL P = some xs → ∀ e ∈ xs, okE e ∧ nd e.f4 ≤ 1000000) :
    Calls Try.prog 34 #[.agg (cP P R), .int .i64 t] W (OpenP P t W) := by
  have HCK := Lib.hid (fun W1 (h : Below W.heap.size W W1) => Checkp_any W1 P R (hR.below h) hl hE)
  have HSZ := Lib.hid (fun W1 (h : Below W.heap.size W W1) => size_any W1 P R (hR.below h) (by omega))
  have h3 := Lib.hid hR.cl
  have hcr := cntR_le P.cl
  have hsl : sizeL P.cl ≤ 1000000 := by unfold sizeL; omega
  obtain ⟨sz, hsz⟩ : ∃ n, n = sizeL P.cl := ⟨_, rfl⟩
  rw [← hsz] at HSZ hsl
  have HSE := Lib.hid hsz
  obtain ⟨ok, hok⟩ : ∃ b, b = (eventsF P).isSome := ⟨_, rfl⟩
  have HOK := Lib.hid hok
  rw [← hok] at HCK
  obtain ⟨a1, c1, a2, c2, a3, c3⟩ := R
  have HB0 := Lib.hid (below_alloc (Below.refl W.heap.size W) (.cells (cP P ⟨a1, c1, a2, c2, a3, c3⟩) 30))
  have hbx := Lib.hid (heap_alloc_new W (.cells (cP P ⟨a1, c1, a2, c2, a3, c3⟩) 30))
  unfold cP at HB0 HCK HSZ hbx ⊢
  clear hR hE hok hsz hcr
  go_enter Try.func34, Try.ntmps34
  go_wp2_with fail
  refine (HCK.out _ HB0.out).mono ?_
  rintro e w1 ⟨rfl, hw1⟩
  have HB1 := Lib.hid (HB0.out.trans (hw1.mono HB0.out.size))
  have HX1 := Lib.hid ((hw1.block _ (blk_lt hbx.out)).trans hbx.out)
  have q0 : w1.cell? ⟨W.heap.size, 0, none⟩ = some (.slice a1 P.pr.length c1) := (blk_cell HX1.out 0).trans rfl
  have q1 : w1.cell? ⟨W.heap.size, 1, none⟩ = some (.slice a2 P.ob.length c2) := (blk_cell HX1.out 1).trans rfl
  have q2 : w1.cell? ⟨W.heap.size, 2, none⟩ = some (.slice a3 P.cl.length c3) := (blk_cell HX1.out 2).trans rfl
  clear hw1 HCK hbx HB0
  cases ok
  · have HNO := Lib.hid (show openF P t = none from by unfold openF; rw [← HOK.out]; rfl)
    go_wp2
    go_ret2
    exact openP_bad HNO.out HB1.out
  · by_cases h0 : t < 0
    · have HNO := Lib.hid (show openF P t = none from by unfold openF; rw [← HOK.out, if_pos rfl, if_pos h0])
      go_wp2
      go_ret2
      exact openP_bad HNO.out HB1.out
    · have h0' : 0 ≤ t := by omega
      clear h0
      go_wp2_with fail
      refine (HSZ.out _ HB1.out).mono ?_
      rintro e w2 ⟨rfl, hw2⟩
      have HB2 := Lib.hid (HB1.out.trans (hw2.mono HB1.out.size))
      have HX2 := Lib.hid ((hw2.block _ (blk_lt HX1.out)).trans HX1.out)
      have r2 : w2.cell? ⟨W.heap.size, 2, none⟩ = some (.slice a3 P.cl.length c3) := (blk_cell HX2.out 2).trans rfl
      clear hw2 HSZ HX1 q0 q1 q2 HB1
      by_cases h1 : (sz : Int) < t
      · have HNO := Lib.hid (show openF P t = none from by unfold openF; rw [← HOK.out, if_pos rfl, if_neg (by omega), ← HSE.out, if_pos h1])
        go_wp2
        go_ret2
        exact openP_bad HNO.out HB2.out
      · have h1' : t ≤ (sz : Int) := by omega
        have HYE := Lib.hid (show openF P t = some (openGo t (P.cl.drop (0 : Int).toNat) 0 []) from by unfold openF; rw [← HOK.out, if_pos rfl, if_neg (by omega), ← HSE.out, if_neg h1]; rfl)
        clear h1
        go_wp2
        go_loopw [25, 6, 7, 8] (fun iv rv nv bv wr => ∃ (i : Int) (js : List Int) (A : Option Addr) (c : Nat), iv = .int .i64 i ∧ rv = .slice A js.length c ∧ 0 ≤ i ∧ i ≤ (P.cl.length : Int) ∧ js.length ≤ i.toNat ∧ Hid (openF P t = some (openGo t (P.cl.drop i.toNat) i js)) ∧ Hid ((Kd.int .i64).R 3 wr W.heap.size (fun k => W.heap.size ≤ k) (.slice A js.length c) js) ∧ Hid (Below W.heap.size W wr)) (fun i _ _ _ _ => P.cl.length - (intOf i).toNat)
        case atStart => exact ⟨0, [], none, 0, rfl, rfl, by omega, by omega, by simp, HYE.out, Kd.R_nil _ _ _ _ _, HB2.out⟩
        case round =>
          obtain ⟨i, js, A, c, rfl, rfl, hi0, hi1, hjl, HN, HR, HB⟩ := hrel
          clear HYE r2 HX2 HB2
          by_cases hlt : i < (P.cl.length : Int)
          · obtain ⟨ad, A7, c7, A14, c14, rfl, x0, x1, x2, x3, x4, x5, x6, x7, x8, x9, x10, x11, x12, x13, x14, _⟩ := at_T50 (Kd.C_below h3.out HB.out) i hi0 hlt
            have HST := Lib.hid (HN.out.trans (by rw [openGo_step t P.cl i js hi0 hlt]))
            obtain ⟨x, hx⟩ : ∃ x, x = rd_T50 P.cl i := ⟨_, rfl⟩
            rw [← hx] at x0 x1 x2 x3 x4 x5 x6 x7 x8 x9 x10 x11 x12 x13 x14 HST
            have HB3 := Lib.hid (below_alloc HB.out (.cells (c50 x A7 c7 A14 c14) 50))
            have hR3 := Lib.hid (Kd.R_below HR.out (below_alloc (Below.refl wr.heap.size wr) (.cells (c50 x A7 c7 A14 c14) 50)))
            clear hx
            by_cases hop : opB t x = true
            · have HS2 := Lib.hid (HST.out.trans (by rw [hop, if_pos rfl]))
              have ha : x.f4 < t := by unfold opB at hop; simp at hop; exact hop.1
              have hjm : (js.length + 1) * 8 ≤ 140737488355328 := by omega
              by_cases h5 : x.f5 < 0
              · clear hop HST
                go_wp2_with (at_builtin; (refine Kd.R_append (w0 := W) (Kd.int .i64) W.heap.size rfl _ _ 68 3 _ 8 rfl under68 info3' rfl (by decide) (by decide) (.slice A js.length c) js i [.int .i64 i] (fun b => W.heap.size ≤ b) (fun _ => False) rfl (by rw [alloc_size]; rfl) rfl (fun _ h => h.elim) (fun b hb => Nat.le_trans HB3.out.size hb) hR3.out HB3.out HB3.out.size hjm ?_; intro v1 w3 hR4 hb4 hg4 hat4; obtain ⟨A1, k1, rfl⟩ := Kd.R_slice hR4; have HR4 := Lib.hid hR4; have HB4 := Lib.hid hb4; clear hR4 hb4 hg4 hat4))
                go_roundw
                case rel => exact ⟨i + 1, js ++ [i], A1, k1, rfl, (by simp), by omega, by omega, by rw [List.length_append, List.length_singleton]; omega, HS2.out, HR4.out, HB4.out⟩
                case measure => simp [intOf]; omega
              · have h6 : t ≤ x.f5 := by unfold opB at hop; simp at hop; omega
                have h5' : 0 ≤ x.f5 := by omega
                clear hop HST h5
                go_wp2_with (at_builtin; (refine Kd.R_append (w0 := W) (Kd.int .i64) W.heap.size rfl _ _ 68 3 _ 8 rfl under68 info3' rfl (by decide) (by decide) (.slice A js.length c) js i [.int .i64 i] (fun b => W.heap.size ≤ b) (fun _ => False) rfl (by rw [alloc_size]; rfl) rfl (fun _ h => h.elim) (fun b hb => Nat.le_trans HB3.out.size hb) hR3.out HB3.out HB3.out.size hjm ?_; intro v1 w3 hR4 hb4 hg4 hat4; obtain ⟨A1, k1, rfl⟩ := Kd.R_slice hR4; have HR4 := Lib.hid hR4; have HB4 := Lib.hid hb4; clear hR4 hb4 hg4 hat4))
                go_roundw
                case rel => exact ⟨i + 1, js ++ [i], A1, k1, rfl, (by simp), by omega, by omega, by rw [List.length_append, List.length_singleton]; omega, HS2.out, HR4.out, HB4.out⟩
                case measure => simp [intOf]; omega
            · have HS2 := Lib.hid (HST.out.trans (by rw [if_neg hop]))
              by_cases ha : x.f4 < t
              · have h5 : 0 ≤ x.f5 ∧ x.f5 < t := by unfold opB at hop; simp at hop; have := hop ha; omega
                obtain ⟨h5, h6⟩ := h5
                clear hop HST
                go_wp2
                go_roundw
                case rel => exact ⟨i + 1, js, A, c, rfl, rfl, by omega, by omega, by omega, HS2.out, hR3.out, HB3.out⟩
                case measure => simp [intOf]; omega
              · have ha' : t ≤ x.f4 := by omega
                clear hop HST ha
                go_wp2
                go_roundw
                case rel => exact ⟨i + 1, js, A, c, rfl, rfl, by omega, by omega, by omega, HS2.out, hR3.out, HB3.out⟩
                case measure => simp [intOf]; omega
          · have HE := Lib.hid (HN.out.trans (by rw [openGo_end t P.cl i js hlt]))
            have hge : (P.cl.length : Int) ≤ i := by omega
            clear hlt
            go_wp2
            go_ret2
            exact ⟨HB.out, by rw [HE.out]; exact ⟨_, rfl, Kd.R_mono HR.out (fun _ _ => trivial)⟩⟩
end Go.Proofs.Ytofinglgnkdflaa
end
section
namespace Go.Proofs.Ytofinglgnkdflaa
open Go.RowKit
open Go.Proofs.Ytofinglgnkdflaa.PHistoryChecks Go.Proofs.YtofinglgnkdflaaW.PrintWords Go.Proofs.YtofinglgnkdflaaW.PrintLast Go.Proofs.YtofinglgnkdflaaW.PrintMore
set_option linter.unusedVariables false
set_option linter.unusedSimpArgs false
def ixFrom (s : ByteArray) : List ByteArray → Int → Int
  | [], _ => -1
  | x :: l, i => if s.toList == x.toList then i else ixFrom s l (i + 1)
theorem ixFrom_step (s : ByteArray) (l : List ByteArray) (i : Int) (h0 : 0 ≤ i) (h1 : i < (l.length : Int)) : ixFrom s (l.drop i.toNat) i = if s.toList == (rdOf ByteArray.empty l i).toList then i else ixFrom s (l.drop (i + 1).toNat) (i + 1) := by
  have hn : i.toNat < l.length := by omega
  have e2 : (i + 1).toNat = i.toNat + 1 := by omega
  rw [e2, List.drop_eq_getElem_cons hn]
  simp only [ixFrom]
  unfold rdOf
  rw [List.getD_eq_getElem?_getD, List.getElem?_eq_getElem hn]; rfl
theorem ixFrom_end (s : ByteArray) (l : List ByteArray) (i : Int) (h1 : ¬ i < (l.length : Int)) : ixFrom s (l.drop i.toNat) i = -1 := by
  rw [List.drop_eq_nil_of_le (by omega)]; rfl
set_option maxHeartbeats 4000000 in
theorem index_any (l : List ByteArray) (s : ByteArray) (A : Option Addr) (c : Nat) (W : World) (hCa : Kd.string.C W A l.length l) (hc : l.length ≤ c) :
    Calls Try.prog 65 #[.slice A l.length c, .string s] W (fun e w' => e = .returned (.int .i64 (ixFrom s l 0)) ∧ Below W.heap.size W w') := by
  have hla := Kd.C_max hCa
  have HCa := Lib.hid hCa
  have HST := Lib.hid (show ixFrom s l 0 = ixFrom s (l.drop (0 : Int).toNat) 0 from rfl)
  obtain ⟨r, hr⟩ : ∃ r, r = ixFrom s l 0 := ⟨_, rfl⟩
  rw [← hr] at HST ⊢
  clear hCa hr
  go_enter Try.func65, Try.ntmps65
  go_wp2
  go_loopw [8, 5] (fun iv nv wr => ∃ i : Int, iv = .int .i64 i ∧ 0 ≤ i ∧ i ≤ (l.length : Int) ∧ Hid (r = ixFrom s (l.drop i.toNat) i) ∧ Hid (Below W.heap.size W wr)) (fun i _ _ => l.length - (intOf i).toNat)
  case atStart => exact ⟨0, rfl, by omega, by omega, HST.out, Below.refl _ _⟩
  case round =>
    obtain ⟨i, rfl, hi0, hi1, HI, HB⟩ := hrel
    by_cases hlt : i < (l.length : Int)
    · obtain ⟨ad, hAd, x0⟩ := Kd.at_string (Kd.C_below HCa.out HB.out) i hi0 hlt
      have hstep := Lib.hid (HI.out.trans (ixFrom_step s l i hi0 hlt))
      obtain ⟨x, hx⟩ : ∃ x, x = rdOf ByteArray.empty l i := ⟨_, rfl⟩
      rw [← hx] at hstep x0
      cases hAd
      clear hx
      obtain ⟨b, hb⟩ : ∃ b, (s.toList == x.toList) = b := ⟨_, rfl⟩
      rw [hb] at hstep
      cases b
      · have HN := Lib.hid (show r = ixFrom s (l.drop (i + 1).toNat) (i + 1) from by rw [hstep.out]; rfl)
        go_wp2
        go_roundw
        case rel => exact ⟨i + 1, rfl, by omega, by omega, HN.out, by first | exact HB.out | exact below_drew HB.out | exact pw_below_drewN HB.out _⟩
        case measure => simp [intOf]; omega
      · have HR := Lib.hid (show r = i from by rw [hstep.out]; rfl)
        go_wp2
        go_ret
        exact ⟨by rw [HR.out]; rfl, by first | exact HB.out | exact below_drew HB.out | exact pw_below_drewN HB.out _⟩
    · have HR := Lib.hid (show r = -1 from by rw [HI.out]; exact ixFrom_end _ _ _ hlt)
      have hge : (l.length : Int) ≤ i := by omega
      clear hlt
      go_wp2
      go_ret
      exact ⟨by rw [HR.out]; rfl, HB.out⟩
set_option maxHeartbeats 4000000 in
theorem Proc_any (W : World) (P : PastL) (R : Rw3) (s : ByteArray) (hR : RdP W P R) :
    Calls Try.prog 25 #[.agg (cP P R), .string s] W (fun e w' => e = .returned (.int .i64 (ixFrom s P.pr 0)) ∧ Below W.heap.size W w') := by
  have HI := Lib.hid (fun W1 (h : Below W.heap.size W W1) => index_any P.pr s R.a1 R.c1 W1 (Kd.C_below hR.pr h) hR.prc)
  have HB0 := Lib.hid (below_alloc (Below.refl W.heap.size W) (.cells (cP P R) 30))
  unfold cP at HB0 ⊢
  obtain ⟨r, hr⟩ : ∃ r, r = ixFrom s P.pr 0 := ⟨_, rfl⟩
  rw [← hr] at HI ⊢
  clear hR hr
  go_enter Try.func25, Try.ntmps25
  go_wp2_with fail
  refine (HI.out _ HB0.out).mono ?_
  rintro e w1 ⟨rfl, hw1⟩
  have HB1 := Lib.hid (HB0.out.trans (hw1.mono HB0.out.size))
  clear hw1
  go_wp2
  go_ret
  exact ⟨rfl, HB1.out⟩
end Go.Proofs.Ytofinglgnkdflaa
end
section
namespace Go.Proofs.Ytofinglgnkdflaa
open Go.RowKit
open Go.Proofs.Ytofinglgnkdflaa.PHistoryChecks Go.Proofs.YtofinglgnkdflaaW.PrintWords Go.Proofs.YtofinglgnkdflaaW.PrintLast Go.Proofs.YtofinglgnkdflaaW.PrintMore
set_option linter.unusedVariables false
set_option linter.unusedSimpArgs false
def oneV (x : Int) : S43 := ⟨2, x, 0, ⟨#[]⟩, []⟩
set_option maxHeartbeats 4000000 in
theorem one_any (W : World) (x : Int) : Calls Try.prog 89 #[.int .i64 x] W (fun e w' => e = .returned (.agg #[.int .i64 2, .int .i64 x, .int .i64 0, .string ⟨#[]⟩, .slice none 0 0]) ∧ Below W.heap.size W w') := by
  have HB0 := Lib.hid (below_alloc (Below.refl W.heap.size W) (.cells #[.int .i64 2, .int .i64 x, .int .i64 0, .string ⟨#[]⟩, .slice none 0 0] 43))
  have hbx := Lib.hid (heap_alloc_new W (.cells #[.int .i64 2, .int .i64 x, .int .i64 0, .string ⟨#[]⟩, .slice none 0 0] 43))
  go_enter Try.func89, Try.ntmps89
  go_wp2
  obtain ⟨Wf, hWf⟩ : ∃ Wf, Wf = W.alloc (.cells #[.int .i64 2, .int .i64 x, .int .i64 0, .string ⟨#[]⟩, .slice none 0 0] 43) := ⟨_, rfl⟩
  rw [← hWf] at HB0 hbx ⊢
  have t0 : Wf.cell? ⟨W.heap.size, 0, none⟩ = some (.int .i64 2) := (blk_cell hbx.out 0).trans rfl
  have t1 : Wf.cell? ⟨W.heap.size, 1, none⟩ = some (.int .i64 x) := (blk_cell hbx.out 1).trans rfl
  have t2 : Wf.cell? ⟨W.heap.size, 2, none⟩ = some (.int .i64 0) := (blk_cell hbx.out 2).trans rfl
  have t3 : Wf.cell? ⟨W.heap.size, 3, none⟩ = some (.string ⟨#[]⟩) := (blk_cell hbx.out 3).trans rfl
  have t4 : Wf.cell? ⟨W.heap.size, 4, none⟩ = some (.slice none 0 0) := (blk_cell hbx.out 4).trans rfl
  exact bodyPost_ret (v := .agg #[.int .i64 2, .int .i64 x, .int .i64 0, .string ⟨#[]⟩, .slice none 0 0]) (by simp [results, Try.results89, go_sem, t0, t1, t2, t3, t4]) rfl ⟨rfl, HB0.out⟩
def smallL : List S47 := [⟨1, ⟨#[112]⟩, ⟨#[113]⟩, ⟨#[101, 110, 113]⟩, oneV 1, z45⟩, ⟨1, ⟨#[114]⟩, ⟨#[113]⟩, ⟨#[100, 101, 113]⟩, oneV 0, z45⟩, ⟨2, ⟨#[112]⟩, ⟨#[]⟩, ⟨#[]⟩, oneV 0, z45⟩, ⟨2, ⟨#[114]⟩, ⟨#[]⟩, ⟨#[]⟩, oneV 1, z45⟩]
set_option maxHeartbeats 4000000 in
theorem small_row (W : World) : Calls Try.prog 62 #[] W (fun e w' => ∃ g cs, e = .returned (.slice (some ⟨g, 0, none⟩) 4 4) ∧ w'.heap[g]? = some (.cells cs 47 (0, 0)) ∧ cs = (smallL.flatMap fun x => (c47 x none 0).toList).toArray ∧ Below W.heap.size W w') := by
  have H1 := Lib.hid (fun W1 => one_any W1 1)
  have H0 := Lib.hid (fun W1 => one_any W1 0)
  go_enter Try.func62, Try.ntmps62
  go_wp2_with fail
  refine (H1.out _).mono ?_
  rintro e w1 ⟨rfl, h1⟩
  have HB1 := Lib.hid h1
  go_wp2_with fail
  refine (H0.out _).mono ?_
  rintro e w2 ⟨rfl, h2⟩
  have HB2 := Lib.hid (HB1.out.trans (h2.mono HB1.out.size))
  go_wp2_with fail
  refine (H0.out _).mono ?_
  rintro e w3 ⟨rfl, h3⟩
  have HB3 := Lib.hid (HB2.out.trans (h3.mono HB2.out.size))
  go_wp2_with fail
  refine (H1.out _).mono ?_
  rintro e w4 ⟨rfl, h4⟩
  have HB4 := Lib.hid (HB3.out.trans (h4.mono HB3.out.size))
  clear h1 h2 h3 h4 HB1 HB2 HB3
  go_wp2
  go_ret
  exact ⟨w4.heap.size, _, rfl, heap_alloc_new w4 _, rfl, below_alloc HB4.out _⟩
theorem chunk_app {sz j : Nat} (pre c post : List Value) (hp : pre.length = j * sz) (hc : c.length = sz) : Chunk sz (pre ++ (c ++ post)).toArray j c := by
  refine ⟨hc, fun o u hu => ?_⟩
  have ho : o < c.length := (List.getElem?_eq_some_iff.1 hu).1
  rw [List.getElem?_toArray, ← hp, List.getElem?_append_right (by omega), show pre.length + o - pre.length = o by omega, List.getElem?_append_left ho]
  exact hu
def smallC (l : List S47) : List Value := l.flatMap fun x => (c47 x none 0).toList
theorem small_C {W : World} {g : Nat} {cs : Array Value} (h : W.heap[g]? = some (.cells cs 47 (0, 0))) (hc : cs = (smallL.flatMap fun x => (c47 x none 0).toList).toArray) : Kd.C k47 W (some ⟨g, 0, none⟩) smallL.length smallL := by
  subst hc
  have hb : RowE W W g 4 4 smallL := ⟨_, h, Nat.le_refl _, by decide, rfl, fun j hj => by
    match j, hj with
    | 0, _ => exact ⟨(c47 (smallL[0]'(by decide)) none 0).toList, chunk_app (sz := 12) (j := 0) (smallC (smallL.take 0)) (c47 (smallL[0]'(by decide)) none 0).toList (smallC (smallL.drop 1)) rfl rfl, smallL[0]'(by decide), rfl, k47_mk W (smallL[0]'(by decide)) (A8 := none) (c8 := 0) (Nat.le_refl _) (Kd.C_nil _ _)⟩
    | 1, _ => exact ⟨(c47 (smallL[1]'(by decide)) none 0).toList, chunk_app (sz := 12) (j := 1) (smallC (smallL.take 1)) (c47 (smallL[1]'(by decide)) none 0).toList (smallC (smallL.drop 2)) rfl rfl, smallL[1]'(by decide), rfl, k47_mk W (smallL[1]'(by decide)) (A8 := none) (c8 := 0) (Nat.le_refl _) (Kd.C_nil _ _)⟩
    | 2, _ => exact ⟨(c47 (smallL[2]'(by decide)) none 0).toList, chunk_app (sz := 12) (j := 2) (smallC (smallL.take 2)) (c47 (smallL[2]'(by decide)) none 0).toList (smallC (smallL.drop 3)) rfl rfl, smallL[2]'(by decide), rfl, k47_mk W (smallL[2]'(by decide)) (A8 := none) (c8 := 0) (Nat.le_refl _) (Kd.C_nil _ _)⟩
    | 3, _ => exact ⟨(c47 (smallL[3]'(by decide)) none 0).toList, chunk_app (sz := 12) (j := 3) (smallC (smallL.take 3)) (c47 (smallL[3]'(by decide)) none 0).toList (smallC (smallL.drop 4)) rfl rfl, smallL[3]'(by decide), rfl, k47_mk W (smallL[3]'(by decide)) (A8 := none) (c8 := 0) (Nat.le_refl _) (Kd.C_nil _ _)⟩⟩
  exact row_C hb rfl (Below.refl _ _)
theorem small_code : (makeF smallL).2 = (0, 0) := by kernel_rfl
theorem tail_code : (makeF (smallL.drop 2)).2 = (0, 70) := by kernel_rfl
def smallP : PastL := (makeF smallL).1
theorem small_calls : smallP.cl = [⟨0, 0, ⟨#[101, 110, 113]⟩, oneV 1, 0, 2, oneV 0⟩, ⟨1, 0, ⟨#[100, 101, 113]⟩, oneV 0, 1, 3, oneV 1⟩] := by kernel_rfl
theorem small_events : eventsF smallP = some smallL := by kernel_rfl
theorem small_eventsL : eventsL smallP = some smallL := by kernel_rfl
theorem small_wide : widF smallP = (2, 0) := by kernel_rfl
theorem small_open : openF smallP 3 = some [1] := by kernel_rfl
theorem small_proc : ixFrom ⟨#[114]⟩ smallP.pr 0 = 1 := by kernel_rfl
end Go.Proofs.Ytofinglgnkdflaa
end
