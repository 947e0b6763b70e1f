/- Layer 26: events, open, Widths of the reference. -/
import Derived.Test.YtofinglgnkdflaaLQt
import Derived.Test.YtofinglgnkdflaaLTe
namespace Go.Proofs.Ytofinglgnkdflaa
open Go.RowKit
open Go.Proofs.Ytofinglgnkdflaa.PHistoryChecks Go.Proofs.YtofinglgnkdflaaW.PrintWords Go.Proofs.YtofinglgnkdflaaW.PrintLast Go.Proofs.YtofinglgnkdflaaW.PrintMore
set_option linter.unusedVariables false
set_option linter.unusedSimpArgs false
def cntB (t : Int) (l : List S50) : Nat := (l.filter (opB t)).length
theorem cntB_step (t : Int) (l : List S50) (i : Int) (h0 : 0 ≤ i) (h1 : i < (l.length : Int)) : cntB t (l.take (i + 1).toNat) = cntB t (l.take i.toNat) + if opB t (rd_T50 l i) then 1 else 0 := by
  unfold cntB
  rw [take50 l i h0 h1, List.filter_append, List.length_append]
  cases h : opB t (rd_T50 l i)
  · rw [List.filter_cons_of_neg (by rw [h]; simp)]; rfl
  · rw [List.filter_cons_of_pos h]; rfl
theorem cntB_opL (t : Nat) : ∀ cs : List S50, (∀ c ∈ cs, 0 ≤ c.f4 ∧ (c.f5 = -1 ∨ c.f4 < c.f5)) → (cntB (t : Int) cs : Int) = opL cs t
  | [], _ => rfl
  | c :: cs, h => by
    have h1 := h c List.mem_cons_self
    have ih := cntB_opL t cs (fun d hd => h d (List.mem_cons_of_mem _ hd))
    simp only [opL]
    rw [opn_opB h1.1 h1.2]
    unfold cntB at ih ⊢
    cases hb : opB (t : Int) c
    · rw [List.filter_cons_of_neg (by rw [hb]; simp), ih]; simp
    · rw [List.filter_cons_of_pos hb, List.length_cons, Int.natCast_add, ih]; simp; omega
theorem calls_mem {P : PastL} {xs : List S47} (h : eventsF P = some xs) : ∀ c ∈ P.cl, 0 ≤ c.f4 ∧ (c.f5 = -1 ∨ c.f4 < c.f5) := fun c hm => by
  have hc := calls_ok h
  obtain ⟨a, ha, hg⟩ := List.getElem_of_mem hm
  have h1 := hc.a a ha
  have e : rd_T50 P.cl (a : Int) = c := by unfold rd_T50; rw [Int.toNat_natCast, List.getD_eq_getElem?_getD, List.getElem?_eq_getElem ha, hg]; rfl
  rw [e] at h1
  exact ⟨h1.1, h1.2.2.2⟩
theorem cntB_psum {P : PastL} {xs : List S47} (h : eventsF P = some xs) (t : Nat) : (cntB (t : Int) P.cl : Int) = psum (chF P) t := by
  rw [cntB_opL t P.cl (calls_mem h), widths_open h t, opL_sum]
set_option maxHeartbeats 4000000 in
theorem events72_any (W : World) (P : PastL) (R : Rw3) (hR : RdP W P R) (hl : P.cl.length ≤ 500000) :
    Calls Try.prog 72 #[.agg (cP P R)] W (fun e w' => e = .returned (.int .i64 (sizeL P.cl)) ∧ Below W.heap.size W w') := by
  have h3 := Lib.hid hR.cl
  have HNN := Lib.hid (show (sizeL P.cl : Int) = P.cl.length + cntR P.cl from by unfold sizeL; omega)
  obtain ⟨n, hn⟩ : ∃ n, n = sizeL P.cl := ⟨_, rfl⟩
  rw [← hn] at HNN ⊢
  obtain ⟨a1, c1, a2, c2, a3, c3⟩ := R
  have HB0 := Lib.hid (below_alloc (Below.refl W.heap.size W) (.cells (cP P ⟨a1, c1, a2, c2, a3, c3⟩) 30))
  have hbx := Lib.hid (heap_alloc_new W (.cells (cP P ⟨a1, c1, a2, c2, a3, c3⟩) 30))
  unfold cP at HB0 hbx ⊢
  clear hR hn
  go_enter Try.func72, Try.ntmps72
  go_wp2
  obtain ⟨W0, hW0⟩ : ∃ w, w = W.alloc (.cells #[.slice a1 P.pr.length c1, .slice a2 P.ob.length c2, .slice a3 P.cl.length c3] 30) := ⟨_, rfl⟩
  rw [← hW0] at hbx HB0 ⊢
  clear hW0
  go_loopw [4, 3] (fun iv nv wr => ∃ i m : Int, iv = .int .i64 i ∧ nv = .int .i64 m ∧ 0 ≤ i ∧ i ≤ (P.cl.length : Int) ∧ 0 ≤ m ∧ m ≤ 1000000 ∧ Hid (m = P.cl.length + cntR (P.cl.take i.toNat)) ∧ Hid (Below W0.heap.size W0 wr)) (fun i _ _ => P.cl.length - (intOf i).toNat)
  case atStart => exact ⟨0, P.cl.length, rfl, rfl, by omega, by omega, by omega, by omega, by show (P.cl.length : Int) = P.cl.length + cntR (P.cl.take 0); rw [List.take_zero]; simp [cntR], Below.refl _ _⟩
  case round =>
    obtain ⟨i, m, rfl, rfl, hi0, hi1, hm0, hm1, HN, HB⟩ := hrel
    have q2 : wr.cell? ⟨W.heap.size, 2, none⟩ = some (.slice a3 P.cl.length c3) := pw_cell_below HB.out ((blk_cell hbx.out 2).trans rfl)
    have HBW := Lib.hid (HB0.out.trans (HB.out.mono HB0.out.size))
    by_cases hlt : i < (P.cl.length : Int)
    · obtain ⟨ad, _, _, _, _, hAd, _, _, _, _, _, _, _, _, _, y9, _⟩ := at_T50 (Kd.C_below h3.out HBW.out) i hi0 hlt
      subst hAd
      have hst := cntR_step P.cl i hi0 hlt
      have hcl := cntR_le (P.cl.take i.toNat)
      have htl : (P.cl.take i.toNat).length ≤ i.toNat := List.length_take_le _ _
      have hnn := HN.out
      obtain ⟨f, hf⟩ : ∃ f, f = (rd_T50 P.cl i).f5 := ⟨_, rfl⟩
      rw [← hf] at y9 hst
      have hm2 : m ≤ (P.cl.length : Int) + i := by omega
      have HSTP := Lib.hid hst
      clear hst hcl htl hnn hf
      by_cases h5 : f ≥ 0
      · have d5 : decide (f ≥ 0) = true := decide_eq_true h5
        have HN2 := Lib.hid (show m + 1 = P.cl.length + cntR (P.cl.take (i + 1).toNat) from by have h := HSTP.out; rw [if_pos (show 0 ≤ f from h5)] at h; have := HN.out; omega)
        clear h5 HSTP
        go_wp2
        go_roundw
        case rel => exact ⟨i + 1, m + 1, rfl, rfl, by omega, by omega, by omega, by omega, HN2.out, HB.out⟩
        case measure => simp [intOf]; omega
      · have d5 : decide (f ≥ 0) = false := decide_eq_false h5
        have HN2 := Lib.hid (show m = P.cl.length + cntR (P.cl.take (i + 1).toNat) from by have h := HSTP.out; rw [if_neg (show ¬ 0 ≤ f from h5)] at h; have := HN.out; omega)
        clear h5 HSTP
        go_wp2
        go_roundw
        case rel => exact ⟨i + 1, m, rfl, rfl, by omega, by omega, by omega, by omega, HN2.out, HB.out⟩
        case measure => simp [intOf]; omega
    · obtain rfl : m = (n : Int) := by
        have := HN.out
        rw [List.take_of_length_le (by omega)] at this
        have := HNN.out
        omega
      have hge : (P.cl.length : Int) ≤ i := by omega
      clear hlt HN HNN HB
      go_wp2
      go_ret
      exact ⟨rfl, HBW.out⟩
set_option maxHeartbeats 8000000 in
set_option maxRecDepth 100000 in
theorem open73_any (W : World) (P : PastL) (R : Rw3) (a : Int) (hR : RdP W P R) (hl : P.cl.length ≤ 500000) (ha : a ≤ 2000000) :
    Calls Try.prog 73 #[.agg (cP P R), .int .i64 a] W (fun e w' => e = .returned (.int .i64 (cntB (a + 1) P.cl)) ∧ Below W.heap.size W w') := by
  have h3 := Lib.hid hR.cl
  obtain ⟨n, hn⟩ : ∃ n : Int, n = cntB (a + 1) P.cl := ⟨_, rfl⟩
  rw [← hn]
  have HNN := Lib.hid hn
  obtain ⟨a1, c1, a2, c2, a3, c3⟩ := R
  have HB0 := Lib.hid (below_alloc (Below.refl W.heap.size W) (.cells (cP P ⟨a1, c1, a2, c2, a3, c3⟩) 30))
  have hbx := Lib.hid (heap_alloc_new W (.cells (cP P ⟨a1, c1, a2, c2, a3, c3⟩) 30))
  unfold cP at HB0 hbx ⊢
  clear hR hn
  go_enter Try.func73, Try.ntmps73
  go_wp2
  obtain ⟨W0, hW0⟩ : ∃ w, w = W.alloc (.cells #[.slice a1 P.pr.length c1, .slice a2 P.ob.length c2, .slice a3 P.cl.length c3] 30) := ⟨_, rfl⟩
  rw [← hW0] at hbx HB0 ⊢
  clear hW0
  go_loopw [6, 5] (fun iv nv wr => ∃ i m : Int, iv = .int .i64 i ∧ nv = .int .i64 m ∧ 0 ≤ i ∧ i ≤ (P.cl.length : Int) ∧ 0 ≤ m ∧ m ≤ i ∧ Hid (m = cntB (a + 1) (P.cl.take i.toNat)) ∧ Hid (Below W0.heap.size W0 wr)) (fun i _ _ => P.cl.length - (intOf i).toNat)
  case atStart => exact ⟨0, 0, rfl, rfl, by omega, by omega, by omega, by omega, by show (0 : Int) = cntB (a + 1) (P.cl.take 0); rw [List.take_zero]; simp [cntB], Below.refl _ _⟩
  case round =>
    obtain ⟨i, m, rfl, rfl, hi0, hi1, hm0, hm1, HN, HB⟩ := hrel
    have q2 : wr.cell? ⟨W.heap.size, 2, none⟩ = some (.slice a3 P.cl.length c3) := pw_cell_below HB.out ((blk_cell hbx.out 2).trans rfl)
    have HBW := Lib.hid (HB0.out.trans (HB.out.mono HB0.out.size))
    by_cases hlt : i < (P.cl.length : Int)
    · obtain ⟨ad, _, _, _, _, hAd, _, _, _, _, _, _, _, _, y8, y9, _⟩ := at_T50 (Kd.C_below h3.out HBW.out) i hi0 hlt
      subst hAd
      have hst := cntB_step (a + 1) P.cl i hi0 hlt
      obtain ⟨x, hx⟩ : ∃ x, x = rd_T50 P.cl i := ⟨_, rfl⟩
      rw [← hx] at y8 y9 hst
      have HSTP := Lib.hid hst
      clear hst hx
      by_cases e4 : x.f4 ≤ a
      · have d4 : decide (x.f4 ≤ a) = true := decide_eq_true e4
        by_cases e5 : x.f5 < 0
        · have d5 : decide (x.f5 < 0) = true := decide_eq_true e5
          have HN2 := Lib.hid (show m + 1 = cntB (a + 1) (P.cl.take (i + 1).toNat) from by have h := HSTP.out; rw [if_pos (by unfold opB; simp; omega)] at h; have := HN.out; omega)
          clear HSTP
          go_wp2
          go_roundw
          case rel => exact ⟨i + 1, m + 1, rfl, rfl, by omega, by omega, by omega, by omega, HN2.out, HB.out⟩
          case measure => simp [intOf]; omega
        · have d5 : decide (x.f5 < 0) = false := decide_eq_false e5
          by_cases e6 : x.f5 > a
          · have d6 : decide (x.f5 > a) = true := decide_eq_true e6
            have HN2 := Lib.hid (show m + 1 = cntB (a + 1) (P.cl.take (i + 1).toNat) from by have h := HSTP.out; rw [if_pos (by unfold opB; simp; omega)] at h; have := HN.out; omega)
            clear HSTP
            go_wp2
            go_roundw
            case rel => exact ⟨i + 1, m + 1, rfl, rfl, by omega, by omega, by omega, by omega, HN2.out, HB.out⟩
            case measure => simp [intOf]; omega
          · have d6 : decide (x.f5 > a) = false := decide_eq_false e6
            have HN2 := Lib.hid (show m = cntB (a + 1) (P.cl.take (i + 1).toNat) from by have h := HSTP.out; rw [if_neg (by unfold opB; simp; omega)] at h; have := HN.out; omega)
            clear HSTP
            go_wp2
            go_roundw
            case rel => exact ⟨i + 1, m, rfl, rfl, by omega, by omega, by omega, by omega, HN2.out, HB.out⟩
            case measure => simp [intOf]; omega
      · have d4 : decide (x.f4 ≤ a) = false := decide_eq_false e4
        have HN2 := Lib.hid (show m = cntB (a + 1) (P.cl.take (i + 1).toNat) from by have h := HSTP.out; rw [if_neg (by unfold opB; simp; omega)] at h; have := HN.out; omega)
        clear HSTP
        go_wp2
        go_roundw
        case rel => exact ⟨i + 1, m, rfl, rfl, by omega, by omega, by omega, by omega, HN2.out, HB.out⟩
        case measure => simp [intOf]; omega
    · obtain rfl : m = n := by
        have := HN.out
        rw [List.take_of_length_le (by omega)] at this
        have := HNN.out
        omega
      have hge : (P.cl.length : Int) ≤ i := by omega
      clear hlt HN HNN HB
      go_wp2
      go_ret
      exact ⟨rfl, HBW.out⟩
def rwL (cl : List S50) (n : Nat) : List Int := (List.range n).map fun j : Nat => (cntB ((j : Int) + 1) cl : Int)
theorem rwL_length (cl : List S50) (n : Nat) : (rwL cl n).length = n := by simp [rwL]
theorem rwL_snoc (cl : List S50) (i : Int) (h0 : 0 ≤ i) : rwL cl (i + 1).toNat = rwL cl i.toNat ++ [(cntB (i + 1) cl : Int)] := by
  obtain ⟨a, rfl⟩ := Int.eq_ofNat_of_zero_le h0
  rw [show ((a : Int) + 1).toNat = a + 1 by omega, Int.toNat_natCast]
  unfold rwL; rw [List.range_succ, List.map_append]; rfl
theorem widths_rw {P : PastL} {w : List Int} (h : widthsF P = some w) : w = rwL P.cl (sizeL P.cl) := by
  have hl := widths_length h
  have hx : ∃ xs, eventsF P = some xs := by
    unfold widthsF at h
    rcases hx : eventsF P with _ | xs
    · rw [hx] at h; cases h
    · exact ⟨xs, rfl⟩
  obtain ⟨xs, hx⟩ := hx
  apply List.ext_getElem?
  intro j
  by_cases hj : j < w.length
  · have h1 := widths_psum h j hj
    have h2 := cntB_psum hx (j + 1)
    unfold YtofinglgnkdflaaW.PrintWords.rd at h1
    rw [Int.toNat_natCast, List.getD_eq_getElem?_getD, List.getElem?_eq_getElem hj] at h1
    unfold rwL
    rw [List.getElem?_eq_getElem hj, List.getElem?_map, List.getElem?_range (by omega)]
    simp only [Option.map_some, Option.some.injEq]
    have h3 : w[j] = psum (chF P) (j + 1) := h1
    rw [h3, ← h2]; rfl
  · rw [List.getElem?_eq_none (by omega), List.getElem?_eq_none (by rw [rwL_length]; omega)]
def RowP (o : Option (List Int)) (W : World) (e : Ending) (w' : World) : Prop :=
  Below W.heap.size W w' ∧ match o with
    | none => e = .returned (.tuple #[.slice none 0 0, .int .i64 2])
    | some l => ∃ v, e = .returned (.tuple #[v, .int .i64 0]) ∧ (Kd.int .i64).R 3 w' W.heap.size (fun _ => True) v l
def rwidF (P : PastL) : Option (List Int) := if (eventsF P).isSome then some (rwL P.cl (sizeL P.cl)) else none
theorem rowP_bad {P : PastL} {l : List Int} {W w' : World} (h : (eventsF P).isSome = false) (hb : Below W.heap.size W w') : RowP (if (eventsF P).isSome then some l else none) W (.returned (.tuple #[.slice none 0 0, .int .i64 2])) w' := ⟨hb, by rw [h]; rfl⟩
theorem rowP_good {P : PastL} {l : List Int} {W w' : World} {v : Value} {ok : Nat → Prop} (h : (eventsF P).isSome = true) (hb : Below W.heap.size W w') (hR : (Kd.int .i64).R 3 w' W.heap.size ok v l) : RowP (if (eventsF P).isSome then some l else none) W (.returned (.tuple #[v, .int .i64 0])) w' :=
  ⟨hb, by rw [h]; exact ⟨v, rfl, Kd.R_mono hR (fun _ _ => trivial)⟩⟩
theorem box_cells' {w : World} {b : Nat} {P : PastL} {a1 : Option Addr} {c1 : Nat} {a2 : Option Addr} {c2 : Nat} {a3 : Option Addr} {c3 : Nat} (h : w.heap[b]? = some (.cells #[.slice a1 P.pr.length c1, .slice a2 P.ob.length c2, .slice a3 P.cl.length c3] 30 (0, 0))) :
    w.cell? ⟨b, 0, none⟩ = some (.slice a1 P.pr.length c1) ∧ w.cell? ⟨b, 1, none⟩ = some (.slice a2 P.ob.length c2) ∧ w.cell? ⟨b, 2, none⟩ = some (.slice a3 P.cl.length c3) :=
  ⟨(blk_cell h 0).trans rfl, (blk_cell h 1).trans rfl, (blk_cell h 2).trans rfl⟩
set_option maxHeartbeats 8000000 in
set_option maxRecDepth 100000 in
theorem RWidths_any (W : World) (P : PastL) (R : Rw3) (hR : RdP W P R) (hl : P.cl.length ≤ 250000) (hE : ∀ xs, eventsL P = some xs → ∀ e ∈ xs, okE2 e) :
    Calls Try.prog 41 #[.agg (cP P R)] W (RowP (rwidF P) W) := by
  have HCK := Lib.hid (fun W1 (h : Below W.heap.size W W1) => rCheck_any W1 P R (hR.below h) hl hE)
  have HEV := Lib.hid (fun W1 (h : Below W.heap.size W W1) => events72_any W1 P R (hR.below h) (by omega))
  have HOP := Lib.hid (fun W1 (h : Below W.heap.size W W1) a (ha : a ≤ 2000000) => open73_any W1 P R a (hR.below h) (by omega) ha)
  have hcr := cntR_le P.cl
  have hsl : sizeL P.cl ≤ 500000 := by unfold sizeL; omega
  obtain ⟨sz, hsz⟩ : ∃ n, n = sizeL P.cl := ⟨_, rfl⟩
  rw [← hsz] at hsl HEV
  have HSE := Lib.hid hsz
  obtain ⟨ok, hok⟩ : ∃ b, b = (eventsF P).isSome := ⟨_, rfl⟩
  have HOK := Lib.hid hok
  unfold evC at HCK
  rw [← hok] at HCK
  obtain ⟨a1, c1, a2, c2, a3, c3⟩ := R
  have HB0 := Lib.hid (below_alloc (Below.refl W.heap.size W) (.cells (cP P ⟨a1, c1, a2, c2, a3, c3⟩) 30))
  have hbx := Lib.hid (heap_alloc_new W (.cells (cP P ⟨a1, c1, a2, c2, a3, c3⟩) 30))
  unfold cP at HB0 HCK HEV HOP hbx ⊢
  clear hR hE hok hsz hcr
  go_enter Try.func41, Try.ntmps41
  go_wp2_with fail
  refine (HCK.out _ HB0.out).mono ?_
  rintro e w1 ⟨rfl, hw1⟩
  have HB1 := Lib.hid (HB0.out.trans (hw1.mono HB0.out.size))
  have HX1 := Lib.hid ((hw1.block _ (blk_lt hbx.out)).trans hbx.out)
  obtain ⟨q0, q1, q2⟩ := box_cells' HX1.out
  clear hw1 HCK hbx HB0
  cases ok
  · have HNO := Lib.hid HOK.out.symm
    go_wp2
    go_ret2
    exact rowP_bad HNO.out HB1.out
  · have HYE := Lib.hid HOK.out.symm
    have hwb : W.heap.size < w1.heap.size := blk_lt HX1.out
    clear HOK q0 q1 q2
    go_wp2
    go_loopw [5, 4] (fun iv ov wr => ∃ (i : Int) (A : Option Addr) (c : Nat), iv = .int .i64 i ∧ ov = .slice A (rwL P.cl i.toNat).length c ∧ 0 ≤ i ∧ i ≤ (sz : Int) ∧ Hid ((Kd.int .i64).R 3 wr w1.heap.size (fun k => w1.heap.size ≤ k) (.slice A (rwL P.cl i.toNat).length c) (rwL P.cl i.toNat)) ∧ Hid (Below w1.heap.size w1 wr)) (fun i _ _ => sz - (intOf i).toNat)
    case atStart => exact ⟨0, none, 0, rfl, rfl, by omega, by omega, Kd.R_nil _ _ _ _ _, Below.refl _ _⟩
    case round =>
      obtain ⟨i, A, c, rfl, rfl, hi0, hi1, HR, HB⟩ := hrel
      have HX := Lib.hid ((HB.out.block _ hwb).trans HX1.out)
      have HBW := Lib.hid (HB1.out.trans (HB.out.mono HB1.out.size))
      obtain ⟨q0, q1, q2⟩ := box_cells' HX.out
      have HSN := Lib.hid (rwL_snoc P.cl i hi0)
      have hll := rwL_length P.cl i.toNat
      obtain ⟨js, hjs⟩ : ∃ js, js = rwL P.cl i.toNat := ⟨_, rfl⟩
      rw [← hjs] at HR HSN hll ⊢
      have HJS := Lib.hid hjs
      have hjl : js.length ≤ 1000000 := by omega
      clear hll hjs
      go_wp2_with fail
      refine (HEV.out wr HBW.out).mono ?_
      rintro e w2 ⟨rfl, hw2⟩
      have HB2 := Lib.hid (HB.out.trans (hw2.mono HB.out.size))
      have HBW2 := Lib.hid (HB1.out.trans (HB2.out.mono HB1.out.size))
      have HR2 := Lib.hid (Kd.R_below HR.out hw2)
      have HX2 := Lib.hid ((HB2.out.block _ hwb).trans HX1.out)
      clear q0 q1 q2 hw2 HR HX
      obtain ⟨q0, q1, q2⟩ := box_cells' HX2.out
      by_cases hlt : i < (sz : Int)
      · have HCA := Lib.hid (HOP.out w2 HBW2.out i (by omega))
        go_wp2_with fail
        refine HCA.out.mono ?_
        rintro e w3 ⟨rfl, hw3⟩
        have HB3 := Lib.hid (HB2.out.trans (hw3.mono HB2.out.size))
        have HR3 := Lib.hid (Kd.R_below HR2.out hw3)
        obtain ⟨q, hq⟩ : ∃ q : Int, q = cntB (i + 1) P.cl := ⟨_, rfl⟩
        rw [← hq] at HSN ⊢
        clear q0 q1 q2 hw3 HR2 HCA hq
        go_wp2_with (at_builtin; (refine Kd.R_append (w0 := w1) (Kd.int .i64) w1.heap.size rfl _ _ 68 3 _ 8 rfl under68 info3' rfl (by decide) (by decide) (.slice A js.length c) js q [.int .i64 q] (fun b => w1.heap.size ≤ b) (fun _ => False) rfl rfl rfl (fun _ h => h.elim) (fun b hb => Nat.le_trans HB3.out.size hb) HR3.out HB3.out HB3.out.size (by omega) ?_; intro v1 w4 hR4 hb4 hg4 hat4; obtain ⟨A1, k1, rfl⟩ := Kd.R_slice hR4; have HR4 := Lib.hid hR4; have HB4 := Lib.hid hb4; clear hR4 hb4 hg4 hat4))
        go_roundw
        case rel => exact ⟨i + 1, A1, k1, rfl, by rw [HSN.out]; simp, by omega, by omega, by rw [HSN.out]; exact HR4.out, HB4.out⟩
        case measure => simp [intOf]; omega
      · have hie : i = (sz : Int) := by omega
        subst hie
        clear hlt
        go_wp2
        go_ret2
        have hR := Kd.R_lower HR2.out HB1.out.size
        rw [HJS.out, Int.toNat_natCast, HSE.out] at hR
        have e := HJS.out
        rw [Int.toNat_natCast, HSE.out] at e
        rw [e]
        exact rowP_good HYE.out HBW2.out hR
end Go.Proofs.Ytofinglgnkdflaa
