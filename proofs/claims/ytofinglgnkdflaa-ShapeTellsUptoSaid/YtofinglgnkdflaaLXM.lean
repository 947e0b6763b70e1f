/- Ints of the reference of layer 26: two rows of whole numbers are the same. -/
import Derived.Test.YtofinglgnkdflaaLXH
section
namespace Go.Proofs.Ytofinglgnkdflaa
open Go.RowKit
open Go.Proofs.Ytofinglgnkdflaa.PHistoryChecks Go.Proofs.YtofinglgnkdflaaW.PrintWords Go.Proofs.YtofinglgnkdflaaW.PrintLast Go.Proofs.YtofinglgnkdflaaW.PrintMore
set_option linter.unusedVariables false
set_option linter.unusedSimpArgs false
def intCs (xs : List Int) : Array Value := (xs.map (Value.int .i64)).toArray
def IntR (w : World) (g : Nat) (xs : List Int) : Prop := w.heap[g]? = some (.cells (intCs xs) 3 (0, 0))
section
variable {w w1 : World} {g base : Nat} {xs : List Int} {ok : Nat → Prop}
theorem IntR.cell (h : IntR w g xs) (i : Int) (h0 : 0 ≤ i) (h1 : i < (xs.length : Int)) : w.cell? ⟨g, i.toNat, none⟩ = some (.int .i64 (rd xs i)) := by
  have hn : i.toNat < xs.length := by omega
  refine (blk_cell h i.toNat).trans ?_
  unfold intCs
  rw [List.getElem?_toArray, List.getElem?_map, List.getElem?_eq_getElem hn]
  unfold rd
  rw [List.getD_eq_getElem?_getD, List.getElem?_eq_getElem hn]; rfl
theorem IntR.set (h : IntR w g xs) (i : Nat) (v : Int) : IntR (w.setCell ⟨g, i, none⟩ (.int .i64 v)) g (xs.set i v) := by
  have := blk_set h i (.int .i64 v)
  unfold IntR intCs at *
  rw [this, List.map_set]
  simp
theorem IntR.lt (h : IntR w g xs) : g < w.heap.size := blk_lt h
theorem IntR.frozen (h : IntR w g xs) (i : Nat) : w.frozen? ⟨g, i, none⟩ = false := blk_frozen h i
theorem IntR.below (h : IntR w g xs) (hb : Below w.heap.size w w1) : IntR w1 g xs := (hb.block g (blk_lt h)).trans h
theorem intCs_at (xs : List Int) (j : Nat) (hj : j < xs.length) : (intCs xs)[j]? = some (.int .i64 xs[j]) := by
  unfold intCs
  rw [List.getElem?_toArray, List.getElem?_map, List.getElem?_eq_getElem hj]; rfl
theorem IntR.R (h : IntR w g xs) (hb : base ≤ g) (hok : ok g) (hm : xs.length ≤ maxLen) : (Kd.int .i64).R 3 w base ok (.slice (some ⟨g, 0, none⟩) xs.length xs.length) xs := by
  refine R_of_blk (d := Kd.int .i64) (n := xs.length) ?_ rfl hb hok
  refine ⟨intCs xs, h, Nat.le_refl _, hm, ?_, fun j hj => ⟨[.int .i64 xs[j]], ⟨rfl, fun o u hu => ?_⟩, xs[j], List.getElem?_eq_getElem hj, rfl⟩⟩
  · show (intCs xs).size = xs.length * 1
    simp [intCs]
  · cases o with
    | zero => simp at hu; subst hu; show (intCs xs)[j * 1 + 0]? = _; rw [Nat.mul_one, Nat.add_zero]; exact intCs_at xs j hj
    | succ o => simp at hu
end
theorem IntR.made (w : World) (n : Nat) : IntR (w.alloc (.cells (madeCells #[.int .i64 0] (n * 1)) 3)) w.heap.size (List.replicate n 0) := by
  refine (heap_alloc_new w _).trans ?_
  have : madeCells #[.int .i64 0] (n * 1) = intCs (List.replicate n 0) := by
    unfold madeCells intCs
    apply Array.ext'
    simp [Nat.mod_one]
    rw [List.map_const', List.length_range]
  rw [this]
set_option maxHeartbeats 4000000 in
theorem events71_any (W : World) (P : PastL) (R : Rw3) (hR : RdP W P R) (hl : P.cl.length ≤ 1000000) :
    Calls Try.prog 71 #[.agg (cP P R)] W (fun e w' => e = .returned (.int .i64 (sizeL P.cl)) ∧ Below W.heap.size W w') := by
  have HD := Lib.hid (show sizeL P.cl = P.cl.length + cntR P.cl from rfl)
  have HC := Lib.hid hR.cl
  obtain ⟨l, hle⟩ : ∃ l, l = P.cl := ⟨_, rfl⟩
  unfold cP
  rw [← hle] at HC HD hl ⊢
  clear hle hR
  go_enter Try.func71, Try.ntmps71
  go_wp2
  have HB0 := Lib.hid (below_alloc (Below.refl W.heap.size W) (.cells #[.slice R.a1 P.pr.length R.c1, .slice R.a2 P.ob.length R.c2, .slice R.a3 l.length R.c3] 30))
  go_loopw [12, 3] (fun iv nv wr => ∃ i n : Int, iv = .int .i64 i ∧ nv = .int .i64 n ∧ 0 ≤ i ∧ i ≤ (l.length : Int) ∧ 0 ≤ n ∧ n ≤ 2000000 ∧ Hid (n = l.length + cntR (l.take i.toNat)) ∧ Hid (Below W.heap.size W wr)) (fun i _ _ => l.length - (intOf i).toNat)
  case atStart => exact ⟨0, l.length, rfl, rfl, by omega, by omega, by omega, by omega, by show (l.length : Int) = l.length + cntR (l.take 0); rw [List.take_zero]; simp [cntR], HB0.out⟩
  case round =>
    obtain ⟨i, n, rfl, rfl, hi0, hi1, hn0, hn1, HN, HB⟩ := hrel
    by_cases hlt : i < (l.length : Int)
    · obtain ⟨ad, A7, c7, A14, c14, hAd, x0, x1, x2, x3, x4, x5, x6, x7, x8, x9, x10, x11, x12, x13, x14, hl7, hg7, hl14, hg14⟩ := at_T50 (Kd.C_below HC.out HB.out) i hi0 hlt
      have hst := cntR_step l i hi0 hlt
      have hcl := cntR_le (l.take i.toNat)
      have htl : (l.take i.toNat).length ≤ i.toNat := List.length_take_le _ _
      have hnn := HN.out
      obtain ⟨x, hx⟩ : ∃ x, x = rd_T50 l i := ⟨_, rfl⟩
      rw [← hx] at x0 x1 x2 x3 x4 x5 x6 x7 x8 x9 x10 x11 x12 x13 x14 hst
      have hn2 : n ≤ (l.length : Int) + i := by omega
      have HST := Lib.hid hst
      have HB2 := Lib.hid (below_alloc HB.out (.cells (c50 x A7 c7 A14 c14) 50))
      have hB3 := Lib.hid HB.out.size
      rw [hAd]
      clear hst hcl htl hnn hl7 hg7 hl14 hg14 hx hAd
      by_cases hf : 0 ≤ x.f5
      · have HN2 := Lib.hid (show n + 1 = l.length + cntR (l.take (i + 1).toNat) from by have := HST.out; have := HN.out; rw [if_pos hf] at *; omega)
        go_wp2
        go_roundw
        case rel => exact ⟨i + 1, n + 1, rfl, rfl, by omega, by omega, by omega, by omega, HN2.out, HB2.out⟩
        case measure => simp [intOf]; omega
      · have HN2 := Lib.hid (show n = l.length + cntR (l.take (i + 1).toNat) from by have := HST.out; have := HN.out; rw [if_neg hf] at *; omega)
        have hf' : x.f5 < 0 := by omega
        clear hf
        go_wp2
        go_roundw
        case rel => exact ⟨i + 1, n, rfl, rfl, by omega, by omega, by omega, by omega, HN2.out, HB2.out⟩
        case measure => simp [intOf]; omega
    · have hge : i = (l.length : Int) := by omega
      subst hge
      have HE := Lib.hid (show n = (sizeL l : Int) from by have := HN.out; rw [Int.toNat_natCast, List.take_of_length_le (Nat.le_refl _)] at this; rw [HD.out]; omega)
      go_wp2
      go_ret
      exact ⟨by rw [← HE.out]; rfl, HB.out⟩
end Go.Proofs.Ytofinglgnkdflaa
end
section
namespace Go.Proofs.Ytofinglgnkdflaa
open Go.RowKit
open Go.Proofs.Ytofinglgnkdflaa.PHistoryChecks Go.Proofs.YtofinglgnkdflaaW.PrintWords Go.Proofs.YtofinglgnkdflaaW.PrintLast Go.Proofs.YtofinglgnkdflaaW.PrintMore
set_option linter.unusedVariables false
set_option linter.unusedSimpArgs false
def chg1 (l : List Int) (c : S50) : List Int := if 0 ≤ c.f5 then (l.set c.f4.toNat 1).set c.f5.toNat (-1) else l.set c.f4.toNat 1
def chgL : List Int → List S50 → List Int
  | l, [] => l
  | l, c :: cs => chgL (chg1 l c) cs
def preGo : Nat → List Int → Nat → Int → List Int
  | 0, l, _, _ => l
  | k + 1, l, i, n => preGo k (l.set i (n + rd l i)) (i + 1) (n + rd l i)
def widthsF (P : PastL) : Option (List Int) := match eventsF P with
  | none => none
  | some _ => some (preGo (sizeL P.cl) (chgL (List.replicate (sizeL P.cl) 0) P.cl) 0 0)
def WidP (P : PastL) (W : World) (e : Ending) (w' : World) : Prop :=
  Below W.heap.size W w' ∧ match widthsF P with
    | none => e = .returned (.tuple #[.slice none 0 0, .int .i64 2])
    | some l => ∃ g, W.heap.size ≤ g ∧ e = .returned (.tuple #[.slice (some ⟨g, 0, none⟩) l.length l.length, .int .i64 0]) ∧ IntR w' g l
theorem chg1_length (l : List Int) (c : S50) : (chg1 l c).length = l.length := by unfold chg1; split <;> simp
theorem chgL_length (cs : List S50) : ∀ l : List Int, (chgL l cs).length = l.length := by
  induction cs with
  | nil => intro l; rfl
  | cons c cs ih => intro l; simp only [chgL]; rw [ih, chg1_length]
theorem preGo_length (k : Nat) : ∀ (l : List Int) (i : Nat) (n : Int), (preGo k l i n).length = l.length := by
  induction k with
  | zero => intros; rfl
  | succ k ih => intro l i n; simp only [preGo]; rw [ih, List.length_set]
def Unit1 (l : List Int) : Prop := ∀ x ∈ l, -1 ≤ x ∧ x ≤ 1
theorem Unit1.set {l : List Int} (h : Unit1 l) (i : Nat) (v : Int) (hv : -1 ≤ v ∧ v ≤ 1) : Unit1 (l.set i v) := by
  intro x hx
  rcases List.mem_or_eq_of_mem_set hx with h1 | rfl
  · exact h x h1
  · exact hv
theorem Unit1.chg {l : List Int} (h : Unit1 l) (c : S50) : Unit1 (chg1 l c) := by
  unfold chg1
  split
  · exact (h.set _ _ (by omega)).set _ _ (by omega)
  · exact h.set _ _ (by omega)
theorem Unit1.rd {l : List Int} (h : Unit1 l) (i : Int) : -1 ≤ rd l i ∧ rd l i ≤ 1 := by
  unfold YtofinglgnkdflaaW.PrintWords.rd
  rw [List.getD_eq_getElem?_getD]
  rcases hx : l[i.toNat]? with _ | x
  · exact ⟨by decide, by decide⟩
  · exact h x (List.mem_of_getElem? hx)
theorem chgL_step (l : List Int) (cs : List S50) (i : Int) (h0 : 0 ≤ i) (h1 : i < (cs.length : Int)) : chgL l (cs.drop i.toNat) = chgL (chg1 l (rd_T50 cs i)) (cs.drop (i + 1).toNat) := by
  have hn : i.toNat < cs.length := by omega
  have e : rd_T50 cs i = cs[i.toNat] := by unfold rd_T50; rw [List.getD_eq_getElem?_getD, List.getElem?_eq_getElem hn]; rfl
  have e2 : (i + 1).toNat = i.toNat + 1 := by omega
  rw [e2, List.drop_eq_getElem_cons hn, e]
  rfl
theorem chgL_end (l : List Int) (cs : List S50) (i : Int) (h1 : ¬ i < (cs.length : Int)) : chgL l (cs.drop i.toNat) = l := by
  rw [List.drop_eq_nil_of_le (by omega)]; rfl
theorem ev_bounds {P : PastL} (cs : List S50) : ∀ {xs ys : List S47}, evFrom P xs cs = some ys → ∀ c ∈ cs, 0 ≤ c.f4 ∧ c.f4 < (xs.length : Int) ∧ c.f5 < (xs.length : Int) := by
  induction cs with
  | nil => intro xs ys _ c hc; cases hc
  | cons d cs ih =>
    intro xs ys h c hc
    simp only [evFrom] at h
    rcases hs : evStep P xs d with _ | zs
    · rw [hs] at h; cases h
    · rw [hs] at h
      have hl := evStep_length hs
      rcases List.mem_cons.1 hc with rfl | hc
      · unfold evStep at hs
        split at hs
        · split at hs
          · rename_i h1 h2
            have h3 : 0 ≤ c.f4 ∧ c.f4 < (xs.length : Int) := by
              unfold putB at h2; simp only [Bool.and_eq_true, decide_eq_true_eq] at h2; exact ⟨h2.1, h2.2.1⟩
            split at hs
            · split at hs
              · rename_i h5 h6
                unfold putB at h6; simp only [Bool.and_eq_true, decide_eq_true_eq, putL_length] at h6
                exact ⟨h3.1, h3.2, h6.2.1⟩
              · cases hs
            · rename_i h5; exact ⟨h3.1, h3.2, by omega⟩
          · cases hs
        · cases hs
      · have := ih h c hc
        rw [hl] at this; exact this
theorem eventsF_L {P : PastL} {xs : List S47} (h : eventsF P = some xs) : eventsL P = some xs := by
  unfold eventsF at h
  rcases h2 : eventsL P with _ | ys
  · rw [h2] at h; cases h
  · rw [h2] at h
    simp only at h
    repeat' split at h
    all_goals (first | (cases h; rfl) | cases h)
theorem past_bounds {P : PastL} {xs : List S47} (h : eventsF P = some xs) (i : Int) (h0 : 0 ≤ i) (h1 : i < (P.cl.length : Int)) :
    0 ≤ (rd_T50 P.cl i).f4 ∧ (rd_T50 P.cl i).f4 < (sizeL P.cl : Int) ∧ (rd_T50 P.cl i).f5 < (sizeL P.cl : Int) := by
  have h2 := eventsF_L h
  have hn : i.toNat < P.cl.length := by omega
  have h3 := ev_bounds P.cl h2 (rd_T50 P.cl i) (by
    have e : rd_T50 P.cl i = P.cl[i.toNat] := by unfold rd_T50; rw [List.getD_eq_getElem?_getD, List.getElem?_eq_getElem hn]; rfl
    rw [e]; exact List.getElem_mem hn)
  rw [List.length_replicate] at h3
  exact h3
theorem rd_set {l : List Int} (i j : Nat) (v : Int) (hj : j < l.length) : rd (l.set i v) (j : Int) = if i = j then v else rd l (j : Int) := by
  unfold YtofinglgnkdflaaW.PrintWords.rd
  rw [Int.toNat_natCast, List.getD_eq_getElem?_getD, List.getD_eq_getElem?_getD, List.getElem?_set]
  by_cases e : i = j
  · rw [if_pos e, if_pos e, if_pos (by omega)]; rfl
  · rw [if_neg e, if_neg e]
theorem widP_none {P : PastL} {W w' : World} (h : widthsF P = none) (hb : Below W.heap.size W w') : WidP P W (.returned (.tuple #[.slice none 0 0, .int .i64 2])) w' := by
  unfold WidP; rw [h]; exact ⟨hb, rfl⟩
theorem widP_some {P : PastL} {W w' : World} {D : List Int} {n g : Nat} (h : widthsF P = some D) (hn : D.length = n) (hb : Below W.heap.size W w') (hg : W.heap.size ≤ g) (hI : IntR w' g D) : WidP P W (.returned (.tuple #[.slice (some ⟨g, 0, none⟩) n n, .int .i64 0])) w' := by
  unfold WidP; rw [h]; exact ⟨hb, g, hg, by rw [hn], hI⟩
theorem ag_add {ag : Addr} {g : Nat} (h : ag = ⟨g, 0, none⟩) (k : Nat) : ag.add k = ⟨g, k, none⟩ := by
  subst h; unfold Addr.add; split <;> simp_all
set_option maxHeartbeats 2000000 in
set_option maxRecDepth 100000 in
theorem Widths_any (W : World) (P : PastL) (R : Rw3) (hR : RdP W P R) (hl : P.cl.length ≤ 500000) (hE : ∀ xs, eventsL P = some xs → ∀ e ∈ xs, okE e ∧ nd e.f4 ≤ 1000000) :
    Calls Try.prog 40 #[.agg (cP P R)] W (WidP P W) := by
  have HCK := Lib.hid (fun W1 (h : Below W.heap.size W W1) => Checkp_any W1 P R (hR.below h) hl hE)
  have HSZ := Lib.hid (fun W1 (h : Below W.heap.size W W1) => events71_any W1 P R (hR.below h) (by omega))
  have HB0 := Lib.hid (below_alloc (Below.refl W.heap.size W) (.cells (cP P R) 30))
  have HX0 := Lib.hid (heap_alloc_new W (.cells (cP P R) 30))
  have h3 := Lib.hid hR.cl
  obtain ⟨a1, c1, a2, c2, a3, c3⟩ := R
  unfold cP at HB0 HX0 HCK HSZ ⊢
  clear hR hE
  rcases hxs : eventsF P with _ | xs
  · have HW := Lib.hid (show widthsF P = none from by unfold widthsF; rw [hxs])
    rw [hxs] at HCK
    simp only [Option.isSome_none, Bool.false_eq_true, if_false] at HCK
    clear hxs
    go_enter Try.func40, Try.ntmps40
    go_wp2_with fail
    refine (HCK.out _ HB0.out).mono ?_
    rintro e w1 ⟨rfl, hw1⟩
    have HB1 := Lib.hid (HB0.out.trans (hw1.mono HB0.out.size))
    clear hw1 HX0
    go_wp2
    go_ret2
    exact widP_none HW.out HB1.out
  · have HPB := Lib.hid (fun i h0 h1 => past_bounds hxs i h0 h1)
    have hw0 : widthsF P = some (preGo (sizeL P.cl) (chgL (List.replicate (sizeL P.cl) 0) P.cl) 0 0) := by unfold widthsF; rw [hxs]
    rw [hxs] at HCK
    simp only [Option.isSome_some, if_true] at HCK
    have hs2 := cntR_le P.cl
    obtain ⟨n, hn⟩ : ∃ n, n = sizeL P.cl := ⟨_, rfl⟩
    have hnl : n ≤ 1000000 := by rw [hn]; unfold sizeL; omega
    rw [← hn] at HSZ HPB hw0
    have hlen : (preGo n (chgL (List.replicate n 0) P.cl) 0 0).length = n := by rw [preGo_length, chgL_length, List.length_replicate]
    obtain ⟨D, hDD⟩ : ∃ D, D = preGo n (chgL (List.replicate n 0) P.cl) 0 0 := ⟨_, rfl⟩
    have HD := Lib.hid (show D = preGo n (chgL (List.replicate n 0) (P.cl.drop (0 : Int).toNat)) 0 0 from hDD)
    rw [← hDD] at hlen hw0
    have HLEN := Lib.hid hlen
    have HW := Lib.hid hw0
    obtain ⟨i0, hi, hz0, hz1, hz2⟩ := info_parts info3'
    have hmk := fun wx => run_make (P := Try.prog) wx 68 3 i0 _ under68 hi hz0 .i64 .i64 (n : Int) (n : Int) (by omega) (by omega) (by rw [hz2]; omega) (by omega)
    rw [hz1] at hmk
    have hmk2 : ∀ wx : World, (Instr.makeSlice 68 (.int .i64 (n : Int)) (.int .i64 (n : Int))).run Try.prog wx = .ok (.slice (some ⟨wx.heap.size, 0, none⟩) n n) (wx.alloc (.cells (madeCells #[.int .i64 0] (n * 1)) 3)) := hmk
    clear hxs hw0 hn hDD hmk hlen hs2 hi hz0 hz1 hz2
    go_enter Try.func40, Try.ntmps40
    go_wp2_with fail
    refine (HCK.out _ HB0.out).mono ?_
    rintro e w1 ⟨rfl, hw1⟩
    have HB1 := Lib.hid (HB0.out.trans (hw1.mono HB0.out.size))
    have HX1 := Lib.hid ((hw1.block _ (blk_lt HX0.out)).trans HX0.out)
    have q0 : w1.cell? ⟨W.heap.size, 0, none⟩ = some (.slice a1 P.pr.length c1) := (blk_cell HX1.out 0).trans rfl
    have q1 : w1.cell? ⟨W.heap.size, 1, none⟩ = some (.slice a2 P.ob.length c2) := (blk_cell HX1.out 1).trans rfl
    have q2 : w1.cell? ⟨W.heap.size, 2, none⟩ = some (.slice a3 P.cl.length c3) := (blk_cell HX1.out 2).trans rfl
    clear hw1 HX0 HB0 HCK
    go_wp2_with fail
    refine (HSZ.out _ HB1.out).mono ?_
    rintro e w2 ⟨rfl, hw2⟩
    have HB2 := Lib.hid (HB1.out.trans (hw2.mono HB1.out.size))
    have HX2 := Lib.hid ((hw2.block _ (blk_lt HX1.out)).trans HX1.out)
    have r2 : w2.cell? ⟨W.heap.size, 2, none⟩ = some (.slice a3 P.cl.length c3) := (blk_cell HX2.out 2).trans rfl
    have hgW := HB2.out.size
    have hww : W.heap.size < w2.heap.size := blk_lt HX2.out
    have hi3 := IntR.made w2 n
    rw [Nat.mul_one] at hi3
    have HI3 := Lib.hid hi3
    have HB3 := Lib.hid (below_alloc HB2.out (.cells (madeCells #[.int .i64 0] n) 3))
    clear hw2 HSZ HX1 q0 q1 q2 HB1
    go_wp2
    obtain ⟨g, hg⟩ : ∃ g, g = w2.heap.size := ⟨_, rfl⟩
    obtain ⟨ag, hag⟩ : ∃ ag : Addr, ag = ⟨g, 0, none⟩ := ⟨_, rfl⟩
    obtain ⟨w3, hw3⟩ : ∃ w3, w3 = w2.alloc (.cells (madeCells #[.int .i64 0] n) 3) := ⟨_, rfl⟩
    rw [← hg] at HI3 hgW ⊢
    rw [← hag]
    rw [← hw3] at HI3 HB3 ⊢
    have HG := Lib.hid hgW
    have HAG := Lib.hid hag
    have HU := Lib.hid (show Unit1 (List.replicate n 0) from fun x hx => by have := List.eq_of_mem_replicate hx; omega)
    have hrl : (List.replicate n (0 : Int)).length = n := List.length_replicate
    have HRL := Lib.hid hrl
    clear hw3 hg hag hi3 hrl hgW hww r2 HX2 hmk2
    go_loopw [19] (fun iv wr => ∃ (i : Int) (l : List Int), iv = .int .i64 i ∧ 0 ≤ i ∧ i ≤ (P.cl.length : Int) ∧ Hid (l.length = n) ∧ Hid (Unit1 l) ∧ Hid (D = preGo n (chgL l (P.cl.drop i.toNat)) 0 0) ∧ Hid (IntR wr g l) ∧ Hid (Below W.heap.size W wr)) (fun i _ => P.cl.length - (intOf i).toNat)
    case atStart => exact ⟨0, List.replicate n 0, rfl, by omega, by omega, HRL.out, HU.out, HD.out, HI3.out, HB3.out⟩
    case round =>
      obtain ⟨i, l, rfl, hi0, hi1, HLN, HUN, HDN, HIN, HB⟩ := hrel
      clear HRL HU HD HI3 HB3 HB2
      by_cases hlt : i < (P.cl.length : Int)
      · obtain ⟨ad, A7, c7, A14, c14, hAd, x0, x1, x2, x3, x4, x5, x6, x7, x8, x9, x10, x11, x12, x13, x14, _⟩ := at_T50 (Kd.C_below h3.out HB.out) i hi0 hlt
        have hpb := HPB.out i hi0 hlt
        have hst := HDN.out
        rw [chgL_step l P.cl i hi0 hlt] at hst
        obtain ⟨x, hx⟩ : ∃ x, x = rd_T50 P.cl i := ⟨_, rfl⟩
        rw [← hx] at x0 x1 x2 x3 x4 x5 x6 x7 x8 x9 x10 x11 x12 x13 x14 hpb hst
        have HST := Lib.hid hst
        subst hAd
        have hl := HLN.out
        have z := HIN.out.cell x.f4 hpb.1 (by omega)
        have hgw := HIN.out.lt
        have hfr := HIN.out.frozen x.f4.toNat
        have ea : ag.add x.f4.toNat = ⟨g, x.f4.toNat, none⟩ := ag_add HAG.out _
        rw [← ea] at z hfr
        have hbl : (ag.add x.f4.toNat).block < wr.heap.size := by rw [ea]; exact hgw
        have HB4 := Lib.hid (below_alloc HB.out (.cells (c50 x A7 c7 A14 c14) 50))
        have hb5 := below_alloc (Below.refl wr.heap.size wr) (.cells (c50 x A7 c7 A14 c14) 50)
        have HI5 := Lib.hid (HIN.out.below hb5)
        have HX5 := Lib.hid (heap_alloc_new wr (.cells (c50 x A7 c7 A14 c14) 50))
        have hp0 := hpb.1
        have hp1 := hpb.2.1
        have HP2 := Lib.hid hpb.2.2
        have HEA := Lib.hid ea
        have HGW := Lib.hid hgw
        have hfr5 := HI5.out.frozen x.f4.toNat
        rw [← ea] at hfr5
        unfold c50 at hfr5
        clear hl hpb hst hx hb5 ea hgw
        go_upto_region 8 with fail
        obtain ⟨w5, hw5⟩ : ∃ w5, w5 = (wr.alloc (.cells (c50 x A7 c7 A14 c14) 50)).setCell (ag.add x.f4.toNat) (.int .i64 1) := ⟨_, rfl⟩
        have HI6 := Lib.hid (show IntR w5 g (l.set x.f4.toNat 1) from by rw [hw5, HEA.out]; exact HI5.out.set _ _)
        have hX6 : w5.heap[wr.heap.size]? = some (.cells (c50 x A7 c7 A14 c14) 50 (0, 0)) := by rw [hw5, HEA.out]; exact blk_far HX5.out (by show wr.heap.size ≠ g; have := HGW.out; omega) _
        have HB6 := Lib.hid (show Below W.heap.size W w5 from by rw [hw5, HEA.out]; exact HB4.out.setCell (p := ⟨g, x.f4.toNat, none⟩) HG.out _)
        have z9 : w5.cell? ⟨wr.heap.size, 9, none⟩ = some (.int .i64 x.f5) := (blk_cell hX6 9).trans rfl
        have z8 : w5.cell? ⟨wr.heap.size, 8, none⟩ = some (.int .i64 x.f4) := (blk_cell hX6 8).trans rfl
        unfold c50 at hw5
        rw [← hw5]
        clear hw5 hX6 z hfr hfr5 hbl x0 x1 x2 x3 x4 x5 x6 x7 x8 x9 x10 x11 x12 x13 x14 hp0 hp1
        by_cases h5 : 0 ≤ x.f5
        · have HN2 := Lib.hid (show D = preGo n (chgL ((l.set x.f4.toNat 1).set x.f5.toNat (-1)) (P.cl.drop (i + 1).toNat)) 0 0 from by rw [HST.out]; unfold chg1; rw [if_pos h5])
          have HU2 := Lib.hid ((HUN.out.set x.f4.toNat 1 (by omega)).set x.f5.toNat (-1) (by omega))
          have HL2 := Lib.hid (show ((l.set x.f4.toNat 1).set x.f5.toNat (-1)).length = n from by rw [List.length_set, List.length_set]; exact HLN.out)
          have ea := ag_add HAG.out x.f5.toNat
          have z := HI6.out.cell x.f5 h5 (by have := HP2.out; have := HLN.out; rw [List.length_set]; omega)
          have hfr := HI6.out.frozen x.f5.toNat
          have HI7 := Lib.hid (HI6.out.set x.f5.toNat (-1))
          rw [← ea] at z hfr HI7
          have hp2 := HP2.out
          have HB7 := Lib.hid (HB6.out.setCell (p := ag.add x.f5.toNat) (by rw [ea]; exact HG.out) (.int .i64 (-1)))
          clear ea
          go_wp2
          go_roundw
          case rel => exact ⟨i + 1, _, rfl, by omega, by omega, HL2.out, HU2.out, HN2.out, HI7.out, HB7.out⟩
          case measure => simp [intOf]; omega
        · have HN2 := Lib.hid (show D = preGo n (chgL (l.set x.f4.toNat 1) (P.cl.drop (i + 1).toNat)) 0 0 from by rw [HST.out]; unfold chg1; rw [if_neg h5])
          have HU2 := Lib.hid (HUN.out.set x.f4.toNat 1 (by omega))
          have HL2 := Lib.hid (show (l.set x.f4.toNat 1).length = n from by rw [List.length_set]; exact HLN.out)
          have h5' : x.f5 < 0 := by omega
          clear h5
          go_wp2
          go_roundw
          case rel => exact ⟨i + 1, _, rfl, by omega, by omega, HL2.out, HU2.out, HN2.out, HI6.out, HB6.out⟩
          case measure => simp [intOf]; omega
      · obtain ⟨wo, rfl⟩ : ∃ wo : World, wo = wr := ⟨_, rfl⟩
        have HDE := Lib.hid (show D = preGo n l 0 0 from by have := HDN.out; rw [chgL_end l P.cl i hlt] at this; exact this)
        have HUA := Lib.hid (show ∀ k : Nat, 0 ≤ k → -1 ≤ rd l (k : Int) ∧ rd l (k : Int) ≤ 1 from fun k _ => HUN.out.rd k)
        have hge : (P.cl.length : Int) ≤ i := by omega
        clear HDN HUN hlt
        go_wp2
        go_loopw [37, 7] (fun jv nv wr => ∃ (j : Nat) (m : Int) (l : List Int), jv = .int .i64 j ∧ nv = .int .i64 m ∧ j ≤ n ∧ -(j : Int) ≤ m ∧ m ≤ (j : Int) ∧ Hid (l.length = n) ∧ Hid (∀ k : Nat, j ≤ k → -1 ≤ rd l (k : Int) ∧ rd l (k : Int) ≤ 1) ∧ Hid (D = preGo (n - j) l j m) ∧ Hid (IntR wr g l) ∧ Hid (Below W.heap.size W wr)) (fun j _ _ => n - (intOf j).toNat)
        case atStart => exact ⟨0, 0, l, rfl, rfl, by omega, by omega, by omega, HLN.out, HUA.out, HDE.out, HIN.out, HB.out⟩
        case round =>
          clear HIN HB HLN HUA HDE
          obtain ⟨j, m, l, rfl, rfl, hj, hm0, hm1, HLN, HUN, HDN, HIN, HB⟩ := hrel
          by_cases hlt : j < n
          · have z := HIN.out.cell (j : Int) (by omega) (by have := HLN.out; omega)
            have hfr := HIN.out.frozen j
            have ea := ag_add HAG.out j
            rw [Int.toNat_natCast, ← ea] at z
            rw [← ea] at hfr
            have hu := HUN.out j (Nat.le_refl _)
            obtain ⟨d, hd⟩ : ∃ d, d = rd l (j : Int) := ⟨_, rfl⟩
            rw [← hd] at z hu
            have HN2 := Lib.hid (show D = preGo (n - (j + 1)) (l.set j (m + d)) (j + 1) (m + d) from by rw [HDN.out, show n - j = (n - (j + 1)) + 1 by omega, hd]; rfl)
            have HL2 := Lib.hid (show (l.set j (m + d)).length = n from by rw [List.length_set]; exact HLN.out)
            have HU2 := Lib.hid (show ∀ k : Nat, j + 1 ≤ k → -1 ≤ rd (l.set j (m + d)) (k : Int) ∧ rd (l.set j (m + d)) (k : Int) ≤ 1 from fun k hk => by
              by_cases hkl : k < l.length
              · rw [rd_set j k _ hkl, if_neg (by omega)]; exact HUN.out k (by omega)
              · unfold YtofinglgnkdflaaW.PrintWords.rd
                rw [Int.toNat_natCast, List.getD_eq_getElem?_getD, List.getElem?_eq_none (by rw [List.length_set]; omega)]
                decide)
            have HI7 := Lib.hid (HIN.out.set j (m + d))
            rw [← ea] at HI7
            have HB7 := Lib.hid (HB.out.setCell (p := ag.add j) (by rw [ea]; exact HG.out) (.int .i64 (m + d)))
            clear ea hd
            go_wp2
            go_roundw
            case rel => exact ⟨j + 1, m + d, _, by simp, rfl, hlt, by omega, by omega, HL2.out, HU2.out, HN2.out, HI7.out, HB7.out⟩
            case measure => simp [intOf]; omega
          · have hjn : j = n := by omega
            subst hjn
            have HE := Lib.hid (show D = l from by have := HDN.out; rw [Nat.sub_self] at this; exact this)
            clear hlt
            go_wp2
            rw [HAG.out]
            go_ret2
            exact widP_some HW.out HLEN.out HB.out HG.out (by rw [HE.out]; exact HIN.out)
end Go.Proofs.Ytofinglgnkdflaa
end
section
namespace Go.Proofs.Ytofinglgnkdflaa
open Go.RowKit
open Go.Proofs.Ytofinglgnkdflaa.PHistoryChecks Go.Proofs.YtofinglgnkdflaaW.PrintWords Go.Proofs.YtofinglgnkdflaaW.PrintLast Go.Proofs.YtofinglgnkdflaaW.PrintMore
set_option linter.unusedVariables false
set_option linter.unusedSimpArgs false
theorem rd_set' (l : List Int) (i j : Nat) (v : Int) : rd (l.set i v) (j : Int) = if i = j ∧ j < l.length then v else rd l (j : Int) := by
  by_cases hj : j < l.length
  · rw [rd_set i j v hj]
    by_cases e : i = j
    · rw [if_pos e, if_pos ⟨e, hj⟩]
    · rw [if_neg e, if_neg (fun h => e h.1)]
  · rw [if_neg (fun h => hj h.2)]
    unfold YtofinglgnkdflaaW.PrintWords.rd
    rw [Int.toNat_natCast, List.getD_eq_getElem?_getD, List.getD_eq_getElem?_getD, List.getElem?_eq_none (by rw [List.length_set]; omega), List.getElem?_eq_none (by omega)]
theorem preGo_bound (k : Nat) : ∀ (l : List Int) (i : Nat) (n : Int), (∀ j : Nat, i ≤ j → -1 ≤ rd l j ∧ rd l j ≤ 1) → (-(i : Int) ≤ n ∧ n ≤ i) → (∀ j : Nat, j < i → -(i : Int) ≤ rd l j ∧ rd l j ≤ i) → ∀ j : Nat, -((i + k + 1 : Nat) : Int) ≤ rd (preGo k l i n) j ∧ rd (preGo k l i n) j ≤ ((i + k + 1 : Nat) : Int) := by
  induction k with
  | zero =>
    intro l i n h1 h2 h3 j
    simp only [preGo]
    rcases Nat.lt_or_ge j i with h | h
    · have := h3 j h; omega
    · have := h1 j h; omega
  | succ k ih =>
    intro l i n h1 h2 h3 j
    simp only [preGo]
    have h4 := h1 i (Nat.le_refl _)
    have := ih (l.set i (n + rd l (i : Int))) (i + 1) (n + rd l (i : Int)) (fun m hm => by rw [rd_set', if_neg (by omega)]; exact h1 m (by omega)) (by omega) (fun m hm => by
      rw [rd_set']
      split
      · omega
      · rcases Nat.lt_or_ge m i with h | h
        · have := h3 m h; omega
        · have := h1 m h; omega) j
    omega
theorem widthsF_some {P : PastL} {w : List Int} (h : widthsF P = some w) : (∃ xs, eventsF P = some xs) ∧ w = preGo (sizeL P.cl) (chgL (List.replicate (sizeL P.cl) 0) P.cl) 0 0 := by
  unfold widthsF at h
  rcases hx : eventsF P with _ | xs
  · rw [hx] at h; cases h
  · rw [hx] at h; cases h; exact ⟨⟨xs, rfl⟩, rfl⟩
theorem unit_chgL (cs : List S50) : ∀ l : List Int, Unit1 l → Unit1 (chgL l cs) := by
  induction cs with
  | nil => intro l h; exact h
  | cons c cs ih => intro l h; exact ih _ (h.chg c)
theorem unit_zero (n : Nat) : Unit1 (List.replicate n 0) := fun x hx => by have := List.eq_of_mem_replicate hx; omega
theorem widths_bound {P : PastL} {w : List Int} (h : widthsF P = some w) (hl : P.cl.length ≤ 500000) (j : Int) (h0 : 0 ≤ j) : -1000001 ≤ rd w j ∧ rd w j ≤ 1000001 := by
  have h1 := (widthsF_some h).2
  have hu := unit_chgL P.cl _ (unit_zero (sizeL P.cl))
  have h2 := preGo_bound (sizeL P.cl) (chgL (List.replicate (sizeL P.cl) 0) P.cl) 0 0 (fun j _ => hu.rd j) (by omega) (fun j hj => absurd hj (Nat.not_lt_zero _)) j.toNat
  rw [← h1] at h2
  have h3 := cntR_le P.cl
  have h4 : sizeL P.cl ≤ 1000000 := by unfold sizeL; omega
  rw [Int.toNat_of_nonneg h0] at h2
  omega
theorem widths_length {P : PastL} {w : List Int} (h : widthsF P = some w) : w.length = sizeL P.cl := by
  rw [(widthsF_some h).2, preGo_length, chgL_length, List.length_replicate]
def othersL (w : List Int) (cs : List S50) : List Int := cs.map (fun c => rd w c.f4 - 1)
def othersF (P : PastL) : Option (List Int) := match widthsF P with
  | none => none
  | some w => some (othersL w P.cl)
def OthP (P : PastL) (W : World) (e : Ending) (w' : World) : Prop :=
  Below W.heap.size W w' ∧ ((othersF P = none ∧ e = .returned (.tuple #[.slice none 0 0, .int .i64 2])) ∨ ∃ l v, othersF P = some l ∧ e = .returned (.tuple #[v, .int .i64 0]) ∧ (Kd.int .i64).R 3 w' W.heap.size (fun _ => True) v l)
theorem othersL_take (w : List Int) (cs : List S50) (i : Int) (h0 : 0 ≤ i) (h1 : i < (cs.length : Int)) : othersL w (cs.take (i + 1).toNat) = othersL w (cs.take i.toNat) ++ [rd w (rd_T50 cs i).f4 - 1] := by
  rw [take50 cs i h0 h1]; unfold othersL; rw [List.map_append]; rfl
set_option maxHeartbeats 2000000 in
set_option maxRecDepth 100000 in
theorem Others_any (W : World) (P : PastL) (R : Rw3) (hR : RdP W P R) (hl : P.cl.length ≤ 500000) (hE : ∀ xs, eventsL P = some xs → ∀ e ∈ xs, okE e ∧ nd e.f4 ≤ 1000000) :
    Calls Try.prog 42 #[.agg (cP P R)] W (OthP P W) := by
  have HWD := Lib.hid (fun W1 (h : Below W.heap.size W W1) => Widths_any W1 P R (hR.below h) hl hE)
  have HB0 := Lib.hid (below_alloc (Below.refl W.heap.size W) (.cells (cP P R) 30))
  have HX0 := Lib.hid (heap_alloc_new W (.cells (cP P R) 30))
  have h3 := Lib.hid hR.cl
  have hmax := Kd.C_max hR.cl
  obtain ⟨a1, c1, a2, c2, a3, c3⟩ := R
  unfold cP at HB0 HX0 HWD ⊢
  unfold WidP at HWD
  clear hR hE
  rcases hxs : widthsF P with _ | w
  · have HO := Lib.hid (show othersF P = none from by unfold othersF; rw [hxs])
    rw [hxs] at HWD
    clear hxs
    go_enter Try.func42, Try.ntmps42
    go_wp2_with fail
    refine (HWD.out _ HB0.out).mono ?_
    rintro e w1 ⟨hw1, rfl⟩
    have HB1 := Lib.hid (HB0.out.trans (hw1.mono HB0.out.size))
    clear hw1 HX0 HWD
    go_wp2
    go_ret2
    exact ⟨HB1.out, .inl ⟨HO.out, rfl⟩⟩
  · have HO := Lib.hid (show othersF P = some (othersL w P.cl) from by unfold othersF; rw [hxs])
    have HPB := Lib.hid (fun i h0 h1 => past_bounds (widthsF_some hxs).1.choose_spec i h0 h1)
    have HWB := Lib.hid (fun j h0 => widths_bound hxs hl j h0)
    have HWL := Lib.hid (widths_length hxs)
    rw [hxs] at HWD
    clear hxs
    go_enter Try.func42, Try.ntmps42
    go_wp2_with fail
    refine (HWD.out _ HB0.out).mono ?_
    rintro e w1 ⟨hw1, g, hg, rfl, hI⟩
    have HB1 := Lib.hid (HB0.out.trans (hw1.mono HB0.out.size))
    have HX1 := Lib.hid ((hw1.block _ (blk_lt HX0.out)).trans HX0.out)
    have q2 : w1.cell? ⟨W.heap.size, 2, none⟩ = some (.slice a3 P.cl.length c3) := (blk_cell HX1.out 2).trans rfl
    have HI := Lib.hid hI
    obtain ⟨ag, hag⟩ : ∃ ag : Addr, ag = ⟨g, 0, none⟩ := ⟨_, rfl⟩
    rw [← hag]
    have HAG := Lib.hid hag
    have HGW := Lib.hid (Nat.le_trans HB0.out.size hg)
    clear hw1 HX0 HWD hI hag hg
    go_wp2
    go_loopw [20, 6] (fun iv rv wr => ∃ (i : Int) (js : List Int) (A : Option Addr) (c : Nat), iv = .int .i64 i ∧ rv = .slice A js.length c ∧ 0 ≤ i ∧ i ≤ (P.cl.length : Int) ∧ js.length ≤ i.toNat ∧ Hid (js = othersL w (P.cl.take i.toNat)) ∧ Hid ((Kd.int .i64).R 3 wr w1.heap.size (fun _ => True) (.slice A js.length c) js) ∧ Hid (Below w1.heap.size w1 wr)) (fun i _ _ => P.cl.length - (intOf i).toNat)
    case atStart => exact ⟨0, [], none, 0, rfl, rfl, by omega, by omega, by simp, (by show ([] : List Int) = othersL w (P.cl.take 0); rw [List.take_zero]; rfl), Kd.R_nil _ _ _ _ _, Below.refl _ _⟩
    case round =>
      obtain ⟨i, js, A, c, rfl, rfl, hi0, hi1, hjl, HN, HR, HB⟩ := hrel
      have HBW := Lib.hid (HB1.out.trans (HB.out.mono HB1.out.size))
      by_cases hlt : i < (P.cl.length : Int)
      · obtain ⟨ad, A7, c7, A14, c14, rfl, x0, x1, x2, x3, x4, x5, x6, x7, x8, x9, x10, x11, x12, x13, x14, _⟩ := at_T50 (Kd.C_below h3.out HBW.out) i hi0 hlt
        have hpb := HPB.out i hi0 hlt
        have hst := othersL_take w P.cl i hi0 hlt
        rw [← HN.out] at hst
        obtain ⟨x, hx⟩ : ∃ x, x = rd_T50 P.cl i := ⟨_, rfl⟩
        rw [← hx] at x0 x1 x2 x3 x4 x5 x6 x7 x8 x9 x10 x11 x12 x13 x14 hpb hst
        have hI2 := HI.out.below HB.out
        have z := hI2.cell x.f4 hpb.1 (by rw [HWL.out]; exact hpb.2.1)
        have hwb := HWB.out x.f4 hpb.1
        have ea := ag_add HAG.out x.f4.toNat
        rw [← ea] at z
        obtain ⟨d, hd⟩ : ∃ d, d = rd w x.f4 := ⟨_, rfl⟩
        rw [← hd] at z hwb hst
        have HST := Lib.hid hst
        have hbl : (ag.add x.f4.toNat).block < wr.heap.size := by rw [ea]; exact hI2.lt
        have hp0 := hpb.1
        have hp1 : x.f4 < (w.length : Int) := by rw [HWL.out]; exact hpb.2.1
        have HB3 := Lib.hid (below_alloc HBW.out (.cells (c50 x A7 c7 A14 c14) 50))
        have HB4 := Lib.hid (below_alloc HB.out (.cells (c50 x A7 c7 A14 c14) 50))
        have hR3 := Lib.hid (Kd.R_below HR.out (below_alloc (Below.refl wr.heap.size wr) (.cells (c50 x A7 c7 A14 c14) 50)))
        have hjm : (js.length + 1) * 8 ≤ 140737488355328 := by omega
        have HGR := Lib.hid hI2.lt
        clear hst hpb hx hd ea hI2
        go_wp2_with (at_builtin; (refine Kd.R_append (w0 := w1) (Kd.int .i64) w1.heap.size rfl _ _ 68 3 _ 8 rfl under68 info3' rfl (by decide) (by decide) (.slice A js.length c) js (d - 1) [.int .i64 (d - 1)] (fun _ => True) (fun _ => False) rfl (by rw [alloc_size]; rfl) rfl (fun _ h => h.elim) (fun _ _ => trivial) hR3.out HB4.out HB4.out.size hjm ?_; intro v1 w3 hR4 hb4 hg4 hat4; obtain ⟨A1, k1, rfl⟩ := Kd.R_slice hR4; have HR4 := Lib.hid hR4; have HB5 := Lib.hid hb4; clear hR4 hb4 hg4 hat4))
        go_roundw
        case rel => exact ⟨i + 1, js ++ [d - 1], A1, k1, rfl, (by simp), by omega, by omega, by rw [List.length_append, List.length_singleton]; omega, HST.out.symm, HR4.out, HB5.out⟩
        case measure => simp [intOf]; omega
      · have HE := Lib.hid (show js = othersL w P.cl from by rw [HN.out, List.take_of_length_le (by omega)])
        have hge : (P.cl.length : Int) ≤ i := by omega
        clear hlt
        go_wp2
        go_ret2
        exact ⟨HBW.out, .inr ⟨_, _, HO.out, rfl, by rw [← HE.out]; exact Kd.R_lower HR.out HB1.out.size⟩⟩
end Go.Proofs.Ytofinglgnkdflaa
end
section
namespace Go.Proofs.Ytofinglgnkdflaa
open Go.RowKit
open Go.Proofs.Ytofinglgnkdflaa.PHistoryChecks Go.Proofs.YtofinglgnkdflaaW.PrintWords Go.Proofs.YtofinglgnkdflaaW.PrintLast Go.Proofs.YtofinglgnkdflaaW.PrintMore
set_option linter.unusedVariables false
set_option linter.unusedSimpArgs false
def IntA (w : World) (g : Nat) (xs : List Int) : Prop := w.heap[g]? = some (.cells (intCs xs) 120 (0, 0))
section
variable {w w1 : World} {g : Nat} {xs : List Int}
theorem IntA.cell (h : IntA w g xs) (i : Int) (h0 : 0 ≤ i) (h1 : i < (xs.length : Int)) : w.cell? ⟨g, i.toNat, none⟩ = some (.int .i64 (rd xs i)) := by
  have hn : i.toNat < xs.length := by omega
  refine (blk_cell h i.toNat).trans ?_
  rw [intCs_at xs _ hn]
  unfold YtofinglgnkdflaaW.PrintWords.rd
  rw [List.getD_eq_getElem?_getD, List.getElem?_eq_getElem hn]; rfl
theorem IntA.set (h : IntA w g xs) (i : Nat) (v : Int) : IntA (w.setCell ⟨g, i, none⟩ (.int .i64 v)) g (xs.set i v) := by
  have := blk_set h i (.int .i64 v)
  unfold IntA intCs at *
  rw [this, List.map_set]
  simp
theorem IntA.lt (h : IntA w g xs) : g < w.heap.size := blk_lt h
theorem IntA.frozen (h : IntA w g xs) (i : Nat) : w.frozen? ⟨g, i, none⟩ = false := blk_frozen h i
theorem IntA.C (h : IntA w g xs) (hm : xs.length ≤ 9223372036854775807) : (Kd.int .i64).C w (some ⟨g, 0, none⟩) xs.length xs := by
  refine ⟨rfl, hm, fun _ => ⟨_, rfl, fun j p hj => ⟨[.int .i64 p], rfl, rfl, fun i u hu => ?_⟩⟩⟩
  have hj2 : j < xs.length := (List.getElem?_eq_some_iff.1 hj).1
  have hp : xs[j] = p := (List.getElem?_eq_some_iff.1 hj).2
  cases i with
  | zero =>
    simp at hu; subst hu
    show w.cell? ((⟨g, 0, none⟩ : Addr).add (j * 1 + 0)) = _
    rw [ag_add rfl, Nat.mul_one, Nat.add_zero, ← hp]
    exact (blk_cell h j).trans (intCs_at xs j hj2)
  | succ i => simp at hu
end
def addAt (acc : List Int) (k : Int) : List Int := acc.set (k % 4).toNat (rd acc (k % 4) + 1)
def cntGo : List Int → List Int → List Int
  | acc, [] => acc
  | acc, k :: l => cntGo (addAt acc k) l
def countsF (P : PastL) : Option (List Int) := match othersF P with
  | none => none
  | some l => some (cntGo [0, 0, 0, 0] l)
def CntP (P : PastL) (W : World) (e : Ending) (w' : World) : Prop :=
  Below W.heap.size W w' ∧ ((countsF P = none ∧ e = .returned (.tuple #[.slice none 0 0, .int .i64 2])) ∨ ∃ l g, countsF P = some l ∧ l.length = 4 ∧ W.heap.size ≤ g ∧ e = .returned (.tuple #[.slice (some ⟨g, 0, none⟩) 4 4, .int .i64 0]) ∧ IntA w' g l)
theorem cntGo_step (acc l : List Int) (i : Int) (h0 : 0 ≤ i) (h1 : i < (l.length : Int)) : cntGo acc (l.drop i.toNat) = cntGo (addAt acc (rd l i)) (l.drop (i + 1).toNat) := by
  have hn : i.toNat < l.length := by omega
  have e : rd l i = l[i.toNat] := by unfold YtofinglgnkdflaaW.PrintWords.rd; rw [List.getD_eq_getElem?_getD, List.getElem?_eq_getElem hn]; rfl
  have e2 : (i + 1).toNat = i.toNat + 1 := by omega
  rw [e2, List.drop_eq_getElem_cons hn, e]
  rfl
theorem rd_mem_int (l : List Int) (i : Int) (h0 : 0 ≤ i) (h1 : i < (l.length : Int)) : rd l i ∈ l := by
  have hn : i.toNat < l.length := by omega
  unfold YtofinglgnkdflaaW.PrintWords.rd
  rw [List.getD_eq_getElem?_getD, List.getElem?_eq_getElem hn]; exact List.getElem_mem hn
set_option maxHeartbeats 2000000 in
set_option maxRecDepth 100000 in
theorem Counts_any (W : World) (P : PastL) (R : Rw3) (hR : RdP W P R) (hl : P.cl.length ≤ 500000) (hE : ∀ xs, eventsL P = some xs → ∀ e ∈ xs, okE e ∧ nd e.f4 ≤ 1000000) (hN : ∀ l, othersF P = some l → ∀ x ∈ l, 0 ≤ x) :
    Calls Try.prog 44 #[.agg (cP P R)] W (CntP P W) := by
  have HOT := Lib.hid (fun W1 (h : Below W.heap.size W W1) => Others_any W1 P R (hR.below h) hl hE)
  have HB0 := Lib.hid (below_alloc (Below.refl W.heap.size W) (.cells (cP P R) 30))
  have HLO := Lib.hid (show ∀ l, othersF P = some l → l.length ≤ 500000 from fun l h => by
    unfold othersF at h
    split at h
    · cases h
    · cases h; unfold othersL; rw [List.length_map]; exact hl)
  obtain ⟨a1, c1, a2, c2, a3, c3⟩ := R
  unfold cP at HB0 HOT ⊢
  have HN := Lib.hid hN
  clear hR hE hN
  go_enter Try.func44, Try.ntmps44
  go_wp2_with fail
  refine (HOT.out _ HB0.out).mono ?_
  rintro e w1 ⟨hw1, ⟨ho, rfl⟩ | ⟨l, v, ho, rfl, hv⟩⟩
  · have HB1 := Lib.hid (HB0.out.trans (hw1.mono HB0.out.size))
    have HO := Lib.hid (show countsF P = none from by unfold countsF; rw [ho])
    clear hw1 HOT ho
    go_wp2
    go_ret2
    exact ⟨HB1.out, .inl ⟨HO.out, rfl⟩⟩
  · have HB1 := Lib.hid (HB0.out.trans (hw1.mono HB0.out.size))
    obtain ⟨A, k, rfl, hlk, hC⟩ := Kd.R_reads hv
    have HC := Lib.hid hC
    have hll := HLO.out l ho
    have HNN := Lib.hid (HN.out l ho)
    have HO := Lib.hid (show countsF P = some (cntGo [0, 0, 0, 0] (l.drop (0 : Int).toNat)) from by unfold countsF; rw [ho]; rfl)
    have HA2 := Lib.hid (show IntA (w1.alloc (.cells #[.int .i64 0, .int .i64 0, .int .i64 0, .int .i64 0] 120)) w1.heap.size [0, 0, 0, 0] from heap_alloc_new w1 _)
    have HB2 := Lib.hid (below_alloc (Below.refl w1.heap.size w1) (.cells #[.int .i64 0, .int .i64 0, .int .i64 0, .int .i64 0] 120))
    clear hw1 HOT ho hv hC
    go_wp2
    obtain ⟨g, hg⟩ : ∃ g, g = w1.heap.size := ⟨_, rfl⟩
    obtain ⟨ag, hag⟩ : ∃ ag : Addr, ag = ⟨g, 0, none⟩ := ⟨_, rfl⟩
    obtain ⟨w2, hw2⟩ : ∃ w2, w2 = w1.alloc (.cells #[.int .i64 0, .int .i64 0, .int .i64 0, .int .i64 0] 120) := ⟨_, rfl⟩
    rw [← hw2] at HA2 HB2 ⊢
    rw [← hg] at HA2
    have HGW := Lib.hid (show W.heap.size ≤ g from by rw [hg]; exact HB1.out.size)
    have HG1 := Lib.hid (Nat.le_of_eq hg.symm)
    rw [← hg, ← hag]
    have HAG := Lib.hid hag
    clear hw2 hg hag
    go_loopw [19] (fun iv wr => ∃ (i : Int) (acc : List Int), iv = .int .i64 i ∧ 0 ≤ i ∧ i ≤ (l.length : Int) ∧ Hid (acc.length = 4) ∧ Hid (∀ j : Int, 0 ≤ rd acc j ∧ rd acc j ≤ i) ∧ Hid (countsF P = some (cntGo acc (l.drop i.toNat))) ∧ Hid (IntA wr g acc) ∧ Hid (Below w1.heap.size w1 wr)) (fun i _ => l.length - (intOf i).toNat)
    case atStart => exact ⟨0, [0, 0, 0, 0], rfl, by omega, by omega, rfl, (fun j => by
      unfold YtofinglgnkdflaaW.PrintWords.rd
      rw [List.getD_eq_getElem?_getD]
      rcases h : [(0 : Int), 0, 0, 0][j.toNat]? with _ | x
      · exact ⟨by decide, by decide⟩
      · have := List.mem_of_getElem? h; simp at this; subst this; exact ⟨by decide, by decide⟩), HO.out, HA2.out, HB2.out⟩
    case round =>
      obtain ⟨i, acc, rfl, hi0, hi1, HL4, HAC, HCN, HA, HB⟩ := hrel
      clear HO HA2 HB2
      by_cases hlt : i < (l.length : Int)
      · obtain ⟨ad, rfl, z⟩ := Kd.at_int (Kd.C_below HC.out HB.out) i hi0 hlt
        have hst := HCN.out
        rw [cntGo_step acc l i hi0 hlt] at hst
        have hx0 := HNN.out _ (rd_mem_int l i hi0 hlt)
        obtain ⟨x, hx⟩ : ∃ x, x = rd l i := ⟨_, rfl⟩
        rw [← hx] at z hst hx0
        have hm0 : 0 ≤ x % 4 := by omega
        have hm1 : x % 4 < 4 := by omega
        have hac := HAC.out (x % 4)
        have zz := HA.out.cell (x % 4) hm0 (by have := HL4.out; omega)
        have hfr := HA.out.frozen (x % 4).toNat
        have ea := ag_add HAG.out (x % 4).toNat
        rw [← ea] at zz hfr
        obtain ⟨d, hd⟩ : ∃ d, d = rd acc (x % 4) := ⟨_, rfl⟩
        rw [← hd] at zz hac
        have HST := Lib.hid (show countsF P = some (cntGo (acc.set (x % 4).toNat (d + 1)) (l.drop (i + 1).toNat)) from by rw [hst, hd]; rfl)
        have HL5 := Lib.hid (show (acc.set (x % 4).toNat (d + 1)).length = 4 from by rw [List.length_set]; exact HL4.out)
        have HAC2 := Lib.hid (show ∀ j : Int, 0 ≤ rd (acc.set (x % 4).toNat (d + 1)) j ∧ rd (acc.set (x % 4).toNat (d + 1)) j ≤ i + 1 from fun j => by
          have h1 := rd_set' acc (x % 4).toNat j.toNat (d + 1)
          have h2 : rd (acc.set (x % 4).toNat (d + 1)) j = rd (acc.set (x % 4).toNat (d + 1)) (j.toNat : Int) := by unfold YtofinglgnkdflaaW.PrintWords.rd; rw [Int.toNat_natCast]
          rw [h2, h1]
          have h3 := HAC.out (j.toNat : Int)
          split <;> omega)
        have HI2 := Lib.hid (HA.out.set (x % 4).toNat (d + 1))
        rw [← ea] at HI2
        have HB3 := Lib.hid (HB.out.setCell (p := ag.add (x % 4).toNat) (by rw [ea]; exact HG1.out) (.int .i64 (d + 1)))
        clear hst hx ea hd
        go_wp2
        go_roundw
        case rel => exact ⟨i + 1, _, rfl, by omega, by omega, HL5.out, HAC2.out, HST.out, HI2.out, HB3.out⟩
        case measure => simp [intOf]; omega
      · have HE := Lib.hid (show countsF P = some acc from by have := HCN.out; rw [List.drop_eq_nil_of_le (by omega)] at this; exact this)
        have hge : (l.length : Int) ≤ i := by omega
        clear hlt
        go_wp2
        rw [HAG.out]
        go_ret2
        exact ⟨HB1.out.trans (HB.out.mono HB1.out.size), .inr ⟨acc, g, HE.out, HL4.out, HGW.out, rfl, HA.out⟩⟩
end Go.Proofs.Ytofinglgnkdflaa
end
section
namespace Go.Proofs.Ytofinglgnkdflaa
open Go.RowKit
open Go.Proofs.Ytofinglgnkdflaa.PHistoryChecks Go.Proofs.YtofinglgnkdflaaW.PrintWords Go.Proofs.YtofinglgnkdflaaW.PrintLast Go.Proofs.YtofinglgnkdflaaW.PrintMore
set_option linter.unusedVariables false
set_option linter.unusedSimpArgs false
theorem eqI_from (l m : List Int) (h : l.length = m.length) (i : Int) (h0 : 0 ≤ i) (h1 : i < (l.length : Int)) :
    (l.drop i.toNat == m.drop i.toNat) = ((rd l i == rd m i) && (l.drop (i + 1).toNat == m.drop (i + 1).toNat)) := by
  have hn : i.toNat < l.length := by omega
  have hm : i.toNat < m.length := by omega
  have e : (i + 1).toNat = i.toNat + 1 := by omega
  rw [e, List.drop_eq_getElem_cons hn, List.drop_eq_getElem_cons hm]
  unfold rd
  rw [List.getD_eq_getElem?_getD, List.getElem?_eq_getElem hn, List.getD_eq_getElem?_getD, List.getElem?_eq_getElem hm]; rfl
theorem eqI_len (l m : List Int) (h : l.length ≠ m.length) : (l == m) = false := by
  rw [beq_eq_false_iff_ne]; intro e; exact h (by rw [e])
theorem eqI_end (l m : List Int) (h : l.length = m.length) (i : Int) (h1 : ¬ i < (l.length : Int)) : (l.drop i.toNat == m.drop i.toNat) = true := by
  rw [List.drop_eq_nil_of_le (by omega), List.drop_eq_nil_of_le (by omega)]; rfl
set_option maxHeartbeats 4000000 in
theorem Ints_any (l m : List Int) (A B : Option Addr) (c d : Nat) (W : World) (hCa : (Kd.int .i64).C W A l.length l) (hCb : (Kd.int .i64).C W B m.length m) :
    Calls Try.prog 46 #[.slice A l.length c, .slice B m.length d] W (fun e w' => e = .returned (.bool (l == m)) ∧ Below W.heap.size W w') := by
  have hla := Kd.C_max hCa
  have hlb := Kd.C_max hCb
  have HCa := Lib.hid hCa
  have HCb := Lib.hid hCb
  clear hCa hCb
  go_enter Try.func46, Try.ntmps46
  by_cases hl : l.length = m.length
  · have hl' : ((l.length : Int) != (m.length : Int)) = false := by rw [bne_eq_false_iff_eq]; omega
    have HL := Lib.hid hl
    have HST := Lib.hid (show (l == m) = (l.drop (0 : Int).toNat == m.drop (0 : Int).toNat) from rfl)
    clear hl
    go_wp2
    go_loopw [5] (fun iv wr => ∃ i : Int, iv = .int .i64 i ∧ 0 ≤ i ∧ i ≤ (l.length : Int) ∧ Hid ((l == m) = (l.drop i.toNat == m.drop i.toNat)) ∧ Hid (Below W.heap.size W wr)) (fun i _ => l.length - (intOf i).toNat)
    case atStart => exact ⟨0, rfl, by omega, by omega, HST.out, Below.refl _ _⟩
    case round =>
      obtain ⟨i, rfl, hi0, hi1, HI, HB⟩ := hrel
      by_cases hlt : i < (l.length : Int)
      · obtain ⟨ad, hAd, x0⟩ := Kd.at_int (Kd.C_below HCa.out HB.out) i hi0 hlt
        have hlt2 : i < (m.length : Int) := by have := HL.out; omega
        obtain ⟨bd, hBd, y0⟩ := Kd.at_int (Kd.C_below HCb.out HB.out) i hi0 hlt2
        have hstep := Lib.hid (eqI_from l m HL.out i hi0 hlt)
        obtain ⟨x, hx⟩ : ∃ x, x = rd l i := ⟨_, rfl⟩
        obtain ⟨y, hy⟩ : ∃ y, y = rd m i := ⟨_, rfl⟩
        rw [← hx, ← hy] at hstep
        rw [← hx] at x0
        rw [← hy] at y0
        rw [hAd, hBd]
        clear hx hy hAd hBd
        obtain ⟨r, hr⟩ : ∃ r, (x == y) = r := ⟨_, rfl⟩
        rw [hr] at hstep
        cases r
        · have hr' : (x != y) = true := by unfold bne; rw [hr]; rfl
          have HR := Lib.hid (show (l == m) = false from by rw [HI.out, hstep.out]; rfl)
          go_wp2
          go_quiet (fail)
          go_wp2
          go_ret
          exact ⟨by rw [HR.out]; try rfl, by first | exact HB.out | exact below_drew HB.out | exact pw_below_drewN HB.out _⟩
        · have hr' : (x != y) = false := by unfold bne; rw [hr]; rfl
          go_wp2
          go_quiet (fail)
          go_wp2
          go_roundw
          case rel => exact ⟨i + 1, by first | rfl | (rw [w64_in _ (by omega)]), by omega, by omega, (show (l == m) = (l.drop (i + 1).toNat == m.drop (i + 1).toNat) from by rw [HI.out, hstep.out]; simp), by first | exact HB.out | exact below_drew HB.out | exact pw_below_drewN HB.out _⟩
          case measure => simp [intOf]; omega
      · have HE := Lib.hid (show (l == m) = true from by rw [HI.out, eqI_end l m HL.out i hlt])
        have hge : (l.length : Int) ≤ i := by omega
        clear hlt
        go_wp2
        go_ret
        exact ⟨by rw [HE.out]; try rfl, HB.out⟩
  · have hl' : ((l.length : Int) != (m.length : Int)) = true := by rw [bne_iff_ne]; omega
    have HL := Lib.hid (eqI_len l m hl)
    clear hl
    go_wp2
    go_ret
    exact ⟨by rw [HL.out]; try rfl, Below.refl _ _⟩
end Go.Proofs.Ytofinglgnkdflaa
end
