/- Layer 7: history.Check; slices.Index of texts; Proc, Object. -/
import Derived.Test.YtofinglgnkdflaaLXF
import Derived.Test.YtofinglgnkdflaaLXC
import Derived.Test.YtofinglgnkdflaaLXD
section
namespace Go.Proofs.Ytofinglgnkdflaa
open Go.RowKit
open Go.Proofs.Ytofinglgnkdflaa.PHistoryChecks Go.Proofs.YtofinglgnkdflaaW.PrintWords Go.Proofs.YtofinglgnkdflaaW.PrintLast Go.Proofs.YtofinglgnkdflaaW.PrintMore
set_option linter.unusedVariables false
set_option linter.unusedSimpArgs false
def rdB (l : List ByteArray) (i : Int) : ByteArray := rdOf ByteArray.empty l i
def evCall (P : PastL) (c : S50) : S47 := ⟨1, rdB P.pr c.f0, rdB P.ob c.f1, c.f2, c.f3, z45⟩
def evRet (P : PastL) (c : S50) : S47 := ⟨2, rdB P.pr c.f0, ⟨#[]⟩, ⟨#[]⟩, c.f6, z45⟩
def evIn (P : PastL) (c : S50) : Bool := decide (0 ≤ c.f0) && (decide (c.f0 < (P.pr.length : Int)) && (decide (0 ≤ c.f1) && decide (c.f1 < (P.ob.length : Int))))
def evStep (P : PastL) (xs : List S47) (c : S50) : Option (List S47) :=
  if evIn P c then
    if putB xs c.f4 then
      if 0 ≤ c.f5 then if putB (putL xs c.f4 (evCall P c)) c.f5 then some (putL (putL xs c.f4 (evCall P c)) c.f5 (evRet P c)) else none
      else some (putL xs c.f4 (evCall P c))
    else none
  else none
def evFrom (P : PastL) : List S47 → List S50 → Option (List S47)
  | xs, [] => some xs
  | xs, c :: l => match evStep P xs c with
    | none => none
    | some ys => evFrom P ys l
def eventsL (P : PastL) : Option (List S47) := evFrom P (List.replicate (sizeL P.cl) z47) P.cl
theorem evStep_length {P : PastL} {xs ys : List S47} {c : S50} (h : evStep P xs c = some ys) : ys.length = xs.length := by
  unfold evStep at h
  repeat' split at h
  all_goals (first | (cases h; simp [putL_length]) | cases h)
theorem evFrom_none (P : PastL) (xs : List S47) (l : List S50) (i : Int) (h0 : 0 ≤ i) (h1 : i < (l.length : Int)) (h : evStep P xs (rd_T50 l i) = none) : evFrom P xs (l.drop i.toNat) = none := by
  have hn : i.toNat < l.length := by omega
  have e : rd_T50 l i = l[i.toNat] := by unfold rd_T50; rw [List.getD_eq_getElem?_getD, List.getElem?_eq_getElem hn]; rfl
  rw [List.drop_eq_getElem_cons hn]
  simp only [evFrom]
  rw [← e, h]
theorem evFrom_step (P : PastL) (xs ys : List S47) (l : List S50) (i : Int) (h0 : 0 ≤ i) (h1 : i < (l.length : Int)) (h : evStep P xs (rd_T50 l i) = some ys) : evFrom P xs (l.drop i.toNat) = evFrom P ys (l.drop (i + 1).toNat) := by
  have hn : i.toNat < l.length := by omega
  have e : rd_T50 l i = l[i.toNat] := by unfold rd_T50; rw [List.getD_eq_getElem?_getD, List.getElem?_eq_getElem hn]; rfl
  have e2 : (i + 1).toNat = i.toNat + 1 := by omega
  rw [e2, List.drop_eq_getElem_cons hn]
  simp only [evFrom]
  rw [← e, h]
theorem evFrom_end (P : PastL) (xs : List S47) (l : List S50) (i : Int) (h1 : ¬ i < (l.length : Int)) : evFrom P xs (l.drop i.toNat) = some xs := by
  rw [List.drop_eq_nil_of_le (by omega)]; rfl
theorem made_chunk {sz : Nat} (z : Array Value) (n : Nat) (hz : z.size = sz) (h0 : 0 < sz) (j : Nat) (hj : j < n) : Chunk sz (madeCells z (n * sz)) j z.toList := by
  refine ⟨by simpa using hz, fun o u hu => ?_⟩
  have ho : o < z.size := by have := (List.getElem?_eq_some_iff.1 hu).1; simpa using this
  have h1 : j * sz + o < n * sz := by
    have : (j + 1) * sz ≤ n * sz := Nat.mul_le_mul_right _ hj
    rw [Nat.add_mul, Nat.one_mul] at this; omega
  unfold madeCells
  rw [Array.getElem?_map, Array.getElem?_range, if_pos h1]
  show some (z[(j * sz + o) % z.size]!) = some u
  rw [hz, show (j * sz + o) % sz = o from by rw [Nat.mul_comm, Nat.mul_add_mod, Nat.mod_eq_of_lt (by omega)], getElem!_pos z o ho]
  rw [Array.getElem?_toList, Array.getElem?_eq_getElem ho] at hu
  exact hu
theorem row_made (W wr : World) (n : Nat) (hn : n ≤ 2000000) : RowE W (wr.alloc (.cells (madeCells (c47 z47 none 0) (n * 12)) 47)) wr.heap.size n n (List.replicate n z47) :=
  ⟨_, heap_alloc_new wr _, Nat.le_refl _, by unfold maxLen; omega, size_madeCells _ _, fun j hj => ⟨_, made_chunk (c47 z47 none 0) n rfl (by decide) j hj, z47, by rw [List.getElem?_replicate, if_pos hj], k47_mk W z47 (A8 := none) (c8 := 0) (Nat.le_refl _) (Kd.C_nil _ _)⟩⟩
def EvP (P : PastL) (W : World) (e : Ending) (w' : World) : Prop :=
  Below W.heap.size W w' ∧ match eventsL P with
    | none => e = .returned (.tuple #[.slice none 0 0, .bool false])
    | some xs => ∃ g, W.heap.size ≤ g ∧ e = .returned (.tuple #[.slice (some ⟨g, 0, none⟩) xs.length xs.length, .bool true]) ∧ RowE W w' g xs.length xs.length xs
structure EvS (P : PastL) (x : S50) (A7 : Option Addr) (c7 : Nat) (A14 : Option Addr) (c14 c1 c2 c3 b b6 : Nat) (pd od ad : Addr) (w : World) : Prop where
  hb : w.heap[b]? = some (.cells #[.slice (some pd) P.pr.length c1, .slice (some od) P.ob.length c2, .slice (some ad) P.cl.length c3] 30 (0, 0))
  hc : w.heap[b6]? = some (.cells (c50 x A7 c7 A14 c14) 50 (0, 0))
  p : w.cell? (pd.add x.f0.toNat) = some (.string (rdB P.pr x.f0))
  o : w.cell? (od.add x.f1.toNat) = some (.string (rdB P.ob x.f1))
section
variable {P : PastL} {x : S50} {A7 : Option Addr} {c7 : Nat} {A14 : Option Addr} {c14 c1 c2 c3 b b6 : Nat} {pd od ad : Addr} {w : World}
theorem EvS.c6 (h : EvS P x A7 c7 A14 c14 c1 c2 c3 b b6 pd od ad w) (j : Nat) (v : Value) (hv : (c50 x A7 c7 A14 c14)[j]? = some v) : w.cell? ⟨b6, j, none⟩ = some v := (blk_cell h.hc j).trans hv
theorem EvS.b1 (h : EvS P x A7 c7 A14 c14 c1 c2 c3 b b6 pd od ad w) (j : Nat) (v : Value) (hv : (#[Value.slice (some pd) P.pr.length c1, .slice (some od) P.ob.length c2, .slice (some ad) P.cl.length c3] : Array Value)[j]? = some v) : w.cell? ⟨b, j, none⟩ = some v := (blk_cell h.hb j).trans hv
theorem EvS.drew (h : EvS P x A7 c7 A14 c14 c1 c2 c3 b b6 pd od ad w) : EvS P x A7 c7 A14 c14 c1 c2 c3 b b6 pd od ad w.drew := ⟨h.hb, h.hc, h.p, h.o⟩
theorem EvS.grown {w2 : World} {g : Nat} (h : EvS P x A7 c7 A14 c14 c1 c2 c3 b b6 pd od ad w) (hg : w.grownBy w2 (some g)) (h1 : b < g) (h2 : g < b6) (hp : pd.block < g) (ho : od.block < g) : EvS P x A7 c7 A14 c14 c1 c2 c3 b b6 pd od ad w2 :=
  ⟨(hg.block _ (blk_lt h.hb) (by simp; omega)).trans h.hb, (hg.block _ (blk_lt h.hc) (by simp; omega)).trans h.hc, hg.cell h.p (by rw [add_block]; simp; omega), hg.cell h.o (by rw [add_block]; simp; omega)⟩
end
theorem evP_bad {P : PastL} {W w' : World} (h : eventsL P = none) (hb : Below W.heap.size W w') : EvP P W (.returned (.tuple #[.slice none 0 0, .bool false])) w' := ⟨hb, by rw [h]⟩
theorem evP_good {P : PastL} {W w' : World} {xs : List S47} {g n : Nat} (h : eventsL P = some xs) (hn : n = xs.length) (hb : Below W.heap.size W w') (hg : W.heap.size ≤ g) (hr : RowE W w' g n n xs) : EvP P W (.returned (.tuple #[.slice (some ⟨g, 0, none⟩) n n, .bool true])) w' := by
  subst hn
  exact ⟨hb, by rw [h]; exact ⟨g, hg, rfl, hr⟩⟩
set_option maxHeartbeats 8000000 in
set_option maxRecDepth 100000 in
theorem events_any (W : World) (P : PastL) (R : Rw3) (hR : RdP W P R) (hl : P.cl.length ≤ 1000000) : Calls Try.prog 63 #[.agg (cP P R)] W (EvP P W) := by
  have hs2 := cntR_le P.cl
  have HSZ := Lib.hid (fun W1 (h : Below W.heap.size W W1) => size_any W1 P R (hR.below h) hl)
  obtain ⟨n, hn⟩ : ∃ n, n = sizeL P.cl := ⟨_, rfl⟩
  have hnl : n ≤ 2000000 := by rw [hn]; unfold sizeL; omega
  have HST := Lib.hid (show eventsL P = evFrom P (List.replicate n z47) (P.cl.drop (0 : Int).toNat) from by rw [hn]; rfl)
  rw [← hn] at HSZ
  obtain ⟨i0, hi, hz0, hz1, hz2⟩ := info_parts info47
  have hmk := fun wx => run_make (P := Try.prog) wx 25 47 i0 _ Try.underlying25 hi hz0 .i64 .i64 (n : Int) (n : Int) (by omega) (by omega) (by rw [hz2]; omega) (by omega)
  rw [hz1] at hmk
  have hmk2 : ∀ wx : World, (Instr.makeSlice 25 (.int .i64 (n : Int)) (.int .i64 (n : Int))).run Try.prog wx = .ok (.slice (some ⟨wx.heap.size, 0, none⟩) n n) (wx.alloc (.cells (madeCells (c47 z47 none 0) (n * 12)) 47)) := hmk
  have HR := Lib.hid hR
  obtain ⟨a1, c1, a2, c2, a3, c3⟩ := R
  unfold cP at HSZ ⊢
  have h3 := Lib.hid hR.cl
  obtain ⟨b1, hb1⟩ : ∃ b, b = W.heap.size := ⟨_, rfl⟩
  have hbx := Lib.hid (heap_alloc_new W (.cells (cP P ⟨a1, c1, a2, c2, a3, c3⟩) 30))
  have HB0 := Lib.hid (below_alloc (Below.refl W.heap.size W) (.cells (cP P ⟨a1, c1, a2, c2, a3, c3⟩) 30))
  unfold cP at HB0 hbx
  clear hR hmk hi hz0 hz1 hz2 hn hs2
  go_enter Try.func63, Try.ntmps63
  go_wp2_with fail
  refine (HSZ.out _ HB0.out).mono ?_
  rintro e w1 ⟨rfl, hw1⟩
  have HB1 := Lib.hid (HB0.out.trans (hw1.mono HB0.out.size))
  have HX1 := Lib.hid ((hw1.block _ (blk_lt hbx.out)).trans hbx.out)
  have q2 := (blk_cell HX1.out 2).trans rfl
  have HRW := Lib.hid (row_made W w1 n hnl)
  have HB2 := Lib.hid (below_alloc HB1.out (.cells (madeCells (c47 z47 none 0) (n * 12)) 47))
  have HX2 := Lib.hid (blk_alloc HX1.out (.cells (madeCells (c47 z47 none 0) (n * 12)) 47))
  have hgg := HB1.out.size
  have hgl := blk_lt HX1.out
  clear hw1 HSZ HB0 hbx
  go_wp2
  obtain ⟨g, hg⟩ : ∃ g, g = w1.heap.size := ⟨_, rfl⟩
  rw [← hg] at HRW hgg hgl ⊢
  clear hg q2 HX1 HB1
  go_loopw [13, 6] (fun iv nv wr => ∃ (i : Int) (xs : List S47), iv = .int .i64 i ∧ 0 ≤ i ∧ i ≤ (P.cl.length : Int) ∧ n = xs.length ∧ Hid (eventsL P = evFrom P xs (P.cl.drop i.toNat)) ∧ Hid (RowE W wr g n n xs) ∧ Hid (wr.heap[W.heap.size]? = some (.cells #[.slice a1 P.pr.length c1, .slice a2 P.ob.length c2, .slice a3 P.cl.length c3] 30 (0, 0))) ∧ Hid (Below W.heap.size W wr)) (fun i _ _ => P.cl.length - (intOf i).toNat)
  case atStart => exact ⟨0, _, rfl, by omega, by omega, by simp, HST.out, HRW.out, HX2.out, HB2.out⟩
  case round =>
    obtain ⟨i, xs, rfl, hi0, hi1, hnx, HE, HRO, HX, HB⟩ := hrel
    have HNX := Lib.hid hnx
    clear hnx
    clear HRW HB2 HX2 HST
    have q0 : wr.cell? ⟨W.heap.size, 0, none⟩ = some (.slice a1 P.pr.length c1) := (blk_cell HX.out 0).trans rfl
    have q1 : wr.cell? ⟨W.heap.size, 1, none⟩ = some (.slice a2 P.ob.length c2) := (blk_cell HX.out 1).trans rfl
    have hwl := HRO.out.lt
    have hww : W.heap.size < wr.heap.size := by omega
    by_cases hlt : i < (P.cl.length : Int)
    · obtain ⟨ad, A7, c7, A14, c14, hAd, x0, x1, x2, x3, x4, x5, x6, x7, x8, x9, x10, x11, x12, x13, x14, hl7, hg7, hl14, hg14⟩ := at_T50 h3.out i hi0 hlt
      replace x0 := pw_cell_below HB.out x0
      replace x1 := pw_cell_below HB.out x1
      replace x2 := pw_cell_below HB.out x2
      replace x3 := pw_cell_below HB.out x3
      replace x4 := pw_cell_below HB.out x4
      replace x5 := pw_cell_below HB.out x5
      replace x6 := pw_cell_below HB.out x6
      replace x7 := pw_cell_below HB.out x7
      replace x8 := pw_cell_below HB.out x8
      replace x9 := pw_cell_below HB.out x9
      replace x10 := pw_cell_below HB.out x10
      replace x11 := pw_cell_below HB.out x11
      replace x12 := pw_cell_below HB.out x12
      replace x13 := pw_cell_below HB.out x13
      replace x14 := pw_cell_below HB.out x14
      have hno := Lib.hid (fun h => HE.out.trans (evFrom_none P xs P.cl i hi0 hlt h))
      have hyes := Lib.hid (fun ys h => HE.out.trans (evFrom_step P xs ys P.cl i hi0 hlt h))
      obtain ⟨x, hx⟩ : ∃ x, x = rd_T50 P.cl i := ⟨_, rfl⟩
      rw [← hx] at x0 x1 x2 x3 x4 x5 x6 x7 x8 x9 x10 x11 x12 x13 x14 hl7 hg7 hl14 hg14 hno hyes
      subst hAd
      clear hx
      have HB2 := Lib.hid (below_alloc HB.out (.cells (c50 x A7 c7 A14 c14) 50))
      have hpm := Kd.C_max HR.out.pr
      have hom := Kd.C_max HR.out.ob
      by_cases hf0 : x.f0 < 0
      · have HNO := Lib.hid (hno.out (by unfold evStep evIn; rw [decide_eq_false (show ¬ 0 ≤ x.f0 by omega)]; rfl))
        go_wp2
        go_ret2
        exact evP_bad HNO.out HB2.out
      · have hf0' : 0 ≤ x.f0 := by omega
        clear hf0
        by_cases hf1 : x.f0 < (P.pr.length : Int)
        · by_cases hf2 : x.f1 < 0
          · have HNO := Lib.hid (hno.out (by unfold evStep evIn; rw [decide_eq_false (show ¬ 0 ≤ x.f1 by omega)]; simp))
            go_wp2
            go_ret2
            exact evP_bad HNO.out HB2.out
          · have hf2' : 0 ≤ x.f1 := by omega
            clear hf2
            by_cases hf3 : x.f1 < (P.ob.length : Int)
            · have HIN := Lib.hid (show evIn P x = true from by unfold evIn; rw [decide_eq_true hf0', decide_eq_true hf1, decide_eq_true hf2', decide_eq_true hf3]; rfl)
              obtain ⟨pd, rfl, p0⟩ := Kd.at_string HR.out.pr x.f0 hf0' hf1
              obtain ⟨od, rfl, o0⟩ := Kd.at_string HR.out.ob x.f1 hf2' hf3
              have hpb : pd.block < g := by have := World.block_lt_of_cell? W _ p0; rw [add_block] at this; omega
              have hob : od.block < g := by have := World.block_lt_of_cell? W _ o0; rw [add_block] at this; omega
              replace p0 := pw_cell_below HB.out p0
              replace o0 := pw_cell_below HB.out o0
              have HSS := Lib.hid (show EvS P x A7 c7 A14 c14 c1 c2 c3 W.heap.size wr.heap.size pd od ad (wr.alloc (.cells (c50 x A7 c7 A14 c14) 50)) from ⟨blk_alloc HX.out _, heap_alloc_new wr _, cellA p0 _, cellA o0 _⟩)
              have HPUT := Lib.hid (fun W4 (h : Below (wr.alloc (.cells (c50 x A7 c7 A14 c14) 50)).heap.size (wr.alloc (.cells (c50 x A7 c7 A14 c14) 50)) W4) => put_any W W4 g n n xs x.f4 (evCall P x) A7 c7 (HRO.out.move ((h.block g (by rw [alloc_size]; omega)).trans (Below.heap_alloc wr _ g hwl))) HNX.out hl7 hg7)
              have HD := Lib.hid (show evStep P xs x = (if putB xs x.f4 then (if 0 ≤ x.f5 then if putB (putL xs x.f4 (evCall P x)) x.f5 then some (putL (putL xs x.f4 (evCall P x)) x.f5 (evRet P x)) else none else some (putL xs x.f4 (evCall P x))) else none) from by unfold evStep; rw [HIN.out]; rfl)
              have HYL := Lib.hid (show n = (putL xs x.f4 (evCall P x)).length from by rw [putL_length]; exact HNX.out)
              obtain ⟨r, hr⟩ : ∃ r, r = putB xs x.f4 := ⟨_, rfl⟩
              obtain ⟨ys, hys⟩ : ∃ ys, ys = putL xs x.f4 (evCall P x) := ⟨_, rfl⟩
              unfold PutP at HPUT
              rw [← hr, ← hys] at HD HPUT
              rw [← hys] at HYL
              simp only [c47, evCall, z45] at HPUT
              have hwl1 : g < wr.heap.size := hwl
              go_wp2
              clear hr hys
              refine wp_region_held_drew (S := EvS P x A7 c7 A14 c14 c1 c2 c3 W.heap.size wr.heap.size pd od ad) (by kernel_rfl) ?_ (fun hHeld => ?_)
              · exact HSS.out.drew
              refine runH 0 (v := ?va0) rfl (by kernel_rfl) (fun _ _ _ h => h) (by assumption) (by rfl) ?ya0 ?ra0
              case ya0 => (intro w hSw; go_simp; try with_reducible rfl)
              try simp only [Act.put, List.setIfInBounds_toArray, List.set_cons_zero, List.set_cons_succ]
              refine runH 1 (v := ?va1) rfl (by kernel_rfl) (fun _ _ _ h => h) (by assumption) (by rfl) ?ya1 ?ra1
              case ya1 => (intro w hSw; go_simp; try with_reducible rfl)
              try simp only [Act.put, List.setIfInBounds_toArray, List.set_cons_zero, List.set_cons_succ]
              refine runH 2 (v := ?va2) rfl (by kernel_rfl) (fun _ _ _ h => h) (by assumption) (by rfl) ?ya2 ?ra2
              case ya2 => (intro w hSw; have k8 : w.cell? ⟨wr.heap.size, 8, none⟩ = some (.int .i64 x.f4) := hSw.c6 8 _ rfl; go_simp; try with_reducible rfl)
              try simp only [Act.put, List.setIfInBounds_toArray, List.set_cons_zero, List.set_cons_succ]
              refine runH 3 (v := ?va3) rfl (by kernel_rfl) (fun _ _ _ h => h) (by assumption) (by rfl) ?ya3 ?ra3
              case ya3 => (intro w hSw; go_simp; try with_reducible rfl)
              try simp only [Act.put, List.setIfInBounds_toArray, List.set_cons_zero, List.set_cons_succ]
              refine runH 4 (v := ?va4) rfl (by kernel_rfl) (fun _ _ _ h => h) (by assumption) (by rfl) ?ya4 ?ra4
              case ya4 => (intro w hSw; have k0 : w.cell? ⟨W.heap.size, 0, none⟩ = some (.slice (some pd) P.pr.length c1) := hSw.b1 0 _ rfl; go_simp; try with_reducible rfl)
              try simp only [Act.put, List.setIfInBounds_toArray, List.set_cons_zero, List.set_cons_succ]
              refine runH 5 (v := ?va5) rfl (by kernel_rfl) (fun _ _ _ h => h) (by assumption) (by rfl) ?ya5 ?ra5
              case ya5 => (intro w hSw; go_simp; try with_reducible rfl)
              try simp only [Act.put, List.setIfInBounds_toArray, List.set_cons_zero, List.set_cons_succ]
              refine runH 6 (v := ?va6) rfl (by kernel_rfl) (fun _ _ _ h => h) (by assumption) (by rfl) ?ya6 ?ra6
              case ya6 => (intro w hSw; have k0 : w.cell? ⟨wr.heap.size, 0, none⟩ = some (.int .i64 x.f0) := hSw.c6 0 _ rfl; go_simp; try with_reducible rfl)
              try simp only [Act.put, List.setIfInBounds_toArray, List.set_cons_zero, List.set_cons_succ]
              refine runH 7 (v := ?va7) rfl (by kernel_rfl) (fun _ _ _ h => h) (by assumption) (by rfl) ?ya7 ?ra7
              case ya7 => (intro w hSw; go_simp; try with_reducible rfl)
              try simp only [Act.put, List.setIfInBounds_toArray, List.set_cons_zero, List.set_cons_succ]
              refine runH 8 (v := ?va8) rfl (by kernel_rfl) (fun _ _ _ h => h) (by assumption) (by rfl) ?ya8 ?ra8
              case ya8 => (intro w hSw; have k0 := hSw.p; go_simp; try with_reducible rfl)
              try simp only [Act.put, List.setIfInBounds_toArray, List.set_cons_zero, List.set_cons_succ]
              refine runH 9 (v := ?va9) rfl (by kernel_rfl) (fun _ _ _ h => h) (by assumption) (by rfl) ?ya9 ?ra9
              case ya9 => (intro w hSw; go_simp; try with_reducible rfl)
              try simp only [Act.put, List.setIfInBounds_toArray, List.set_cons_zero, List.set_cons_succ]
              refine runH 10 (v := ?va10) rfl (by kernel_rfl) (fun _ _ _ h => h) (by assumption) (by rfl) ?ya10 ?ra10
              case ya10 => (intro w hSw; have k1 : w.cell? ⟨W.heap.size, 1, none⟩ = some (.slice (some od) P.ob.length c2) := hSw.b1 1 _ rfl; go_simp; try with_reducible rfl)
              try simp only [Act.put, List.setIfInBounds_toArray, List.set_cons_zero, List.set_cons_succ]
              refine runH 11 (v := ?va11) rfl (by kernel_rfl) (fun _ _ _ h => h) (by assumption) (by rfl) ?ya11 ?ra11
              case ya11 => (intro w hSw; go_simp; try with_reducible rfl)
              try simp only [Act.put, List.setIfInBounds_toArray, List.set_cons_zero, List.set_cons_succ]
              refine runH 12 (v := ?va12) rfl (by kernel_rfl) (fun _ _ _ h => h) (by assumption) (by rfl) ?ya12 ?ra12
              case ya12 => (intro w hSw; have k1 : w.cell? ⟨wr.heap.size, 1, none⟩ = some (.int .i64 x.f1) := hSw.c6 1 _ rfl; go_simp; try with_reducible rfl)
              try simp only [Act.put, List.setIfInBounds_toArray, List.set_cons_zero, List.set_cons_succ]
              refine runH 13 (v := ?va13) rfl (by kernel_rfl) (fun _ _ _ h => h) (by assumption) (by rfl) ?ya13 ?ra13
              case ya13 => (intro w hSw; go_simp; try with_reducible rfl)
              try simp only [Act.put, List.setIfInBounds_toArray, List.set_cons_zero, List.set_cons_succ]
              refine runH 14 (v := ?va14) rfl (by kernel_rfl) (fun _ _ _ h => h) (by assumption) (by rfl) ?ya14 ?ra14
              case ya14 => (intro w hSw; have k0 := hSw.o; go_simp; try with_reducible rfl)
              try simp only [Act.put, List.setIfInBounds_toArray, List.set_cons_zero, List.set_cons_succ]
              refine runH 15 (v := ?va15) rfl (by kernel_rfl) (fun _ _ _ h => h) (by assumption) (by rfl) ?ya15 ?ra15
              case ya15 => (intro w hSw; go_simp; try with_reducible rfl)
              try simp only [Act.put, List.setIfInBounds_toArray, List.set_cons_zero, List.set_cons_succ]
              refine runH 16 (v := ?va16) rfl (by kernel_rfl) (fun _ _ _ h => h) (by assumption) (by rfl) ?ya16 ?ra16
              case ya16 => (intro w hSw; have k2 : w.cell? ⟨wr.heap.size, 2, none⟩ = some (.string x.f2) := hSw.c6 2 _ rfl; go_simp; try with_reducible rfl)
              try simp only [Act.put, List.setIfInBounds_toArray, List.set_cons_zero, List.set_cons_succ]
              refine runH 17 (v := ?va17) rfl (by kernel_rfl) (fun _ _ _ h => h) (by assumption) (by rfl) ?ya17 ?ra17
              case ya17 => (intro w hSw; go_simp; try with_reducible rfl)
              try simp only [Act.put, List.setIfInBounds_toArray, List.set_cons_zero, List.set_cons_succ]
              refine runH 18 (v := ?va18) rfl (by kernel_rfl) (fun _ _ _ h => h) (by assumption) (by rfl) ?ya18 ?ra18
              case ya18 => (intro w hSw; have k3 : w.cell? ⟨wr.heap.size, 3, none⟩ = some (.int .i64 x.f3.f0) := hSw.c6 3 _ rfl; have k4 : w.cell? ⟨wr.heap.size, 4, none⟩ = some (.int .i64 x.f3.f1) := hSw.c6 4 _ rfl; have k5 : w.cell? ⟨wr.heap.size, 5, none⟩ = some (.int .i64 x.f3.f2) := hSw.c6 5 _ rfl; have k6 : w.cell? ⟨wr.heap.size, 6, none⟩ = some (.string x.f3.f3) := hSw.c6 6 _ rfl; have k7 : w.cell? ⟨wr.heap.size, 7, none⟩ = some (.slice A7 x.f3.f4.length c7) := hSw.c6 7 _ rfl; go_simp; try with_reducible rfl)
              try simp only [Act.put, List.setIfInBounds_toArray, List.set_cons_zero, List.set_cons_succ]
              refine runH 19 (v := ?va19) rfl (by kernel_rfl) (fun _ _ _ h => h) (by assumption) (by rfl) ?ya19 ?ra19
              case ya19 => (intro w hSw; go_simp; try with_reducible rfl)
              try simp only [Act.put, List.setIfInBounds_toArray, List.set_cons_zero, List.set_cons_succ]
              refine wpAnyH_ready (rs := [20]) (by kernel_rfl) (by simp) ?_
              refine AllReadyH.cons rfl (fun K hK => ?_) AllReadyH.nil
              go_simp
              go_at_call 90; refine (HPUT.out _ (below_drew (Below.refl _ _))).mono ?_; rintro e w2 ⟨rfl, hr2, hg2⟩
              go_wp2_with fail
              refine hK.out _ _ ?_ (fun hHeld2 => ?_)
              · exact HSS.out.drew.grown hg2 hgl hwl1 hpb hob
              clear hK K hHeld
              rename _ => hHeld
              try simp only [Act.put, List.setIfInBounds_toArray, List.set_cons_zero, List.set_cons_succ]
              refine runH 21 (v := ?va21) rfl (by kernel_rfl) (fun _ _ _ h => h) (by assumption) (by rfl) ?ya21 ?ra21
              case ya21 => (intro w hSw; go_simp; try with_reducible rfl)
              try simp only [Act.put, List.setIfInBounds_toArray, List.set_cons_zero, List.set_cons_succ]
              refine wpAnyH_done (by kernel_rfl) ?_ _
              have HS2 := Lib.hid (HSS.out.drew.grown hg2 hgl hwl1 hpb hob)
              have HBW2 := Lib.hid (show Below W.heap.size W w2 from (below_drew HB2.out).grown hg2 (below_drew HB2.out).size (fun k hk => by cases hk; exact hgg))
              have HR2 := Lib.hid hr2
              clear x0 x1 x2 x3 x4 x5 x6 x7 x8 x9 x10 x11 x12 x13 x14 q0 q1 hr2 hg2 HPUT p0 o0
              cases r
              · have HNO := Lib.hid (hno.out (by rw [HD.out]; rfl))
                go_wp2
                go_ret2
                exact evP_bad HNO.out HBW2.out
              · by_cases hf5 : 0 ≤ x.f5
                · have HPU2 := Lib.hid (fun W4 (h : Below w2.heap.size w2 W4) => put_any W W4 g n n ys x.f5 (evRet P x) A14 c14 (HR2.out.move (h.block g HR2.out.lt)) HYL.out hl14 hg14)
                  have HZL := Lib.hid (show n = (putL ys x.f5 (evRet P x)).length from by rw [putL_length]; exact HYL.out)
                  have HD2 := Lib.hid (show evStep P xs x = (if putB ys x.f5 then some (putL ys x.f5 (evRet P x)) else none) from by rw [HD.out, if_pos rfl, if_pos hf5])
                  obtain ⟨r2, hr2⟩ : ∃ r, r = putB ys x.f5 := ⟨_, rfl⟩
                  obtain ⟨zs, hzs⟩ : ∃ zs, zs = putL ys x.f5 (evRet P x) := ⟨_, rfl⟩
                  unfold PutP at HPU2
                  rw [← hr2, ← hzs] at HD2 HPU2
                  rw [← hzs] at HZL
                  simp only [c47, evRet, z45] at HPU2
                  clear hr2 hzs
                  go_wp2
                  refine wp_region_held_drew (S := EvS P x A7 c7 A14 c14 c1 c2 c3 W.heap.size wr.heap.size pd od ad) (by kernel_rfl) ?_ (fun hHeld => ?_)
                  · exact HS2.out.drew
                  refine runH 0 (v := ?vb0) rfl (by kernel_rfl) (fun _ _ _ h => h) (by assumption) (by rfl) ?yb0 ?rb0
                  case yb0 => (intro w hSw; go_simp; try with_reducible rfl)
                  try simp only [Act.put, List.setIfInBounds_toArray, List.set_cons_zero, List.set_cons_succ]
                  refine runH 1 (v := ?vb1) rfl (by kernel_rfl) (fun _ _ _ h => h) (by assumption) (by rfl) ?yb1 ?rb1
                  case yb1 => (intro w hSw; have k9 : w.cell? ⟨wr.heap.size, 9, none⟩ = some (.int .i64 x.f5) := hSw.c6 9 _ rfl; go_simp; try with_reducible rfl)
                  try simp only [Act.put, List.setIfInBounds_toArray, List.set_cons_zero, List.set_cons_succ]
                  refine runH 2 (v := ?vb2) rfl (by kernel_rfl) (fun _ _ _ h => h) (by assumption) (by rfl) ?yb2 ?rb2
                  case yb2 => (intro w hSw; go_simp; try with_reducible rfl)
                  try simp only [Act.put, List.setIfInBounds_toArray, List.set_cons_zero, List.set_cons_succ]
                  refine runH 3 (v := ?vb3) rfl (by kernel_rfl) (fun _ _ _ h => h) (by assumption) (by rfl) ?yb3 ?rb3
                  case yb3 => (intro w hSw; go_simp; try with_reducible rfl)
                  try simp only [Act.put, List.setIfInBounds_toArray, List.set_cons_zero, List.set_cons_succ]
                  refine runH 4 (v := ?vb4) rfl (by kernel_rfl) (fun _ _ _ h => h) (by assumption) (by rfl) ?yb4 ?rb4
                  case yb4 => (intro w hSw; go_simp; try with_reducible rfl)
                  try simp only [Act.put, List.setIfInBounds_toArray, List.set_cons_zero, List.set_cons_succ]
                  refine runH 5 (v := ?vb5) rfl (by kernel_rfl) (fun _ _ _ h => h) (by assumption) (by rfl) ?yb5 ?rb5
                  case yb5 => (intro w hSw; go_simp; try with_reducible rfl)
                  try simp only [Act.put, List.setIfInBounds_toArray, List.set_cons_zero, List.set_cons_succ]
                  refine runH 6 (v := ?vb6) rfl (by kernel_rfl) (fun _ _ _ h => h) (by assumption) (by rfl) ?yb6 ?rb6
                  case yb6 => (intro w hSw; have k9 : w.cell? ⟨wr.heap.size, 9, none⟩ = some (.int .i64 x.f5) := hSw.c6 9 _ rfl; go_simp; try with_reducible rfl)
                  try simp only [Act.put, List.setIfInBounds_toArray, List.set_cons_zero, List.set_cons_succ]
                  refine runH 7 (v := ?vb7) rfl (by kernel_rfl) (fun _ _ _ h => h) (by assumption) (by rfl) ?yb7 ?rb7
                  case yb7 => (intro w hSw; go_simp; try with_reducible rfl)
                  try simp only [Act.put, List.setIfInBounds_toArray, List.set_cons_zero, List.set_cons_succ]
                  refine runH 8 (v := ?vb8) rfl (by kernel_rfl) (fun _ _ _ h => h) (by assumption) (by rfl) ?yb8 ?rb8
                  case yb8 => (intro w hSw; have k0 : w.cell? ⟨W.heap.size, 0, none⟩ = some (.slice (some pd) P.pr.length c1) := hSw.b1 0 _ rfl; go_simp; try with_reducible rfl)
                  try simp only [Act.put, List.setIfInBounds_toArray, List.set_cons_zero, List.set_cons_succ]
                  refine runH 9 (v := ?vb9) rfl (by kernel_rfl) (fun _ _ _ h => h) (by assumption) (by rfl) ?yb9 ?rb9
                  case yb9 => (intro w hSw; go_simp; try with_reducible rfl)
                  try simp only [Act.put, List.setIfInBounds_toArray, List.set_cons_zero, List.set_cons_succ]
                  refine runH 10 (v := ?vb10) rfl (by kernel_rfl) (fun _ _ _ h => h) (by assumption) (by rfl) ?yb10 ?rb10
                  case yb10 => (intro w hSw; have k0 : w.cell? ⟨wr.heap.size, 0, none⟩ = some (.int .i64 x.f0) := hSw.c6 0 _ rfl; go_simp; try with_reducible rfl)
                  try simp only [Act.put, List.setIfInBounds_toArray, List.set_cons_zero, List.set_cons_succ]
                  refine runH 11 (v := ?vb11) rfl (by kernel_rfl) (fun _ _ _ h => h) (by assumption) (by rfl) ?yb11 ?rb11
                  case yb11 => (intro w hSw; go_simp; try with_reducible rfl)
                  try simp only [Act.put, List.setIfInBounds_toArray, List.set_cons_zero, List.set_cons_succ]
                  refine runH 12 (v := ?vb12) rfl (by kernel_rfl) (fun _ _ _ h => h) (by assumption) (by rfl) ?yb12 ?rb12
                  case yb12 => (intro w hSw; have k0 := hSw.p; go_simp; try with_reducible rfl)
                  try simp only [Act.put, List.setIfInBounds_toArray, List.set_cons_zero, List.set_cons_succ]
                  refine runH 13 (v := ?vb13) rfl (by kernel_rfl) (fun _ _ _ h => h) (by assumption) (by rfl) ?yb13 ?rb13
                  case yb13 => (intro w hSw; go_simp; try with_reducible rfl)
                  try simp only [Act.put, List.setIfInBounds_toArray, List.set_cons_zero, List.set_cons_succ]
                  refine runH 14 (v := ?vb14) rfl (by kernel_rfl) (fun _ _ _ h => h) (by assumption) (by rfl) ?yb14 ?rb14
                  case yb14 => (intro w hSw; have k10 : w.cell? ⟨wr.heap.size, 10, none⟩ = some (.int .i64 x.f6.f0) := hSw.c6 10 _ rfl; have k11 : w.cell? ⟨wr.heap.size, 11, none⟩ = some (.int .i64 x.f6.f1) := hSw.c6 11 _ rfl; have k12 : w.cell? ⟨wr.heap.size, 12, none⟩ = some (.int .i64 x.f6.f2) := hSw.c6 12 _ rfl; have k13 : w.cell? ⟨wr.heap.size, 13, none⟩ = some (.string x.f6.f3) := hSw.c6 13 _ rfl; have k14 : w.cell? ⟨wr.heap.size, 14, none⟩ = some (.slice A14 x.f6.f4.length c14) := hSw.c6 14 _ rfl; go_simp; try with_reducible rfl)
                  try simp only [Act.put, List.setIfInBounds_toArray, List.set_cons_zero, List.set_cons_succ]
                  refine runH 15 (v := ?vb15) rfl (by kernel_rfl) (fun _ _ _ h => h) (by assumption) (by rfl) ?yb15 ?rb15
                  case yb15 => (intro w hSw; go_simp; try with_reducible rfl)
                  try simp only [Act.put, List.setIfInBounds_toArray, List.set_cons_zero, List.set_cons_succ]
                  refine wpAnyH_ready (rs := [16]) (by kernel_rfl) (by simp) ?_
                  refine AllReadyH.cons rfl (fun K hK => ?_) AllReadyH.nil
                  go_simp
                  go_at_call 90; refine (HPU2.out _ (below_drew (Below.refl _ _))).mono ?_; rintro e w3 ⟨rfl, hr3, hg3⟩
                  go_wp2_with fail
                  refine hK.out _ _ ?_ (fun hHeld2 => ?_)
                  · exact HS2.out.drew.grown hg3 hgl hwl1 hpb hob
                  clear hK K hHeld
                  rename _ => hHeld
                  try simp only [Act.put, List.setIfInBounds_toArray, List.set_cons_zero, List.set_cons_succ]
                  refine runH 17 (v := ?vb17) rfl (by kernel_rfl) (fun _ _ _ h => h) (by assumption) (by rfl) ?yb17 ?rb17
                  case yb17 => (intro w hSw; go_simp; try with_reducible rfl)
                  try simp only [Act.put, List.setIfInBounds_toArray, List.set_cons_zero, List.set_cons_succ]
                  refine runH 18 (v := ?vb18) rfl (by kernel_rfl) (fun _ _ _ h => h) (by assumption) (by rfl) ?yb18 ?rb18
                  case yb18 => (intro w hSw; go_simp; try with_reducible rfl)
                  try simp only [Act.put, List.setIfInBounds_toArray, List.set_cons_zero, List.set_cons_succ]
                  refine wpAnyH_done (by kernel_rfl) ?_ _
                  have HS3 := Lib.hid (HS2.out.drew.grown hg3 hgl hwl1 hpb hob)
                  have HBW3 := Lib.hid (show Below W.heap.size W w3 from (below_drew HBW2.out).grown hg3 (below_drew HBW2.out).size (fun k hk => by cases hk; exact hgg))
                  have HR3 := Lib.hid hr3
                  clear hr3 hg3 HPU2
                  cases r2
                  · have HNO := Lib.hid (hno.out (by rw [HD2.out]; rfl))
                    go_wp2
                    go_ret2
                    exact evP_bad HNO.out HBW3.out
                  · have HYE := Lib.hid (hyes.out zs (by rw [HD2.out]; rfl))
                    go_wp2
                    go_roundw
                    case rel => exact ⟨i + 1, zs, rfl, by omega, by omega, HZL.out, HYE.out, HR3.out, HS3.out.hb, HBW3.out⟩
                    case measure => simp [intOf]; omega
                · have HYE := Lib.hid (hyes.out ys (by rw [HD.out, if_pos rfl, if_neg hf5]))
                  have hd5 : decide (0 ≤ x.f5) = false := decide_eq_false hf5
                  clear hf5
                  go_wp2
                  refine wp_region_held_drew (S := EvS P x A7 c7 A14 c14 c1 c2 c3 W.heap.size wr.heap.size pd od ad) (by kernel_rfl) ?_ (fun hHeld => ?_)
                  · exact HS2.out.drew
                  refine runH 0 (v := ?vc0) rfl (by kernel_rfl) (fun _ _ _ h => h) (by assumption) (by rfl) ?yc0 ?rc0
                  case yc0 => (intro w hSw; go_simp; try with_reducible rfl)
                  try simp only [Act.put, List.setIfInBounds_toArray, List.set_cons_zero, List.set_cons_succ]
                  refine runH 1 (v := ?vc1) rfl (by kernel_rfl) (fun _ _ _ h => h) (by assumption) (by rfl) ?yc1 ?rc1
                  case yc1 => (intro w hSw; have k9 : w.cell? ⟨wr.heap.size, 9, none⟩ = some (.int .i64 x.f5) := hSw.c6 9 _ rfl; go_simp; try with_reducible rfl)
                  try simp only [Act.put, List.setIfInBounds_toArray, List.set_cons_zero, List.set_cons_succ]
                  refine runH 2 (v := ?vc2) rfl (by kernel_rfl) (fun _ _ _ h => h) (by assumption) (by rfl) ?yc2 ?rc2
                  case yc2 => (intro w hSw; go_simp; try with_reducible rfl)
                  try simp only [Act.put, List.setIfInBounds_toArray, List.set_cons_zero, List.set_cons_succ]
                  refine runH 3 (v := ?vc3) rfl (by kernel_rfl) (fun _ _ _ h => h) (by assumption) (by rfl) ?yc3 ?rc3
                  case yc3 => (intro w hSw; go_simp; try with_reducible rfl)
                  try simp only [Act.put, List.setIfInBounds_toArray, List.set_cons_zero, List.set_cons_succ]
                  refine skipH 4 rfl (by kernel_rfl) (fun _ _ _ h => h) (by assumption) (by rfl) ?_
                  try simp only [Act.put, List.setIfInBounds_toArray, List.set_cons_zero, List.set_cons_succ]
                  refine skipH 5 rfl (by kernel_rfl) (fun _ _ _ h => h) (by assumption) (by rfl) ?_
                  try simp only [Act.put, List.setIfInBounds_toArray, List.set_cons_zero, List.set_cons_succ]
                  refine skipH 6 rfl (by kernel_rfl) (fun _ _ _ h => h) (by assumption) (by rfl) ?_
                  try simp only [Act.put, List.setIfInBounds_toArray, List.set_cons_zero, List.set_cons_succ]
                  refine skipH 7 rfl (by kernel_rfl) (fun _ _ _ h => h) (by assumption) (by rfl) ?_
                  try simp only [Act.put, List.setIfInBounds_toArray, List.set_cons_zero, List.set_cons_succ]
                  refine skipH 8 rfl (by kernel_rfl) (fun _ _ _ h => h) (by assumption) (by rfl) ?_
                  try simp only [Act.put, List.setIfInBounds_toArray, List.set_cons_zero, List.set_cons_succ]
                  refine skipH 9 rfl (by kernel_rfl) (fun _ _ _ h => h) (by assumption) (by rfl) ?_
                  try simp only [Act.put, List.setIfInBounds_toArray, List.set_cons_zero, List.set_cons_succ]
                  refine skipH 10 rfl (by kernel_rfl) (fun _ _ _ h => h) (by assumption) (by rfl) ?_
                  try simp only [Act.put, List.setIfInBounds_toArray, List.set_cons_zero, List.set_cons_succ]
                  refine skipH 11 rfl (by kernel_rfl) (fun _ _ _ h => h) (by assumption) (by rfl) ?_
                  try simp only [Act.put, List.setIfInBounds_toArray, List.set_cons_zero, List.set_cons_succ]
                  refine skipH 12 rfl (by kernel_rfl) (fun _ _ _ h => h) (by assumption) (by rfl) ?_
                  try simp only [Act.put, List.setIfInBounds_toArray, List.set_cons_zero, List.set_cons_succ]
                  refine skipH 13 rfl (by kernel_rfl) (fun _ _ _ h => h) (by assumption) (by rfl) ?_
                  try simp only [Act.put, List.setIfInBounds_toArray, List.set_cons_zero, List.set_cons_succ]
                  refine skipH 14 rfl (by kernel_rfl) (fun _ _ _ h => h) (by assumption) (by rfl) ?_
                  try simp only [Act.put, List.setIfInBounds_toArray, List.set_cons_zero, List.set_cons_succ]
                  refine skipH 15 rfl (by kernel_rfl) (fun _ _ _ h => h) (by assumption) (by rfl) ?_
                  try simp only [Act.put, List.setIfInBounds_toArray, List.set_cons_zero, List.set_cons_succ]
                  refine skipH 16 rfl (by kernel_rfl) (fun _ _ _ h => h) (by assumption) (by rfl) ?_
                  try simp only [Act.put, List.setIfInBounds_toArray, List.set_cons_zero, List.set_cons_succ]
                  refine skipH 17 rfl (by kernel_rfl) (fun _ _ _ h => h) (by assumption) (by rfl) ?_
                  try simp only [Act.put, List.setIfInBounds_toArray, List.set_cons_zero, List.set_cons_succ]
                  refine runH 18 (v := ?vc18) rfl (by kernel_rfl) (fun _ _ _ h => h) (by assumption) (by rfl) ?yc18 ?rc18
                  case yc18 => (intro w hSw; go_simp; try with_reducible rfl)
                  try simp only [Act.put, List.setIfInBounds_toArray, List.set_cons_zero, List.set_cons_succ]
                  refine wpAnyH_done (by kernel_rfl) ?_ _
                  go_wp2
                  go_roundw
                  case rel => exact ⟨i + 1, ys, rfl, by omega, by omega, HYL.out, HYE.out, HR2.out, HS2.out.hb, below_drew HBW2.out⟩
                  case measure => simp [intOf]; omega
            · have HNO := Lib.hid (hno.out (by unfold evStep evIn; rw [decide_eq_false hf3]; simp))
              have hf3' : (P.ob.length : Int) ≤ x.f1 := by omega
              clear hf3
              go_wp2
              go_ret2
              exact evP_bad HNO.out HB2.out
        · have HNO := Lib.hid (hno.out (by unfold evStep evIn; rw [decide_eq_false hf1]; simp))
          have hf1' : (P.pr.length : Int) ≤ x.f0 := by omega
          clear hf1
          go_wp2
          go_ret2
          exact evP_bad HNO.out HB2.out
    · have HG := Lib.hid (HE.out.trans (evFrom_end P xs P.cl i hlt))
      have hge : (P.cl.length : Int) ≤ i := by omega
      clear hlt
      go_wp2
      go_ret2
      exact evP_good HG.out HNX.out HB.out (by omega) HRO.out
end Go.Proofs.Ytofinglgnkdflaa
end
section
namespace Go.Proofs.Ytofinglgnkdflaa
open Go.RowKit
open Go.Proofs.Ytofinglgnkdflaa.PHistoryChecks Go.Proofs.YtofinglgnkdflaaW.PrintWords Go.Proofs.YtofinglgnkdflaaW.PrintLast Go.Proofs.YtofinglgnkdflaaW.PrintMore
set_option linter.unusedVariables false
set_option linter.unusedSimpArgs false
theorem row_C {W wr : World} {g n cap : Nat} {xs : List S47} (h : RowE W wr g n cap xs) (hn : n = xs.length) (hb : Below W.heap.size W wr) : Kd.C k47 wr (some ⟨g, 0, none⟩) xs.length xs := by
  obtain ⟨cur, h1, h2, h3, h4, h5⟩ := h
  have hml : maxLen ≤ 9223372036854775807 := by decide
  have ea : ∀ k, Addr.add ⟨g, 0, none⟩ k = ⟨g, k, none⟩ := by intro k; cases k <;> simp [Addr.add]
  refine ⟨rfl, by omega, fun hp => ⟨⟨g, 0, none⟩, rfl, fun j p hj => ?_⟩⟩
  have hjl : j < n := by have := (List.getElem?_eq_some_iff.1 hj).1; omega
  obtain ⟨c, hc, x, hx, hK⟩ := h5 j hjl
  rw [hj] at hx
  cases hx
  refine ⟨c, hc.1, k47.K_below hb hK, fun i u hu => ?_⟩
  rw [ea]
  exact (blk_cell h1 (j * 12 + i)).trans (hc.2 i u hu)
theorem mid_chunk {cur : Array Value} {i : Nat} {a0 a1 a2 a3 b0 b1 b2 b3 b4 v0 v1 v2 v3 v4 c0 c1 c2 : Value} (h : Chunk 12 cur i [a0, a1, a2, a3, b0, b1, b2, b3, b4, c0, c1, c2]) (hs : i * 12 + 12 ≤ cur.size) :
    Chunk 12 (setsA (i * 12 + 4) [v0, v1, v2, v3, v4] cur) i [a0, a1, a2, a3, v0, v1, v2, v3, v4, c0, c1, c2] := by
  refine ⟨rfl, fun o u hu => ?_⟩
  have hfar : ∀ o, (o < 4 ∨ 9 ≤ o) → (setsA (i * 12 + 4) [v0, v1, v2, v3, v4] cur)[i * 12 + o]? = cur[i * 12 + o]? := fun o ho => setsA_far _ _ _ _ (by simp only [List.length_cons, List.length_nil]; omega)
  have hat : ∀ o, o < 5 → (setsA (i * 12 + 4) [v0, v1, v2, v3, v4] cur)[i * 12 + 4 + o]? = [v0, v1, v2, v3, v4][o]? := fun o ho => setsA_at _ _ _ o (by simpa using ho) (by simp only [List.length_cons, List.length_nil]; omega)
  have ho : o < 12 := by have := (List.getElem?_eq_some_iff.1 hu).1; simpa using this
  match o, ho, hu with
  | 0, _, hu => rw [hfar 0 (by omega)]; exact h.2 0 u hu
  | 1, _, hu => rw [hfar 1 (by omega)]; exact h.2 1 u hu
  | 2, _, hu => rw [hfar 2 (by omega)]; exact h.2 2 u hu
  | 3, _, hu => rw [hfar 3 (by omega)]; exact h.2 3 u hu
  | 4, _, hu => exact (hat 0 (by omega)).trans hu
  | 5, _, hu => exact (hat 1 (by omega)).trans hu
  | 6, _, hu => exact (hat 2 (by omega)).trans hu
  | 7, _, hu => exact (hat 3 (by omega)).trans hu
  | 8, _, hu => exact (hat 4 (by omega)).trans hu
  | 9, _, hu => rw [hfar 9 (by omega)]; exact h.2 9 u hu
  | 10, _, hu => rw [hfar 10 (by omega)]; exact h.2 10 u hu
  | 11, _, hu => rw [hfar 11 (by omega)]; exact h.2 11 u hu
  | o + 12, h, _ => omega
def MixE (xs : List S47) (W wr : World) (g : Nat) (i : Int) (j : Nat) (c : List Value) : Prop :=
  ((j : Int) < i → ∃ x, xs[j]? = some x ∧ k47.M wr W.heap.size (fun k => W.heap.size ≤ k ∧ k ≠ g) x c) ∧ (i ≤ (j : Int) → ∃ x, xs[j]? = some x ∧ k47.K W x c)
theorem mixE_store {xs : List S47} {W wr w6 : World} {g cap : Nat} {i : Int} {x : S47} {A6 : Option Addr} {c6 : Nat} (hi0 : 0 ≤ i) (hx : xs[i.toNat]? = some x) (hgW : W.heap.size ≤ g) (hB : Below W.heap.size W wr)
    (h : Blk 12 47 wr g xs.length cap (MixE xs W wr g i)) (hb : Below wr.heap.size wr w6) (hR : k43.R 43 w6 wr.heap.size (fun _ => True) (.slice A6 x.f4.f4.length c6) x.f4.f4) :
    Blk 12 47 (setsW g (i.toNat * 12 + 4) [.int .i64 x.f4.f0, .int .i64 x.f4.f1, .int .i64 x.f4.f2, .string x.f4.f3, .slice A6 x.f4.f4.length c6] w6) g xs.length cap (MixE xs W (setsW g (i.toNat * 12 + 4) [.int .i64 x.f4.f0, .int .i64 x.f4.f1, .int .i64 x.f4.f2, .string x.f4.f3, .slice A6 x.f4.f4.length c6] w6) g (i + 1)) := by
  have hg : g < wr.heap.size := h.lt
  have hG := setsW_grown g [.int .i64 x.f4.f0, .int .i64 x.f4.f1, .int .i64 x.f4.f2, .string x.f4.f3, .slice A6 x.f4.f4.length c6] (i.toNat * 12 + 4) w6
  refine (h.move (hb.block g hg)).store (i := i.toNat) (setsA (i.toNat * 12 + 4) [.int .i64 x.f4.f0, .int .i64 x.f4.f1, .int .i64 x.f4.f2, .string x.f4.f3, .slice A6 x.f4.f4.length c6]) (fun cur hc => setsW_at g 47 _ _ w6 cur hc) (fun cur => setsA_size _ _ _) (fun cur k hk => setsA_far _ _ _ _ (by simp only [List.length_cons, List.length_nil]; omega)) ?_ ?_
  · intro cur c hi2 hsz2 hcc hP
    obtain ⟨y, hy, hK⟩ := hP.2 (by omega)
    rw [hx] at hy
    cases hy
    obtain ⟨A8, c8, rfl, _, _⟩ := k47_open hK
    refine ⟨_, mid_chunk hcc hsz2, fun _ => ⟨x, hx, ?_⟩, fun h6 => by omega⟩
    have hR2 : k43.R 43 w6 W.heap.size (fun k => W.heap.size ≤ k ∧ k ≠ g) (.slice A6 x.f4.f4.length c6) x.f4.f4 :=
      Kd.R_lower (Kd.R_mono (Kd.R_bound hR) (fun k hk => ⟨by have := hB.size; omega, by omega⟩)) hB.size
    exact k47_mkM _ _ _ x (Kd.R_step hR2 (fun k hk hkb => hG.block k hkb (by simp; omega)))
  · intro j c hj hne hP
    refine ⟨fun h6 => ?_, fun h6 => hP.2 (by omega)⟩
    obtain ⟨y, hy, hM⟩ := hP.1 (by omega)
    exact ⟨y, hy, Kd.M_step (Kd.M_below hM hb) (fun k hk hkb => hG.block k hkb (by simp; omega))⟩
theorem mixE_end {xs : List S47} {W wr : World} {g cap : Nat} (h : Blk 12 47 wr g xs.length cap (MixE xs W wr g (xs.length : Int))) (hg : W.heap.size ≤ g) : k47.R 47 wr W.heap.size (fun _ => True) (.slice (some ⟨g, 0, none⟩) xs.length cap) xs :=
  Kd.R_mono (ok := fun k => W.heap.size ≤ k) (R_of_blk (d := k47) (h.imp fun j c hj hP => hP.1 (by omega)) rfl hg hg) (fun _ _ => trivial)
def eventsF (P : PastL) : Option (List S47) := match eventsL P with
  | none => none
  | some xs => if (makeF xs).2.2 = 0 then if sameP P (makeF xs).1 then some xs else none else none
def EvsP (P : PastL) (W : World) (e : Ending) (w' : World) : Prop :=
  Below W.heap.size W w' ∧ match eventsF P with
    | none => e = .returned (.tuple #[.slice none 0 0, .int .i64 2])
    | some xs => ∃ g, W.heap.size ≤ g ∧ e = .returned (.tuple #[.slice (some ⟨g, 0, none⟩) xs.length xs.length, .int .i64 0]) ∧ k47.R 47 w' W.heap.size (fun _ => True) (.slice (some ⟨g, 0, none⟩) xs.length xs.length) xs
theorem evFrom_length {P : PastL} (l : List S50) : ∀ {xs ys : List S47}, evFrom P xs l = some ys → ys.length = xs.length := by
  induction l with
  | nil => intro xs ys h; cases h; rfl
  | cons c l ih =>
    intro xs ys h
    simp only [evFrom] at h
    rcases hs : evStep P xs c with _ | zs
    · rw [hs] at h; cases h
    · rw [hs] at h; rw [ih h, evStep_length hs]
theorem evsP_good {P : PastL} {W w' : World} {xs : List S47} {g : Nat} (h : eventsF P = some xs) (hb : Below W.heap.size W w') (hg : W.heap.size ≤ g) (hr : k47.R 47 w' W.heap.size (fun _ => True) (.slice (some ⟨g, 0, none⟩) xs.length xs.length) xs) : EvsP P W (.returned (.tuple #[.slice (some ⟨g, 0, none⟩) xs.length xs.length, .int .i64 0])) w' := ⟨hb, by rw [h]; exact ⟨g, hg, rfl, hr⟩⟩
theorem evsP_bad {P : PastL} {W w' : World} (h : eventsF P = none) (hb : Below W.heap.size W w') : EvsP P W (.returned (.tuple #[.slice none 0 0, .int .i64 2])) w' := ⟨hb, by rw [h]⟩
set_option maxHeartbeats 8000000 in
set_option maxRecDepth 100000 in
theorem Events_any (W : World) (P : PastL) (R : Rw3) (hR : RdP W P R) (hl : P.cl.length ≤ 500000) (hE : ∀ xs, eventsL P = some xs → ∀ e ∈ xs, okE e ∧ nd e.f4 ≤ 1000000) : Calls Try.prog 20 #[.agg (cP P R)] W (EvsP P W) := by
  have HEV := Lib.hid (fun W1 (h : Below W.heap.size W W1) => events_any W1 P R (hR.below h) (by omega))
  have HRD := Lib.hid (fun W1 (h : Below W.heap.size W W1) => hR.below h)
  have HB0 := Lib.hid (below_alloc (Below.refl W.heap.size W) (.cells (cP P R) 30))
  have hbx := Lib.hid (heap_alloc_new W (.cells (cP P R) 30))
  unfold EvP at HEV
  have HD := Lib.hid (show eventsF P = (match eventsL P with | none => none | some xs => if (makeF xs).2.2 = 0 then if sameP P (makeF xs).1 then some xs else none else none) from rfl)
  unfold cP at HB0 hbx HEV ⊢
  clear hR
  go_enter Try.func20, Try.ntmps20
  go_wp2_with fail
  refine (HEV.out _ HB0.out).mono ?_
  rintro e w1 ⟨hw1, hm⟩
  have HB1 := Lib.hid (HB0.out.trans (hw1.mono HB0.out.size))
  have HX1 := Lib.hid ((hw1.block _ (blk_lt hbx.out)).trans hbx.out)
  rcases hxs : eventsL P with _ | xs
  · rw [hxs] at hm HD
    have HNO := Lib.hid HD.out
    subst hm
    clear HD hxs
    go_wp2
    go_ret2
    exact evsP_bad HNO.out HB1.out
  · have HE := Lib.hid (hE xs hxs)
    rw [hxs] at hm HD
    obtain ⟨g, hg, rfl, hrow⟩ := hm
    have hs0 := alloc_size W (.cells #[.slice R.a1 P.pr.length R.c1, .slice R.a2 P.ob.length R.c2, .slice R.a3 P.cl.length R.c3] 30)
    obtain ⟨W0, hW0⟩ : ∃ W0, W0 = W.alloc (.cells #[.slice R.a1 P.pr.length R.c1, .slice R.a2 P.ob.length R.c2, .slice R.a3 P.cl.length R.c3] 30) := ⟨_, rfl⟩
    rw [← hW0] at hw1 hrow hg hs0
    have HW0 := Lib.hid hw1
    clear hW0
    have hlen : xs.length ≤ 1000000 := by
      have h1 := evFrom_length P.cl hxs
      rw [List.length_replicate] at h1
      have h2 := cntR_le P.cl
      unfold sizeL at h1; omega
    have HRW := Lib.hid hrow
    have hwl := hrow.lt
    have HMK := Lib.hid (fun W4 (h : Below w1.heap.size w1 W4) => Make_any W4 xs (some ⟨g, 0, none⟩) xs.length (Kd.C_below (row_C hrow rfl HW0.out) h) (Nat.le_refl _) (fun e he => (HE.out e he).1) hlen)
    unfold MakeP at HMK
    obtain ⟨mk, hmk⟩ : ∃ mk, mk = makeF xs := ⟨_, rfl⟩
    rw [← hmk] at HMK
    simp only [← hmk] at HD
    obtain ⟨Q, ma, mc⟩ := mk
    clear hw1 HEV hbx HB0 hxs hE hmk hrow
    go_wp2_with fail
    refine (HMK.out _ (by first | exact Below.refl _ _ | exact below_drew (Below.refl _ _))).mono ?_
    rintro e w2 ⟨s1, s2, cv, rfl, r1, r2, r3, hw2⟩
    obtain ⟨B1, d1, rfl, l1, rr1⟩ := Kd.R_reads r1
    obtain ⟨B2, d2, rfl, l2, rr2⟩ := Kd.R_reads r2
    obtain ⟨B3, d3, rfl, l3, rr3⟩ := Kd.R_reads r3
    have HB2 := Lib.hid (HB1.out.trans (hw2.mono HB1.out.size))
    have HW2 := Lib.hid (HW0.out.trans (hw2.mono HW0.out.size))
    have HX2 := Lib.hid ((hw2.block _ (blk_lt HX1.out)).trans HX1.out)
    have HRW2 := Lib.hid (HRW.out.move (hw2.block g hwl))
    have hwl2 := HRW2.out.lt
    have HEQ := Lib.hid (fun W4 (h : Below w2.heap.size w2 W4) => equal_any W4 P Q R ⟨B1, d1, B2, d2, B3, d3⟩ (HRD.out W4 (HB2.out.trans (h.mono HB2.out.size))) (RdP.below ⟨rr1, l1, rr2, l2, rr3, l3⟩ h))
    unfold cP at HEQ
    have q0 : w2.cell? ⟨W.heap.size, 0, none⟩ = some (.slice R.a1 P.pr.length R.c1) := (blk_cell HX2.out 0).trans rfl
    have q1 : w2.cell? ⟨W.heap.size, 1, none⟩ = some (.slice R.a2 P.ob.length R.c2) := (blk_cell HX2.out 1).trans rfl
    have q2 : w2.cell? ⟨W.heap.size, 2, none⟩ = some (.slice R.a3 P.cl.length R.c3) := (blk_cell HX2.out 2).trans rfl
    have hww : W.heap.size < w2.heap.size := blk_lt HX2.out
    obtain ⟨sm, hsm⟩ : ∃ sm, sm = sameP P Q := ⟨_, rfl⟩
    rw [← hsm] at HEQ
    simp only [← hsm] at HD
    have HB3 := Lib.hid (below_alloc HB2.out (.cells #[.slice B1 Q.pr.length d1, .slice B2 Q.ob.length d2, .slice B3 Q.cl.length d3] 30))
    have HA3 := Lib.hid (below_alloc (Below.refl w2.heap.size w2) (.cells #[.slice B1 Q.pr.length d1, .slice B2 Q.ob.length d2, .slice B3 Q.cl.length d3] 30))
    clear hw2 r1 r2 r3 rr1 rr2 rr3 HMK HX1 HB1 HRW hwl hsm
    by_cases hc : mc = 0
    · have hc' : (mc != 0) = false := by rw [bne_eq_false_iff_eq]; exact hc
      rw [if_pos hc] at HD
      subst hc
      go_wp2_with fail
      refine (HEQ.out _ HA3.out).mono ?_
      rintro e w3 ⟨rfl, hw3⟩
      have HB4 := Lib.hid (HB3.out.trans (hw3.mono HB3.out.size))
      have HA4 := Lib.hid (HA3.out.trans (hw3.mono HA3.out.size))
      have HRW3 := Lib.hid (HRW2.out.move (HA4.out.block g hwl2))
      have hwl3 := HRW3.out.lt
      clear hw3 q0 q1 q2 HEQ HB3 HA3 HRW2 hwl2
      cases sm
      · have HNO := Lib.hid (show eventsF P = none from HD.out)
        go_wp2
        go_ret2
        exact evsP_bad HNO.out HB4.out
      · have HYE := Lib.hid (show eventsF P = some xs from HD.out)
        have hgW : W0.heap.size ≤ g := hg
        have HW3 := Lib.hid (HW2.out.trans (HA4.out.mono HW2.out.size))
        have HS0 := Lib.hid (show W.heap.size ≤ W0.heap.size by omega)
        have HST := Lib.hid (show Blk 12 47 w3 g xs.length xs.length (MixE xs W0 w3 g 0) from HRW3.out.imp fun j c hj ⟨x, hx, hK⟩ => ⟨fun h => by omega, fun _ => ⟨x, hx, hK⟩⟩)
        have HBB := Lib.hid (fun wr (h : Below w3.heap.size w3 wr) => HB4.out.trans (h.mono HB4.out.size))
        clear hs0 hg HX2 HRD HW2 HA4
        go_wp2
        go_loopw [33, 9] (fun iv nv wr => ∃ i : Int, iv = .int .i64 i ∧ 0 ≤ i ∧ i ≤ (xs.length : Int) ∧ Hid (Blk 12 47 wr g xs.length xs.length (MixE xs W0 wr g i)) ∧ Hid (Below W0.heap.size W0 wr) ∧ Hid (Below W.heap.size W wr)) (fun i _ _ => xs.length - (intOf i).toNat)
        case atStart => exact ⟨0, rfl, by omega, by omega, HST.out, HW3.out, HB4.out⟩
        case round =>
          obtain ⟨i, rfl, hi0, hi1, HM, HBW, HBV⟩ := hrel
          clear HST HW3 HB4
          by_cases hlt : i < (xs.length : Int)
          · obtain ⟨cc, hcl, hcc, hP⟩ := HM.out.at i.toNat (by omega)
            obtain ⟨x, hx, hK⟩ := hP.2 (by omega)
            obtain ⟨A8, c8, rfl, l8, g8⟩ := k47_open hK
            have x4 : wr.cell? ⟨g, i.toNat * 12 + 4, none⟩ = some (.int .i64 x.f4.f0) := hcc 4 _ rfl
            have x5 : wr.cell? ⟨g, i.toNat * 12 + 5, none⟩ = some (.int .i64 x.f4.f1) := hcc 5 _ rfl
            have x6 : wr.cell? ⟨g, i.toNat * 12 + 6, none⟩ = some (.int .i64 x.f4.f2) := hcc 6 _ rfl
            have x7 : wr.cell? ⟨g, i.toNat * 12 + 7, none⟩ = some (.string x.f4.f3) := hcc 7 _ rfl
            have x8 : wr.cell? ⟨g, i.toNat * 12 + 8, none⟩ = some (.slice A8 x.f4.f4.length c8) := hcc 8 _ rfl
            have HX := Lib.hid hx
            have hnd := (HE.out x (List.mem_of_getElem? hx)).2
            have HCL := Lib.hid (fun W4 (h : Below wr.heap.size wr W4) => own_any (nd x.f4) x.f4 A8 c8 W4 (Nat.le_refl _) hnd (Kd.C_below (Kd.C_below g8 HBW.out) h) l8)
            have hgl : g < wr.heap.size := HM.out.lt
            have hfr : ∀ (w5 : World), Below wr.heap.size wr w5 → ∀ o, w5.frozen? ⟨g, o, none⟩ = false := fun w5 h o => (h.frozen (p := ⟨g, o, none⟩) HM.out.lt).trans (HM.out.frozen o)
            have HFR := Lib.hid hfr
            unfold OwnP v43 at HCL
            clear hP hcc hx hK g8 l8 hnd hcl hfr
            go_wp2_with fail
            refine (HCL.out _ (by first | exact Below.refl _ _ | exact below_drew (Below.refl _ _))).mono ?_
            rintro e w6 ⟨A6, c6, rfl, hR6, l6, hb6⟩
            have z4 := HFR.out w6 hb6 (i.toNat * 12 + 4)
            have z5 := HFR.out w6 hb6 (i.toNat * 12 + 5)
            have z6 := HFR.out w6 hb6 (i.toNat * 12 + 6)
            have z7 := HFR.out w6 hb6 (i.toNat * 12 + 7)
            have z8 := HFR.out w6 hb6 (i.toNat * 12 + 8)
            have y4 := pw_cell_below hb6 x4
            have y5 := pw_cell_below hb6 x5
            have y6 := pw_cell_below hb6 x6
            have y7 := pw_cell_below hb6 x7
            have y8 := pw_cell_below hb6 x8
            have hg6 : g < w6.heap.size := by have := hb6.size; omega
            have HM6 := Lib.hid (mixE_store hi0 HX.out hgW HBW.out HM.out hb6 hR6)
            have HG6 := Lib.hid (setsW_grown g [.int .i64 x.f4.f0, .int .i64 x.f4.f1, .int .i64 x.f4.f2, .string x.f4.f3, .slice A6 x.f4.f4.length c6] (i.toNat * 12 + 4) w6)
            have HW6 := Lib.hid (show Below W0.heap.size W0 _ from (HBW.out.trans (hb6.mono HBW.out.size)).grown HG6.out (HBW.out.trans (hb6.mono HBW.out.size)).size (fun k hk => by cases hk; exact hgW))
            have HV6 := Lib.hid (show Below W.heap.size W _ from (HBV.out.trans (hb6.mono HBV.out.size)).grown HG6.out (HBV.out.trans (hb6.mono HBV.out.size)).size (fun k hk => by cases hk; exact Nat.le_trans HS0.out hgW))
            clear x4 x5 x6 x7 x8 hR6 hb6 HG6
            go_wp2
            go_roundw
            case rel => exact ⟨i + 1, rfl, by omega, by omega, HM6.out, HW6.out, HV6.out⟩
            case measure => simp [intOf]; omega
          · have hge : i = (xs.length : Int) := by omega
            subst hge
            have HFN := Lib.hid (evsP_good HYE.out HBV.out (Nat.le_trans HS0.out hgW) (Kd.R_lower (mixE_end HM.out hgW) HS0.out))
            go_wp2
            go_ret2
            exact HFN.out
    · have hc' : (mc != 0) = true := by rw [bne_iff_ne]; exact hc
      rw [if_neg hc] at HD
      have HNO := Lib.hid HD.out
      clear HD hc
      go_wp2
      go_ret2
      exact evsP_bad HNO.out HB3.out
end Go.Proofs.Ytofinglgnkdflaa
end
section
namespace Go.Proofs.Ytofinglgnkdflaa
open Go.RowKit
open Go.Proofs.Ytofinglgnkdflaa.PHistoryChecks Go.Proofs.YtofinglgnkdflaaW.PrintWords Go.Proofs.YtofinglgnkdflaaW.PrintLast Go.Proofs.YtofinglgnkdflaaW.PrintMore
set_option linter.unusedVariables false
set_option linter.unusedSimpArgs false
set_option maxHeartbeats 4000000 in
theorem Checkp_any (W : World) (P : PastL) (R : Rw3) (hR : RdP W P R) (hl : P.cl.length ≤ 500000) (hE : ∀ xs, eventsL P = some xs → ∀ e ∈ xs, okE e ∧ nd e.f4 ≤ 1000000) :
    Calls Try.prog 23 #[.agg (cP P R)] W (fun e w' => e = .returned (.int .i64 (if (eventsF P).isSome then 0 else 2)) ∧ Below W.heap.size W w') := by
  have HEV := Lib.hid (fun W1 (h : Below W.heap.size W W1) => Events_any W1 P R (hR.below h) hl hE)
  have HB0 := Lib.hid (below_alloc (Below.refl W.heap.size W) (.cells (cP P R) 30))
  obtain ⟨r, hr⟩ : ∃ r : Int, r = (if (eventsF P).isSome then 0 else 2) := ⟨_, rfl⟩
  rw [← hr]
  have HQ := Lib.hid hr
  clear hr
  unfold EvsP at HEV
  unfold cP at HB0 HEV ⊢
  clear hR hE
  go_enter Try.func23, Try.ntmps23
  go_wp2_with fail
  refine (HEV.out _ HB0.out).mono ?_
  rintro e w1 ⟨hw1, hm⟩
  have HB1 := Lib.hid (HB0.out.trans (hw1.mono HB0.out.size))
  rcases hxs : eventsF P with _ | xs
  · rw [hxs] at hm
    subst hm
    have HR := Lib.hid (show r = 2 from by rw [HQ.out, hxs]; rfl)
    clear hxs HEV hw1
    go_wp2
    go_ret
    exact ⟨by rw [HR.out]; rfl, HB1.out⟩
  · rw [hxs] at hm
    obtain ⟨g, hg, rfl, hrow⟩ := hm
    have HR := Lib.hid (show r = 0 from by rw [HQ.out, hxs]; rfl)
    clear hxs HEV hw1 hg hrow
    go_wp2
    go_ret
    exact ⟨by rw [HR.out]; rfl, HB1.out⟩
end Go.Proofs.Ytofinglgnkdflaa
end
