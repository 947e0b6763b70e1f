/- Layer 7: are two calls one? slices.EqualFunc of calls; equal of two pasts. -/
import Derived.Test.YtofinglgnkdflaaLXD
import Derived.Test.YtofinglgnkdflaaLXC
import Derived.Test.YtofinglgnkdflaaLXE
import Derived.Test.YtofinglgnkdflaaLXK
section
namespace Go.Proofs.Ytofinglgnkdflaa
open Go.RowKit
open Go.Proofs.Ytofinglgnkdflaa.PHistoryChecks Go.Proofs.YtofinglgnkdflaaW.PrintWords Go.Proofs.YtofinglgnkdflaaW.PrintLast Go.Proofs.YtofinglgnkdflaaW.PrintMore
set_option linter.unusedVariables false
set_option linter.unusedSimpArgs false
def setsA : Nat → List Value → Array Value → Array Value
  | _, [], cur => cur
  | p, v :: vs, cur => setsA (p + 1) vs (cur.setIfInBounds p v)
def setsW (g : Nat) : Nat → List Value → World → World
  | _, [], w => w
  | p, v :: vs, w => setsW g (p + 1) vs (w.setCell ⟨g, p, none⟩ v)
theorem setsA_size : ∀ (vs : List Value) (p : Nat) (cur : Array Value), (setsA p vs cur).size = cur.size
  | [], _, _ => rfl
  | v :: vs, p, cur => by simp only [setsA]; rw [setsA_size vs]; simp
theorem setsA_far : ∀ (vs : List Value) (p : Nat) (cur : Array Value) (k : Nat), (k < p ∨ p + vs.length ≤ k) → (setsA p vs cur)[k]? = cur[k]?
  | [], _, _, _, _ => rfl
  | v :: vs, p, cur, k, h => by
    simp only [setsA, List.length_cons] at h ⊢
    rw [setsA_far vs (p + 1) _ k (by omega), Array.getElem?_setIfInBounds, if_neg (by omega)]
theorem setsA_at : ∀ (vs : List Value) (p : Nat) (cur : Array Value) (o : Nat), o < vs.length → p + vs.length ≤ cur.size → (setsA p vs cur)[p + o]? = vs[o]?
  | [], _, _, o, h, _ => by simp at h
  | v :: vs, p, cur, o, h, h2 => by
    simp only [setsA, List.length_cons] at h h2 ⊢
    cases o with
    | zero => rw [setsA_far vs (p + 1) _ (p + 0) (by omega), Array.getElem?_setIfInBounds, if_pos (by omega), if_pos (by omega)]; rfl
    | succ o =>
      have := setsA_at vs (p + 1) (cur.setIfInBounds p v) o (by omega) (by simp; omega)
      rw [show p + (o + 1) = p + 1 + o by omega, this]; rfl
theorem setsW_at (g e : Nat) : ∀ (vs : List Value) (p : Nat) (w : World) (cur : Array Value), w.heap[g]? = some (.cells cur e (0, 0)) → (setsW g p vs w).heap[g]? = some (.cells (setsA p vs cur) e (0, 0))
  | [], _, _, _, h => h
  | v :: vs, p, w, cur, h => setsW_at g e vs (p + 1) _ _ (blk_set h p v)
theorem setsW_grown (g : Nat) : ∀ (vs : List Value) (p : Nat) (w : World), w.grownBy (setsW g p vs w) (some g)
  | [], _, w => World.grownBy.refl w _
  | v :: vs, p, w => (grown_set (World.grownBy.refl w (some g)) g p v).trans (setsW_grown g vs (p + 1) _)
theorem setsA_chunk {sz i : Nat} {vs : List Value} {cur : Array Value} (hl : vs.length = sz) (h : i * sz + sz ≤ cur.size) : Chunk sz (setsA (i * sz) vs cur) i vs :=
  ⟨hl, fun o u hu => by
    have ho : o < vs.length := (List.getElem?_eq_some_iff.1 hu).1
    rw [setsA_at vs (i * sz) cur o ho (by omega)]; exact hu⟩
theorem Blk.sets {sz e : Nat} {w : World} {g n cap i : Nat} {P P' : Nat → List Value → Prop} (h : Blk sz e w g n cap P) (vs : List Value) (hl : vs.length = sz) (hv : P' i vs) (hP : ∀ j c, j < n → j ≠ i → P j c → P' j c) : Blk sz e (setsW g (i * sz) vs w) g n cap P' :=
  h.store (i := i) (setsA (i * sz) vs) (fun cur hc => setsW_at g e vs _ w cur hc) (fun cur => setsA_size vs _ cur) (fun cur k hk => setsA_far vs _ cur k (by omega)) (fun cur c hi hsz hc hp => ⟨vs, setsA_chunk hl hsz, hv⟩) hP
def RowE (W wr : World) (g n cap : Nat) (xs : List S47) : Prop := Blk 12 47 wr g n cap (fun j c => ∃ x, xs[j]? = some x ∧ k47.K W x c)
def putB (xs : List S47) (at_ : Int) : Bool := decide (0 ≤ at_) && (decide (at_ < (xs.length : Int)) && decide ((rd_T47 xs at_).f0 = 0))
def putL (xs : List S47) (at_ : Int) (x : S47) : List S47 := if putB xs at_ then xs.set at_.toNat x else xs
theorem putL_length (xs : List S47) (at_ : Int) (x : S47) : (putL xs at_ x).length = xs.length := by unfold putL; split <;> simp
def PutP (W wr : World) (g n cap : Nat) (xs : List S47) (at_ : Int) (x : S47) (e : Ending) (w' : World) : Prop :=
  e = .returned (.bool (putB xs at_)) ∧ RowE W w' g n cap (putL xs at_ x) ∧ wr.grownBy w' (some g)
set_option maxHeartbeats 4000000 in
theorem put_any (W wr : World) (g n cap : Nat) (xs : List S47) (at_ : Int) (x : S47) (A : Option Addr) (c : Nat) (hR : RowE W wr g n cap xs) (hn : n = xs.length) (hl : x.f4.f4.length ≤ c) (hC : k43.C W A x.f4.f4.length x.f4.f4) :
    Calls Try.prog 90 #[.slice (some ⟨g, 0, none⟩) n cap, .int .i64 at_, .agg (c47 x A c)] wr (PutP W wr g n cap xs at_ x) := by
  subst hn
  have hgl := hR.lt
  have HR := Lib.hid hR
  have HBX := Lib.hid (World.grownBy_alloc wr (.cells (c47 x A c) 47) (some g))
  have hno := Lib.hid (fun (h : putB xs at_ = false) => show PutP W wr g xs.length cap xs at_ x (.returned (.bool false)) (wr.alloc (.cells (c47 x A c) 47)) from
    ⟨by rw [h], by unfold putL; rw [h]; exact HR.out.move (Below.heap_alloc wr _ g hgl), HBX.out⟩)
  unfold c47 at hno HBX ⊢
  go_enter Try.func90, Try.ntmps90
  by_cases h0 : at_ < 0
  · have hb := Lib.hid (hno.out (by unfold putB; rw [decide_eq_false (by omega), Bool.false_and]))
    clear hR
    go_wp2
    go_ret
    exact hb.out
  · have h0' : 0 ≤ at_ := by omega
    clear h0
    by_cases h1 : at_ < (xs.length : Int)
    · obtain ⟨ce, hcl, hce, y, hy, hK⟩ := hR.at at_.toNat (by omega)
      have hrd : rd_T47 xs at_ = y := by unfold rd_T47; rw [List.getD_eq_getElem?_getD, hy]; rfl
      obtain ⟨A8, c8, rfl, _, _⟩ := k47_open hK
      have y0 : wr.cell? ⟨g, at_.toNat * 12, none⟩ = some (.int .i64 y.f0) := hce 0 _ rfl
      by_cases hf : y.f0 = 0
      · have hf' : (y.f0 != 0) = false := by rw [bne_eq_false_iff_eq]; exact hf
        have hp : putB xs at_ = true := by unfold putB; rw [decide_eq_true h0', decide_eq_true h1, hrd, decide_eq_true hf]; rfl
        have y1 : wr.cell? ⟨g, at_.toNat * 12 + 1, none⟩ = some (.string y.f1) := hce 1 _ rfl
        have y2 : wr.cell? ⟨g, at_.toNat * 12 + 2, none⟩ = some (.string y.f2) := hce 2 _ rfl
        have y3 : wr.cell? ⟨g, at_.toNat * 12 + 3, none⟩ = some (.string y.f3) := hce 3 _ rfl
        have y4 : wr.cell? ⟨g, at_.toNat * 12 + 4, none⟩ = some (.int .i64 y.f4.f0) := hce 4 _ rfl
        have y5 : wr.cell? ⟨g, at_.toNat * 12 + 5, none⟩ = some (.int .i64 y.f4.f1) := hce 5 _ rfl
        have y6 : wr.cell? ⟨g, at_.toNat * 12 + 6, none⟩ = some (.int .i64 y.f4.f2) := hce 6 _ rfl
        have y7 : wr.cell? ⟨g, at_.toNat * 12 + 7, none⟩ = some (.string y.f4.f3) := hce 7 _ rfl
        have y8 : wr.cell? ⟨g, at_.toNat * 12 + 8, none⟩ = some (.slice A8 y.f4.f4.length c8) := hce 8 _ rfl
        have y9 : wr.cell? ⟨g, at_.toNat * 12 + 9, none⟩ = some (.int .i64 y.f5.f0) := hce 9 _ rfl
        have y10 : wr.cell? ⟨g, at_.toNat * 12 + 10, none⟩ = some (.int .i64 y.f5.f1) := hce 10 _ rfl
        have y11 : wr.cell? ⟨g, at_.toNat * 12 + 11, none⟩ = some (.int .i64 y.f5.f2) := hce 11 _ rfl
        have z0 := hR.frozen (at_.toNat * 12)
        have z1 := hR.frozen (at_.toNat * 12 + 1)
        have z2 := hR.frozen (at_.toNat * 12 + 2)
        have z3 := hR.frozen (at_.toNat * 12 + 3)
        have z4 := hR.frozen (at_.toNat * 12 + 4)
        have z5 := hR.frozen (at_.toNat * 12 + 5)
        have z6 := hR.frozen (at_.toNat * 12 + 6)
        have z7 := hR.frozen (at_.toNat * 12 + 7)
        have z8 := hR.frozen (at_.toNat * 12 + 8)
        have z9 := hR.frozen (at_.toNat * 12 + 9)
        have z10 := hR.frozen (at_.toNat * 12 + 10)
        have z11 := hR.frozen (at_.toNat * 12 + 11)
        have HS := Lib.hid (show RowE W (setsW g (at_.toNat * 12) (c47 x A c).toList wr) g xs.length cap (putL xs at_ x) from hR.sets (c47 x A c).toList rfl
          ⟨x, by unfold putL; rw [hp, if_pos rfl, List.getElem?_set, if_pos rfl, if_pos (by omega)], k47_mk W x hl hC⟩ (fun j c hj hne ⟨z, hz, hKz⟩ => ⟨z, by unfold putL; rw [hp, if_pos rfl, List.getElem?_set, if_neg (by omega)]; exact hz, hKz⟩))
        have HFI := Lib.hid (show PutP W wr g xs.length cap xs at_ x (.returned (.bool true)) ((setsW g (at_.toNat * 12) (c47 x A c).toList wr).alloc (.cells (c47 x A c) 47)) from ⟨by rw [hp], HS.out.move (Below.heap_alloc _ _ g HS.out.lt), (setsW_grown g _ _ wr).trans (World.grownBy_alloc _ _ _)⟩)
        clear HS
        clear hR hcl hce hy hrd hK hf hp
        go_wp2
        go_ret
        exact HFI.out
      · have hf' : (y.f0 != 0) = true := by rw [bne_iff_ne]; exact hf
        have hb := Lib.hid (hno.out (by unfold putB; rw [hrd, decide_eq_false hf, Bool.and_false, Bool.and_false]))
        clear hR hcl hce hy hrd hK hf
        go_wp2
        go_ret
        exact hb.out
    · have h1' : (xs.length : Int) ≤ at_ := by omega
      have hb := Lib.hid (hno.out (by unfold putB; rw [decide_eq_false h1, Bool.false_and, Bool.and_false]))
      clear hR h1
      go_wp2
      go_ret
      exact hb.out
end Go.Proofs.Ytofinglgnkdflaa
end
section
namespace Go.Proofs.Ytofinglgnkdflaa
open Go.RowKit
open Go.Proofs.Ytofinglgnkdflaa.PHistoryChecks Go.Proofs.YtofinglgnkdflaaW.PrintWords Go.Proofs.YtofinglgnkdflaaW.PrintLast Go.Proofs.YtofinglgnkdflaaW.PrintMore
set_option linter.unusedVariables false
set_option linter.unusedSimpArgs false
structure Rw3 where
  a1 : Option Addr
  c1 : Nat
  a2 : Option Addr
  c2 : Nat
  a3 : Option Addr
  c3 : Nat
def cP (P : PastL) (R : Rw3) : Array Value := #[.slice R.a1 P.pr.length R.c1, .slice R.a2 P.ob.length R.c2, .slice R.a3 P.cl.length R.c3]
structure RdP (W : World) (P : PastL) (R : Rw3) : Prop where
  pr : Kd.string.C W R.a1 P.pr.length P.pr
  prc : P.pr.length ≤ R.c1
  ob : Kd.string.C W R.a2 P.ob.length P.ob
  obc : P.ob.length ≤ R.c2
  cl : k50.C W R.a3 P.cl.length P.cl
  clc : P.cl.length ≤ R.c3
theorem RdP.below {W w1 : World} {P : PastL} {R : Rw3} (h : RdP W P R) (hb : Below W.heap.size W w1) : RdP w1 P R := ⟨Kd.C_below h.pr hb, h.prc, Kd.C_below h.ob hb, h.obc, Kd.C_below h.cl hb, h.clc⟩
def hasRes (c : S50) : Bool := decide (0 ≤ c.f5)
def cntR (l : List S50) : Nat := (l.filter hasRes).length
def sizeL (l : List S50) : Nat := l.length + cntR l
theorem take50 (l : List S50) (i : Int) (h0 : 0 ≤ i) (h1 : i < (l.length : Int)) : l.take (i + 1).toNat = l.take i.toNat ++ [rd_T50 l i] := by
  have hn : i.toNat < l.length := by omega
  have e : (i + 1).toNat = i.toNat + 1 := by omega
  rw [e, List.take_add_one, List.getElem?_eq_getElem hn]
  unfold rd_T50
  rw [List.getD_eq_getElem?_getD, List.getElem?_eq_getElem hn]; rfl
theorem cntR_step (l : List S50) (i : Int) (h0 : 0 ≤ i) (h1 : i < (l.length : Int)) : cntR (l.take (i + 1).toNat) = cntR (l.take i.toNat) + if 0 ≤ (rd_T50 l i).f5 then 1 else 0 := by
  unfold cntR
  rw [take50 l i h0 h1, List.filter_append, List.length_append]
  by_cases h : 0 ≤ (rd_T50 l i).f5
  · rw [if_pos h, List.filter_cons_of_pos (by unfold hasRes; exact decide_eq_true h)]; rfl
  · rw [if_neg h, List.filter_cons_of_neg (by unfold hasRes; simpa using h)]; rfl
theorem cntR_le (l : List S50) : cntR l ≤ l.length := List.length_filter_le _ _
def c50 (x : S50) (A7 : Option Addr) (c7 : Nat) (A14 : Option Addr) (c14 : Nat) : Array Value := #[.int .i64 x.f0, .int .i64 x.f1, .string x.f2, .int .i64 x.f3.f0, .int .i64 x.f3.f1, .int .i64 x.f3.f2, .string x.f3.f3, .slice A7 x.f3.f4.length c7, .int .i64 x.f4, .int .i64 x.f5, .int .i64 x.f6.f0, .int .i64 x.f6.f1, .int .i64 x.f6.f2, .string x.f6.f3, .slice A14 x.f6.f4.length c14]
set_option maxHeartbeats 4000000 in
theorem size_any (W : World) (P : PastL) (R : Rw3) (hR : RdP W P R) (hl : P.cl.length ≤ 1000000) :
    Calls Try.prog 70 #[.agg (cP P R)] W (fun e w' => e = .returned (.int .i64 (sizeL P.cl)) ∧ Below W.heap.size W w') := by
  have HD := Lib.hid (show sizeL P.cl = P.cl.length + cntR P.cl from rfl)
  have HC := Lib.hid hR.cl
  obtain ⟨l, hle⟩ : ∃ l, l = P.cl := ⟨_, rfl⟩
  unfold cP
  rw [← hle] at HC HD hl ⊢
  clear hle hR
  go_enter Try.func70, Try.ntmps70
  go_wp2
  have HB0 := Lib.hid (below_alloc (Below.refl W.heap.size W) (.cells #[.slice R.a1 P.pr.length R.c1, .slice R.a2 P.ob.length R.c2, .slice R.a3 l.length R.c3] 30))
  go_loopw [12, 3] (fun iv nv wr => ∃ i n : Int, iv = .int .i64 i ∧ nv = .int .i64 n ∧ 0 ≤ i ∧ i ≤ (l.length : Int) ∧ 0 ≤ n ∧ n ≤ 2000000 ∧ Hid (n = l.length + cntR (l.take i.toNat)) ∧ Hid (Below W.heap.size W wr)) (fun i _ _ => l.length - (intOf i).toNat)
  case atStart => exact ⟨0, l.length, rfl, rfl, by omega, by omega, by omega, by omega, by show (l.length : Int) = l.length + cntR (l.take 0); rw [List.take_zero]; simp [cntR], HB0.out⟩
  case round =>
    obtain ⟨i, n, rfl, rfl, hi0, hi1, hn0, hn1, HN, HB⟩ := hrel
    by_cases hlt : i < (l.length : Int)
    · obtain ⟨ad, A7, c7, A14, c14, hAd, x0, x1, x2, x3, x4, x5, x6, x7, x8, x9, x10, x11, x12, x13, x14, hl7, hg7, hl14, hg14⟩ := at_T50 (Kd.C_below HC.out HB.out) i hi0 hlt
      have hst := cntR_step l i hi0 hlt
      have hcl := cntR_le (l.take i.toNat)
      have htl : (l.take i.toNat).length ≤ i.toNat := List.length_take_le _ _
      have hnn := HN.out
      obtain ⟨x, hx⟩ : ∃ x, x = rd_T50 l i := ⟨_, rfl⟩
      rw [← hx] at x0 x1 x2 x3 x4 x5 x6 x7 x8 x9 x10 x11 x12 x13 x14 hst
      have hn2 : n ≤ (l.length : Int) + i := by omega
      have HST := Lib.hid hst
      have HB2 := Lib.hid (below_alloc HB.out (.cells (c50 x A7 c7 A14 c14) 50))
      have hB3 := Lib.hid HB.out.size
      rw [hAd]
      clear hst hcl htl hnn hl7 hg7 hl14 hg14 hx hAd
      by_cases hf : 0 ≤ x.f5
      · have HN2 := Lib.hid (show n + 1 = l.length + cntR (l.take (i + 1).toNat) from by have := HST.out; have := HN.out; rw [if_pos hf] at *; omega)
        go_wp2
        go_roundw
        case rel => exact ⟨i + 1, n + 1, rfl, rfl, by omega, by omega, by omega, by omega, HN2.out, HB2.out⟩
        case measure => simp [intOf]; omega
      · have HN2 := Lib.hid (show n = l.length + cntR (l.take (i + 1).toNat) from by have := HST.out; have := HN.out; rw [if_neg hf] at *; omega)
        have hf' : x.f5 < 0 := by omega
        clear hf
        go_wp2
        go_roundw
        case rel => exact ⟨i + 1, n, rfl, rfl, by omega, by omega, by omega, by omega, HN2.out, HB2.out⟩
        case measure => simp [intOf]; omega
    · have hge : i = (l.length : Int) := by omega
      subst hge
      have HE := Lib.hid (show n = (sizeL l : Int) from by have := HN.out; rw [Int.toNat_natCast, List.take_of_length_le (Nat.le_refl _)] at this; rw [HD.out]; omega)
      go_wp2
      go_ret
      exact ⟨by rw [← HE.out]; rfl, HB.out⟩
end Go.Proofs.Ytofinglgnkdflaa
end
section
namespace Go.Proofs.Ytofinglgnkdflaa
open Go.RowKit
open Go.Proofs.Ytofinglgnkdflaa.PHistoryChecks Go.Proofs.YtofinglgnkdflaaW.PrintWords Go.Proofs.YtofinglgnkdflaaW.PrintLast Go.Proofs.YtofinglgnkdflaaW.PrintMore
set_option linter.unusedVariables false
set_option linter.unusedSimpArgs false
mutual
def sameV : S43 → S43 → Bool
  | ⟨k, i, m, t, l⟩, b => decide (k = b.f0) && (decide (i = b.f1) && (decide (m = b.f2) && ((t.toList == b.f3.toList) && sameL l b.f4)))
def sameL : List S43 → List S43 → Bool
  | [], [] => true
  | x :: l, y :: m => sameV x y && sameL l m
  | [], _ :: _ => false
  | _ :: _, [] => false
end
theorem sameV_eq (a b : S43) : sameV a b = (decide (a.f0 = b.f0) && (decide (a.f1 = b.f1) && (decide (a.f2 = b.f2) && ((a.f3.toList == b.f3.toList) && sameL a.f4 b.f4)))) := by cases a; rfl
theorem sameL_len (l m : List S43) (h : l.length ≠ m.length) : sameL l m = false := by
  induction l generalizing m with
  | nil => cases m with
    | nil => simp at h
    | cons y m => rfl
  | cons x l ih => cases m with
    | nil => rfl
    | cons y m => simp only [sameL]; rw [ih m (by simpa using h), Bool.and_false]
theorem sameL_from (l m : List S43) (h : l.length = m.length) (i : Int) (h0 : 0 ≤ i) (h1 : i < (l.length : Int)) :
    sameL (l.drop i.toNat) (m.drop i.toNat) = (sameV (rd_T43 l i) (rd_T43 m i) && sameL (l.drop (i + 1).toNat) (m.drop (i + 1).toNat)) := by
  have hn : i.toNat < l.length := by omega
  have hm : i.toNat < m.length := by omega
  have e : (i + 1).toNat = i.toNat + 1 := by omega
  rw [e, List.drop_eq_getElem_cons hn, List.drop_eq_getElem_cons hm]
  simp only [sameL]
  unfold rd_T43
  rw [List.getD_eq_getElem?_getD, List.getElem?_eq_getElem hn, List.getD_eq_getElem?_getD, List.getElem?_eq_getElem hm]; rfl
theorem sameL_end (l m : List S43) (h : l.length = m.length) (i : Int) (h1 : ¬ i < (l.length : Int)) : sameL (l.drop i.toNat) (m.drop i.toNat) = true := by
  rw [List.drop_eq_nil_of_le (by omega), List.drop_eq_nil_of_le (by omega)]; rfl
def SameP (a b : S43) (W : World) (e : Ending) (w' : World) : Prop := e = .returned (.bool (sameV a b)) ∧ Below W.heap.size W w'
def SameAny (a : S43) : Prop := ∀ (b : S43) (A B : Option Addr) (c d : Nat) (W : World), Kd.C k43 W A a.f4.length a.f4 → a.f4.length ≤ c → Kd.C k43 W B b.f4.length b.f4 → b.f4.length ≤ d → Calls Try.prog 94 #[v43 a A c, v43 b B d] W (SameP a b W)
set_option maxHeartbeats 4000000 in
set_option maxRecDepth 100000 in
theorem eqf43_any (l m : List S43) (A B : Option Addr) (c d : Nat) (W : World) (hA : ∀ x ∈ l, SameAny x) (hCa : Kd.C k43 W A l.length l) (hc : l.length ≤ c) (hCb : Kd.C k43 W B m.length m) (hd : m.length ≤ d) :
    Calls Try.prog 110 #[.slice A l.length c, .slice B m.length d, .func (.func 94) #[] #[]] W (fun e w' => e = .returned (.bool (sameL l m)) ∧ Below W.heap.size W w') := by
  have hla := Kd.C_max hCa
  have hlb := Kd.C_max hCb
  have HCa := Lib.hid hCa
  have HCb := Lib.hid hCb
  clear hCa hCb
  go_enter Try.func110, Try.ntmps110
  by_cases hl : l.length = m.length
  · have hl' : ((l.length : Int) != (m.length : Int)) = false := by rw [bne_eq_false_iff_eq]; omega
    have HL := Lib.hid hl
    have HST := Lib.hid (show sameL l m = sameL (l.drop (0 : Int).toNat) (m.drop (0 : Int).toNat) from rfl)
    clear hl
    go_wp2
    go_loopw [17, 8, 9, 7] (fun iv av bv nv wr => ∃ i : Int, iv = .int .i64 i ∧ 0 ≤ i ∧ i ≤ (l.length : Int) ∧ Hid (sameL l m = sameL (l.drop i.toNat) (m.drop i.toNat)) ∧ Hid (Below W.heap.size W wr)) (fun i _ _ _ _ => l.length - (intOf i).toNat)
    case atStart => exact ⟨0, rfl, by omega, by omega, HST.out, Below.refl _ _⟩
    case round =>
      obtain ⟨i, rfl, hi0, hi1, HI, HB⟩ := hrel
      by_cases hlt : i < (l.length : Int)
      · obtain ⟨ad, A4, c4, hAd, x0, x1, x2, x3, x4, hl4, hF4⟩ := at_T43 (Kd.C_below HCa.out HB.out) i hi0 hlt
        have hlt2 : i < (m.length : Int) := by have := HL.out; omega
        obtain ⟨bd, B4, d4, hBd, y0, y1, y2, y3, y4, ml4, mF4⟩ := at_T43 (Kd.C_below HCb.out HB.out) i hi0 hlt2
        have hcall := Lib.hid (fun W4 (h : Below wr.heap.size wr W4) => hA (rd_T43 l i) (rd_mem l i hi0 hlt) (rd_T43 m i) A4 B4 c4 d4 W4 (Kd.C_below hF4 h) hl4 (Kd.C_below mF4 h) ml4)
        have hstep := Lib.hid (sameL_from l m HL.out i hi0 hlt)
        have hyb := World.block_lt_of_cell? wr _ y0
        have hyb2 : bd.block < wr.heap.size := by rw [← add_block bd (i.toNat * 5)]; exact hyb
        obtain ⟨x, hx⟩ : ∃ x, x = rd_T43 l i := ⟨_, rfl⟩
        obtain ⟨y, hy⟩ : ∃ y, y = rd_T43 m i := ⟨_, rfl⟩
        rw [← hx, ← hy] at hcall hstep
        rw [← hx] at x0 x1 x2 x3 x4
        rw [← hy] at y0 y1 y2 y3 y4
        unfold SameP v43 at hcall
        rw [hAd, hBd]
        have HB0 := Lib.hid (below_alloc (below_alloc (Below.refl wr.heap.size wr) (.cells #[.int .i64 x.f0, .int .i64 x.f1, .int .i64 x.f2, .string x.f3, .slice A4 x.f4.length c4] 43)) (.cells #[.int .i64 y.f0, .int .i64 y.f1, .int .i64 y.f2, .string y.f3, .slice B4 y.f4.length d4] 43))
        clear hx hy hF4 mF4 hl4 ml4 hAd hBd
        go_wp2_with fail
        refine (hcall.out _ HB0.out).mono ?_
        rintro e w1 ⟨rfl, hb1⟩
        have HW6 := Lib.hid (show Below W.heap.size W w1 from HB.out.trans ((HB0.out.trans (hb1.mono HB0.out.size)).mono HB.out.size))
        obtain ⟨r, hr⟩ : ∃ r, r = sameV x y := ⟨_, rfl⟩
        rw [← hr] at hstep ⊢
        clear hr hb1 x0 x1 x2 x3 x4 y0 y1 y2 y3 y4 hcall HB0
        cases r
        · have HR := Lib.hid (show sameL l m = false from by rw [HI.out, hstep.out]; rfl)
          go_wp2
          go_ret
          exact ⟨by rw [HR.out]; rfl, HW6.out⟩
        · have HN := Lib.hid (show sameL l m = sameL (l.drop (i + 1).toNat) (m.drop (i + 1).toNat) from by rw [HI.out, hstep.out]; rfl)
          go_wp2
          go_roundw
          case rel => exact ⟨i + 1, rfl, by omega, by omega, HN.out, HW6.out⟩
          case measure => simp [intOf]; omega
      · have HR := Lib.hid (show sameL l m = true from by rw [HI.out]; exact sameL_end _ _ HL.out _ hlt)
        have hge : (l.length : Int) ≤ i := by omega
        clear hlt
        go_wp2
        go_ret
        exact ⟨by rw [HR.out]; rfl, HB.out⟩
  · have hl' : ((l.length : Int) != (m.length : Int)) = true := by rw [bne_iff_ne]; omega
    have HR := Lib.hid (sameL_len l m hl)
    clear hl
    go_wp2
    go_ret
    exact ⟨by rw [HR.out]; rfl, Below.refl _ _⟩
set_option maxHeartbeats 4000000 in
set_option maxRecDepth 100000 in
theorem same_any (k : Nat) : ∀ a : S43, nd a ≤ k → SameAny a := by
  induction k with
  | zero => intro a h; have := nd_pos a; omega
  | succ k ih =>
    intro a hk b A B c d W hCa hc hCb hd
    have hA : ∀ x ∈ a.f4, SameAny x := fun x hx => ih x (by have := ndL_mem _ _ hx; have := nd_eq a; omega)
    have HE := Lib.hid (sameV_eq a b)
    have HQ := Lib.hid (fun W1 (h : Below W.heap.size W W1) => eqf43_any a.f4 b.f4 A B c d W1 hA (Kd.C_below hCa h) hc (Kd.C_below hCb h) hd)
    obtain ⟨rl, hrl⟩ : ∃ r, r = sameL a.f4 b.f4 := ⟨_, rfl⟩
    rw [← hrl] at HE HQ
    unfold SameP v43
    have HB0 := Lib.hid (below_alloc (below_alloc (Below.refl W.heap.size W) (.cells #[.int .i64 a.f0, .int .i64 a.f1, .int .i64 a.f2, .string a.f3, .slice A a.f4.length c] 43)) (.cells #[.int .i64 b.f0, .int .i64 b.f1, .int .i64 b.f2, .string b.f3, .slice B b.f4.length d] 43))
    obtain ⟨te, hte⟩ : ∃ te, (a.f3.toList == b.f3.toList) = te := ⟨_, rfl⟩
    rw [hte] at HE
    clear hA hrl hCa hCb
    go_enter Try.func94, Try.ntmps94
    by_cases h0 : a.f0 = b.f0
    · have h0' : (a.f0 == b.f0) = true := by rw [beq_iff_eq]; exact h0
      by_cases h1 : a.f1 = b.f1
      · have h1' : (a.f1 == b.f1) = true := by rw [beq_iff_eq]; exact h1
        by_cases h2 : a.f2 = b.f2
        · have h2' : (a.f2 == b.f2) = true := by rw [beq_iff_eq]; exact h2
          have HR := Lib.hid (show sameV a b = (te && rl) from by rw [HE.out, decide_eq_true h0, decide_eq_true h1, decide_eq_true h2]; rfl)
          clear h0 h1 h2 HE
          cases te
          · go_wp2
            go_ret
            exact ⟨by rw [HR.out]; rfl, HB0.out⟩
          · go_wp2_with fail
            refine (HQ.out _ HB0.out).mono ?_
            rintro e w1 ⟨rfl, hb1⟩
            have HW := Lib.hid (show Below W.heap.size W w1 from HB0.out.trans (hb1.mono HB0.out.size))
            clear hb1
            go_wp2
            go_ret
            exact ⟨by rw [HR.out]; rfl, HW.out⟩
        · have h2' : (a.f2 == b.f2) = false := by rw [beq_eq_false_iff_ne]; exact h2
          have HR := Lib.hid (show sameV a b = false from by rw [HE.out, decide_eq_false h2]; simp)
          clear h0 h1 h2 hte
          go_wp2
          go_ret
          exact ⟨by rw [HR.out]; rfl, HB0.out⟩
      · have h1' : (a.f1 == b.f1) = false := by rw [beq_eq_false_iff_ne]; exact h1
        have HR := Lib.hid (show sameV a b = false from by rw [HE.out, decide_eq_false h1]; simp)
        clear h0 h1 hte
        go_wp2
        go_ret
        exact ⟨by rw [HR.out]; rfl, HB0.out⟩
    · have h0' : (a.f0 == b.f0) = false := by rw [beq_eq_false_iff_ne]; exact h0
      have HR := Lib.hid (show sameV a b = false from by rw [HE.out, decide_eq_false h0]; simp)
      clear h0 hte
      go_wp2
      go_ret
      exact ⟨by rw [HR.out]; rfl, HB0.out⟩
end Go.Proofs.Ytofinglgnkdflaa
end
section
namespace Go.Proofs.Ytofinglgnkdflaa
open Go.RowKit
open Go.Proofs.Ytofinglgnkdflaa.PHistoryChecks Go.Proofs.YtofinglgnkdflaaW.PrintWords Go.Proofs.YtofinglgnkdflaaW.PrintLast Go.Proofs.YtofinglgnkdflaaW.PrintMore
set_option linter.unusedVariables false
set_option linter.unusedSimpArgs false
def eqS : List ByteArray → List ByteArray → Bool
  | [], [] => true
  | x :: l, y :: m => (x.toList == y.toList) && eqS l m
  | [], _ :: _ => false
  | _ :: _, [] => false
theorem eqS_len (l m : List ByteArray) (h : l.length ≠ m.length) : eqS l m = false := by
  induction l generalizing m with
  | nil => cases m with
    | nil => simp at h
    | cons y m => rfl
  | cons x l ih => cases m with
    | nil => rfl
    | cons y m => simp only [eqS]; rw [ih m (by simpa using h), Bool.and_false]
def rdS (l : List ByteArray) (i : Int) : ByteArray := rdOf ByteArray.empty l i
theorem eqS_from (l m : List ByteArray) (h : l.length = m.length) (i : Int) (h0 : 0 ≤ i) (h1 : i < (l.length : Int)) :
    eqS (l.drop i.toNat) (m.drop i.toNat) = (((rdS l i).toList == (rdS m i).toList) && eqS (l.drop (i + 1).toNat) (m.drop (i + 1).toNat)) := by
  have hn : i.toNat < l.length := by omega
  have hm : i.toNat < m.length := by omega
  have e : (i + 1).toNat = i.toNat + 1 := by omega
  rw [e, List.drop_eq_getElem_cons hn, List.drop_eq_getElem_cons hm]
  simp only [eqS]
  unfold rdS rdOf
  rw [List.getD_eq_getElem?_getD, List.getElem?_eq_getElem hn, List.getD_eq_getElem?_getD, List.getElem?_eq_getElem hm]; rfl
theorem eqS_end (l m : List ByteArray) (h : l.length = m.length) (i : Int) (h1 : ¬ i < (l.length : Int)) : eqS (l.drop i.toNat) (m.drop i.toNat) = true := by
  rw [List.drop_eq_nil_of_le (by omega), List.drop_eq_nil_of_le (by omega)]; rfl
set_option maxHeartbeats 4000000 in
theorem strEq_any (l m : List ByteArray) (A B : Option Addr) (c d : Nat) (W : World) (hCa : Kd.string.C W A l.length l) (hc : l.length ≤ c) (hCb : Kd.string.C W B m.length m) (hd : m.length ≤ d) :
    Calls Try.prog 91 #[.slice A l.length c, .slice B m.length d] W (fun e w' => e = .returned (.bool (eqS l m)) ∧ Below W.heap.size W w') := by
  have hla := Kd.C_max hCa
  have hlb := Kd.C_max hCb
  have HCa := Lib.hid hCa
  have HCb := Lib.hid hCb
  clear hCa hCb
  go_enter Try.func91, Try.ntmps91
  by_cases hl : l.length = m.length
  · have hl' : ((l.length : Int) != (m.length : Int)) = false := by rw [bne_eq_false_iff_eq]; omega
    have HL := Lib.hid hl
    have HST := Lib.hid (show eqS l m = eqS (l.drop (0 : Int).toNat) (m.drop (0 : Int).toNat) from rfl)
    clear hl
    go_wp2
    go_loopw [13, 5] (fun iv nv wr => ∃ i : Int, iv = .int .i64 i ∧ 0 ≤ i ∧ i ≤ (l.length : Int) ∧ Hid (eqS l m = eqS (l.drop i.toNat) (m.drop i.toNat)) ∧ Hid (Below W.heap.size W wr)) (fun i _ _ => l.length - (intOf i).toNat)
    case atStart => exact ⟨0, rfl, by omega, by omega, HST.out, Below.refl _ _⟩
    case round =>
      obtain ⟨i, rfl, hi0, hi1, HI, HB⟩ := hrel
      by_cases hlt : i < (l.length : Int)
      · obtain ⟨ad, hAd, x0⟩ := Kd.at_string (Kd.C_below HCa.out HB.out) i hi0 hlt
        have hlt2 : i < (m.length : Int) := by have := HL.out; omega
        obtain ⟨bd, hBd, y0⟩ := Kd.at_string (Kd.C_below HCb.out HB.out) i hi0 hlt2
        have hstep := Lib.hid (eqS_from l m HL.out i hi0 hlt)
        unfold rdS at hstep
        obtain ⟨x, hx⟩ : ∃ x, x = rdOf ByteArray.empty l i := ⟨_, rfl⟩
        obtain ⟨y, hy⟩ : ∃ y, y = rdOf ByteArray.empty m i := ⟨_, rfl⟩
        rw [← hx, ← hy] at hstep
        rw [← hx] at x0
        rw [← hy] at y0
        rw [hAd, hBd]
        clear hx hy hAd hBd
        obtain ⟨r, hr⟩ : ∃ r, (x.toList == y.toList) = r := ⟨_, rfl⟩
        rw [hr] at hstep
        cases r
        · have hr' : (x.toList != y.toList) = true := by unfold bne; rw [hr]; rfl
          have HR := Lib.hid (show eqS l m = false from by rw [HI.out, hstep.out]; rfl)
          go_wp2
          go_quiet (fail)
          go_wp2
          go_ret
          exact ⟨by rw [HR.out]; rfl, by first | exact HB.out | exact below_drew HB.out | exact pw_below_drewN HB.out _⟩
        · have hr' : (x.toList != y.toList) = false := by unfold bne; rw [hr]; rfl
          have HN := Lib.hid (show eqS l m = eqS (l.drop (i + 1).toNat) (m.drop (i + 1).toNat) from by rw [HI.out, hstep.out]; rfl)
          go_wp2
          go_quiet (fail)
          go_wp2
          go_roundw
          case rel => exact ⟨i + 1, rfl, by omega, by omega, HN.out, by first | exact HB.out | exact below_drew HB.out | exact pw_below_drewN HB.out _⟩
          case measure => simp [intOf]; omega
      · have HR := Lib.hid (show eqS l m = true from by rw [HI.out]; exact eqS_end _ _ HL.out _ hlt)
        have hge : (l.length : Int) ≤ i := by omega
        clear hlt
        go_wp2
        go_ret
        exact ⟨by rw [HR.out]; rfl, HB.out⟩
  · have hl' : ((l.length : Int) != (m.length : Int)) = true := by rw [bne_iff_ne]; omega
    have HR := Lib.hid (eqS_len l m hl)
    clear hl
    go_wp2
    go_ret
    exact ⟨by rw [HR.out]; rfl, Below.refl _ _⟩
end Go.Proofs.Ytofinglgnkdflaa
end
section
namespace Go.Proofs.Ytofinglgnkdflaa
open Go.RowKit
open Go.Proofs.Ytofinglgnkdflaa.PHistoryChecks Go.Proofs.YtofinglgnkdflaaW.PrintWords Go.Proofs.YtofinglgnkdflaaW.PrintLast Go.Proofs.YtofinglgnkdflaaW.PrintMore
set_option linter.unusedVariables false
set_option linter.unusedSimpArgs false
def sameC (a b : S50) : Bool := decide (a.f0 = b.f0) && (decide (a.f1 = b.f1) && ((a.f2.toList == b.f2.toList) && (decide (a.f4 = b.f4) && (decide (a.f5 = b.f5) && (sameV a.f3 b.f3 && sameV a.f6 b.f6)))))
def sameCL : List S50 → List S50 → Bool
  | [], [] => true
  | x :: l, y :: m => sameC x y && sameCL l m
  | [], _ :: _ => false
  | _ :: _, [] => false
theorem sameCL_len (l m : List S50) (h : l.length ≠ m.length) : sameCL l m = false := by
  induction l generalizing m with
  | nil => cases m with
    | nil => simp at h
    | cons y m => rfl
  | cons x l ih => cases m with
    | nil => rfl
    | cons y m => simp only [sameCL]; rw [ih m (by simpa using h), Bool.and_false]
theorem sameCL_from (l m : List S50) (h : l.length = m.length) (i : Int) (h0 : 0 ≤ i) (h1 : i < (l.length : Int)) :
    sameCL (l.drop i.toNat) (m.drop i.toNat) = (sameC (rd_T50 l i) (rd_T50 m i) && sameCL (l.drop (i + 1).toNat) (m.drop (i + 1).toNat)) := by
  have hn : i.toNat < l.length := by omega
  have hm : i.toNat < m.length := by omega
  have e : (i + 1).toNat = i.toNat + 1 := by omega
  rw [e, List.drop_eq_getElem_cons hn, List.drop_eq_getElem_cons hm]
  simp only [sameCL]
  unfold rd_T50
  rw [List.getD_eq_getElem?_getD, List.getElem?_eq_getElem hn, List.getD_eq_getElem?_getD, List.getElem?_eq_getElem hm]; rfl
theorem sameCL_end (l m : List S50) (h : l.length = m.length) (i : Int) (h1 : ¬ i < (l.length : Int)) : sameCL (l.drop i.toNat) (m.drop i.toNat) = true := by
  rw [List.drop_eq_nil_of_le (by omega), List.drop_eq_nil_of_le (by omega)]; rfl
structure Two (w : World) (g : Nat) (o1 o2 : Array Value) (t1 t2 : TypeId) : Prop where
  a : w.heap[g]? = some (.cells o1 t1 (0, 0))
  b : w.heap[g + 1]? = some (.cells o2 t2 (0, 0))
theorem Two.of (W : World) (o1 o2 : Array Value) (t1 t2 : TypeId) : Two ((W.alloc (.cells o1 t1)).alloc (.cells o2 t2)) W.heap.size o1 o2 t1 t2 :=
  ⟨blk_alloc (heap_alloc_new W _) _, by have h := heap_alloc_new (W.alloc (.cells o1 t1)) (.cells o2 t2); rw [alloc_size] at h; exact h⟩
theorem Two.below {w w1 : World} {g : Nat} {o1 o2 : Array Value} {t1 t2 : TypeId} (h : Two w g o1 o2 t1 t2) (hb : Below w.heap.size w w1) : Two w1 g o1 o2 t1 t2 :=
  ⟨(hb.block _ (blk_lt h.a)).trans h.a, (hb.block _ (blk_lt h.b)).trans h.b⟩
theorem Two.ca {w : World} {g : Nat} {o1 o2 : Array Value} {t1 t2 : TypeId} (h : Two w g o1 o2 t1 t2) (j : Nat) (v : Value) (hv : o1[j]? = some v) : w.cell? ⟨g, j, none⟩ = some v := (blk_cell h.a j).trans hv
theorem Two.cb {w : World} {g : Nat} {o1 o2 : Array Value} {t1 t2 : TypeId} (h : Two w g o1 o2 t1 t2) (j : Nat) (v : Value) (hv : o2[j]? = some v) : w.cell? ⟨g + 1, j, none⟩ = some v := (blk_cell h.b j).trans hv
structure RdC (W : World) (x : S50) (A : Option Addr) (c : Nat) (B : Option Addr) (d : Nat) : Prop where
  a : Kd.C k43 W A x.f3.f4.length x.f3.f4
  ac : x.f3.f4.length ≤ c
  b : Kd.C k43 W B x.f6.f4.length x.f6.f4
  bc : x.f6.f4.length ≤ d
theorem RdC.below {W w1 : World} {x : S50} {A B : Option Addr} {c d : Nat} (h : RdC W x A c B d) (hb : Below W.heap.size W w1) : RdC w1 x A c B d := ⟨Kd.C_below h.a hb, h.ac, Kd.C_below h.b hb, h.bc⟩
set_option maxHeartbeats 4000000 in
set_option maxRecDepth 100000 in
theorem equalc_any (x y : S50) (A B A' B' : Option Addr) (c d c' d' : Nat) (W : World) (hx : RdC W x A c B d) (hy : RdC W y A' c' B' d') :
    Calls Try.prog 93 #[.agg (c50 x A c B d), .agg (c50 y A' c' B' d')] W (fun e w' => e = .returned (.bool (sameC x y)) ∧ Below W.heap.size W w') := by
  have HE := Lib.hid (show sameC x y = (decide (x.f0 = y.f0) && (decide (x.f1 = y.f1) && ((x.f2.toList == y.f2.toList) && (decide (x.f4 = y.f4) && (decide (x.f5 = y.f5) && (sameV x.f3 y.f3 && sameV x.f6 y.f6)))))) from rfl)
  have HQ := Lib.hid (fun W1 (h : Below W.heap.size W W1) => same_any (nd x.f3) x.f3 (Nat.le_refl _) y.f3 A A' c c' W1 (Kd.C_below hx.a h) hx.ac (Kd.C_below hy.a h) hy.ac)
  have HP := Lib.hid (fun W1 (h : Below W.heap.size W W1) => same_any (nd x.f6) x.f6 (Nat.le_refl _) y.f6 B B' d d' W1 (Kd.C_below hx.b h) hx.bc (Kd.C_below hy.b h) hy.bc)
  unfold SameP v43 at HQ HP
  obtain ⟨s3, hs3⟩ : ∃ r, r = sameV x.f3 y.f3 := ⟨_, rfl⟩
  obtain ⟨s6, hs6⟩ : ∃ r, r = sameV x.f6 y.f6 := ⟨_, rfl⟩
  rw [← hs3] at HE HQ
  rw [← hs6] at HE HP
  have HB0 := Lib.hid (below_alloc (below_alloc (Below.refl W.heap.size W) (.cells (c50 x A c B d) 50)) (.cells (c50 y A' c' B' d') 50))
  have HT := Lib.hid (Two.of W (c50 x A c B d) (c50 y A' c' B' d') 50 50)
  unfold c50 at HB0 HT ⊢
  obtain ⟨te, hte⟩ : ∃ te, (x.f2.toList == y.f2.toList) = te := ⟨_, rfl⟩
  rw [hte] at HE
  clear hs3 hs6 hx hy
  go_enter Try.func93, Try.ntmps93
  by_cases h0 : x.f0 = y.f0
  · have h0' : (x.f0 == y.f0) = true := by rw [beq_iff_eq]; exact h0
    by_cases h1 : x.f1 = y.f1
    · have h1' : (x.f1 == y.f1) = true := by rw [beq_iff_eq]; exact h1
      cases te
      · have HR := Lib.hid (show sameC x y = false from by rw [HE.out]; simp)
        clear h0 h1 HE HQ HP
        go_wp2
        go_ret
        exact ⟨by rw [HR.out]; rfl, HB0.out⟩
      · by_cases h4 : x.f4 = y.f4
        · have h4' : (x.f4 == y.f4) = true := by rw [beq_iff_eq]; exact h4
          by_cases h5 : x.f5 = y.f5
          · have h5' : (x.f5 == y.f5) = true := by rw [beq_iff_eq]; exact h5
            have HR := Lib.hid (show sameC x y = (s3 && s6) from by rw [HE.out, decide_eq_true h0, decide_eq_true h1, decide_eq_true h4, decide_eq_true h5]; rfl)
            clear h0 h1 h4 h5 HE
            go_wp2_with fail
            refine (HQ.out _ HB0.out).mono ?_
            rintro e w1 ⟨rfl, hb1⟩
            have HW := Lib.hid (show Below W.heap.size W w1 from HB0.out.trans (hb1.mono HB0.out.size))
            have HT1 := HT.out.below hb1
            have a10 := HT1.ca 10 _ rfl
            have a11 := HT1.ca 11 _ rfl
            have a12 := HT1.ca 12 _ rfl
            have a13 := HT1.ca 13 _ rfl
            have a14 := HT1.ca 14 _ rfl
            have b10 := HT1.cb 10 _ rfl
            have b11 := HT1.cb 11 _ rfl
            have b12 := HT1.cb 12 _ rfl
            have b13 := HT1.cb 13 _ rfl
            have b14 := HT1.cb 14 _ rfl
            clear hb1 HT1
            cases s3
            · go_wp2
              go_ret
              exact ⟨by rw [HR.out]; rfl, HW.out⟩
            · go_wp2_with fail
              refine (HP.out _ HW.out).mono ?_
              rintro e w2 ⟨rfl, hb2⟩
              have HW2 := Lib.hid (show Below W.heap.size W w2 from HW.out.trans (hb2.mono HW.out.size))
              clear hb2
              go_wp2
              go_ret
              exact ⟨by rw [HR.out]; rfl, HW2.out⟩
          · have h5' : (x.f5 == y.f5) = false := by rw [beq_eq_false_iff_ne]; exact h5
            have HR := Lib.hid (show sameC x y = false from by rw [HE.out, decide_eq_false h5]; simp)
            clear h0 h1 h4 h5 HE HQ HP
            go_wp2
            go_ret
            exact ⟨by rw [HR.out]; rfl, HB0.out⟩
        · have h4' : (x.f4 == y.f4) = false := by rw [beq_eq_false_iff_ne]; exact h4
          have HR := Lib.hid (show sameC x y = false from by rw [HE.out, decide_eq_false h4]; simp)
          clear h0 h1 h4 HE HQ HP
          go_wp2
          go_ret
          exact ⟨by rw [HR.out]; rfl, HB0.out⟩
    · have h1' : (x.f1 == y.f1) = false := by rw [beq_eq_false_iff_ne]; exact h1
      have HR := Lib.hid (show sameC x y = false from by rw [HE.out, decide_eq_false h1]; simp)
      clear h0 h1 hte HE HQ HP
      go_wp2
      go_ret
      exact ⟨by rw [HR.out]; rfl, HB0.out⟩
  · have h0' : (x.f0 == y.f0) = false := by rw [beq_eq_false_iff_ne]; exact h0
    have HR := Lib.hid (show sameC x y = false from by rw [HE.out, decide_eq_false h0]; simp)
    clear h0 hte HE HQ HP
    go_wp2
    go_ret
    exact ⟨by rw [HR.out]; rfl, HB0.out⟩
set_option maxHeartbeats 4000000 in
set_option maxRecDepth 100000 in
theorem eqf50_any (l m : List S50) (A B : Option Addr) (c d : Nat) (W : World) (hCa : k50.C W A l.length l) (hc : l.length ≤ c) (hCb : k50.C W B m.length m) (hd : m.length ≤ d) :
    Calls Try.prog 92 #[.slice A l.length c, .slice B m.length d, .func (.func 93) #[] #[]] W (fun e w' => e = .returned (.bool (sameCL l m)) ∧ Below W.heap.size W w') := by
  have hla := Kd.C_max hCa
  have hlb := Kd.C_max hCb
  have HCa := Lib.hid hCa
  have HCb := Lib.hid hCb
  clear hCa hCb
  go_enter Try.func92, Try.ntmps92
  by_cases hl : l.length = m.length
  · have hl' : ((l.length : Int) != (m.length : Int)) = false := by rw [bne_eq_false_iff_eq]; omega
    have HL := Lib.hid hl
    have HST := Lib.hid (show sameCL l m = sameCL (l.drop (0 : Int).toNat) (m.drop (0 : Int).toNat) from rfl)
    clear hl
    go_wp2
    go_loopw [17, 8, 9, 7] (fun iv av bv nv wr => ∃ i : Int, iv = .int .i64 i ∧ 0 ≤ i ∧ i ≤ (l.length : Int) ∧ Hid (sameCL l m = sameCL (l.drop i.toNat) (m.drop i.toNat)) ∧ Hid (Below W.heap.size W wr)) (fun i _ _ _ _ => l.length - (intOf i).toNat)
    case atStart => exact ⟨0, rfl, by omega, by omega, HST.out, Below.refl _ _⟩
    case round =>
      obtain ⟨i, rfl, hi0, hi1, HI, HB⟩ := hrel
      by_cases hlt : i < (l.length : Int)
      · obtain ⟨ad, A7, c7, A14, c14, hAd, x0, x1, x2, x3, x4, x5, x6, x7, x8, x9, x10, x11, x12, x13, x14, hl7, hg7, hl14, hg14⟩ := at_T50 (Kd.C_below HCa.out HB.out) i hi0 hlt
        have hlt2 : i < (m.length : Int) := by have := HL.out; omega
        obtain ⟨bd, B7, d7, B14, d14, hBd, y0, y1, y2, y3, y4, y5, y6, y7, y8, y9, y10, y11, y12, y13, y14, ml7, mg7, ml14, mg14⟩ := at_T50 (Kd.C_below HCb.out HB.out) i hi0 hlt2
        have hcall := Lib.hid (fun W4 (h : Below wr.heap.size wr W4) => equalc_any (rd_T50 l i) (rd_T50 m i) A7 A14 B7 B14 c7 c14 d7 d14 W4 (RdC.below ⟨hg7, hl7, hg14, hl14⟩ h) (RdC.below ⟨mg7, ml7, mg14, ml14⟩ h))
        have hstep := Lib.hid (sameCL_from l m HL.out i hi0 hlt)
        have hyb := World.block_lt_of_cell? wr _ y0
        have hyb2 : bd.block < wr.heap.size := by rw [← add_block bd (i.toNat * 15)]; exact hyb
        obtain ⟨x, hx⟩ : ∃ x, x = rd_T50 l i := ⟨_, rfl⟩
        obtain ⟨y, hy⟩ : ∃ y, y = rd_T50 m i := ⟨_, rfl⟩
        rw [← hx, ← hy] at hcall hstep
        rw [← hx] at x0 x1 x2 x3 x4 x5 x6 x7 x8 x9 x10 x11 x12 x13 x14
        rw [← hy] at y0 y1 y2 y3 y4 y5 y6 y7 y8 y9 y10 y11 y12 y13 y14
        unfold c50 at hcall
        rw [hAd, hBd]
        have HB0 := Lib.hid (below_alloc (below_alloc (Below.refl wr.heap.size wr) (.cells (c50 x A7 c7 A14 c14) 50)) (.cells (c50 y B7 d7 B14 d14) 50))
        unfold c50 at HB0
        clear hx hy hg7 hg14 mg7 mg14 hl7 hl14 ml7 ml14 hAd hBd
        go_wp2_with fail
        refine (hcall.out _ HB0.out).mono ?_
        rintro e w1 ⟨rfl, hb1⟩
        have HW6 := Lib.hid (show Below W.heap.size W w1 from HB.out.trans ((HB0.out.trans (hb1.mono HB0.out.size)).mono HB.out.size))
        obtain ⟨r, hr⟩ : ∃ r, r = sameC x y := ⟨_, rfl⟩
        rw [← hr] at hstep ⊢
        clear hr hb1 x0 x1 x2 x3 x4 x5 x6 x7 x8 x9 x10 x11 x12 x13 x14 y0 y1 y2 y3 y4 y5 y6 y7 y8 y9 y10 y11 y12 y13 y14 hcall HB0
        cases r
        · have HR := Lib.hid (show sameCL l m = false from by rw [HI.out, hstep.out]; rfl)
          go_wp2
          go_ret
          exact ⟨by rw [HR.out]; rfl, HW6.out⟩
        · have HN := Lib.hid (show sameCL l m = sameCL (l.drop (i + 1).toNat) (m.drop (i + 1).toNat) from by rw [HI.out, hstep.out]; rfl)
          go_wp2
          go_roundw
          case rel => exact ⟨i + 1, rfl, by omega, by omega, HN.out, HW6.out⟩
          case measure => simp [intOf]; omega
      · have HR := Lib.hid (show sameCL l m = true from by rw [HI.out]; exact sameCL_end _ _ HL.out _ hlt)
        have hge : (l.length : Int) ≤ i := by omega
        clear hlt
        go_wp2
        go_ret
        exact ⟨by rw [HR.out]; rfl, HB.out⟩
  · have hl' : ((l.length : Int) != (m.length : Int)) = true := by rw [bne_iff_ne]; omega
    have HR := Lib.hid (sameCL_len l m hl)
    clear hl
    go_wp2
    go_ret
    exact ⟨by rw [HR.out]; rfl, Below.refl _ _⟩
def sameP (P Q : PastL) : Bool := eqS P.pr Q.pr && (eqS P.ob Q.ob && sameCL P.cl Q.cl)
set_option maxHeartbeats 4000000 in
theorem equal_any (W : World) (P Q : PastL) (R S : Rw3) (hP : RdP W P R) (hQ : RdP W Q S) :
    Calls Try.prog 64 #[.agg (cP P R), .agg (cP Q S)] W (fun e w' => e = .returned (.bool (sameP P Q)) ∧ Below W.heap.size W w') := by
  have H1 := Lib.hid (fun W1 (h : Below W.heap.size W W1) => strEq_any P.pr Q.pr R.a1 S.a1 R.c1 S.c1 W1 (Kd.C_below hP.pr h) hP.prc (Kd.C_below hQ.pr h) hQ.prc)
  have H2 := Lib.hid (fun W1 (h : Below W.heap.size W W1) => strEq_any P.ob Q.ob R.a2 S.a2 R.c2 S.c2 W1 (Kd.C_below hP.ob h) hP.obc (Kd.C_below hQ.ob h) hQ.obc)
  have H3 := Lib.hid (fun W1 (h : Below W.heap.size W W1) => eqf50_any P.cl Q.cl R.a3 S.a3 R.c3 S.c3 W1 (Kd.C_below hP.cl h) hP.clc (Kd.C_below hQ.cl h) hQ.clc)
  have HE := Lib.hid (show sameP P Q = (eqS P.pr Q.pr && (eqS P.ob Q.ob && sameCL P.cl Q.cl)) from rfl)
  obtain ⟨b1, h1⟩ : ∃ r, r = eqS P.pr Q.pr := ⟨_, rfl⟩
  obtain ⟨b2, h2⟩ : ∃ r, r = eqS P.ob Q.ob := ⟨_, rfl⟩
  obtain ⟨b3, h3⟩ : ∃ r, r = sameCL P.cl Q.cl := ⟨_, rfl⟩
  rw [← h1] at H1 HE
  rw [← h2] at H2 HE
  rw [← h3] at H3 HE
  have HB0 := Lib.hid (below_alloc (below_alloc (Below.refl W.heap.size W) (.cells (cP P R) 30)) (.cells (cP Q S) 30))
  have HT := Lib.hid (Two.of W (cP P R) (cP Q S) 30 30)
  unfold cP at HB0 HT ⊢
  clear h1 h2 h3 hP hQ
  go_enter Try.func64, Try.ntmps64
  go_wp2_with fail
  refine (H1.out _ HB0.out).mono ?_
  rintro e w1 ⟨rfl, hb1⟩
  have HW1 := Lib.hid (show Below W.heap.size W w1 from HB0.out.trans (hb1.mono HB0.out.size))
  have HT1 := Lib.hid (HT.out.below hb1)
  have a1 := HT1.out.ca 1 _ rfl
  have b1' := HT1.out.cb 1 _ rfl
  clear hb1
  cases b1
  · go_wp2
    go_ret
    exact ⟨by rw [HE.out]; rfl, HW1.out⟩
  · go_wp2_with fail
    refine (H2.out _ HW1.out).mono ?_
    rintro e w2 ⟨rfl, hb2⟩
    have HW2 := Lib.hid (show Below W.heap.size W w2 from HW1.out.trans (hb2.mono HW1.out.size))
    have HT2 := Lib.hid (HT1.out.below hb2)
    have a2 := HT2.out.ca 2 _ rfl
    have b2' := HT2.out.cb 2 _ rfl
    clear hb2
    cases b2
    · go_wp2
      go_ret
      exact ⟨by rw [HE.out]; rfl, HW2.out⟩
    · go_wp2_with fail
      refine (H3.out _ HW2.out).mono ?_
      rintro e w3 ⟨rfl, hb3⟩
      have HW3 := Lib.hid (show Below W.heap.size W w3 from HW2.out.trans (hb3.mono HW2.out.size))
      clear hb3
      go_wp2
      go_ret
      exact ⟨by rw [HE.out]; rfl, HW3.out⟩
end Go.Proofs.Ytofinglgnkdflaa
end
