/- Two rows of words are the same (words of the law of layer 7); Before of the reference; rows of words (plain). -/
import Derived.Test.YtofinglgnkdflaaJTa
import Derived.Test.YtofinglgnkdflaaJXH
import Derived.BigQuiet
namespace Go.Proofs.Ytofinglgnkdflaa
open Go.RowKit
open Go.Proofs.Ytofinglgnkdflaa.PHistoryChecks Go.Proofs.YtofinglgnkdflaaW.PrintWords Go.Proofs.YtofinglgnkdflaaW.PrintLast Go.Proofs.YtofinglgnkdflaaW.PrintMore
set_option linter.unusedVariables false
set_option linter.unusedSimpArgs false
theorem eqU_from (l m : List Int) (h : l.length = m.length) (i : Int) (h0 : 0 ≤ i) (h1 : i < (l.length : Int)) :
    (l.drop i.toNat == m.drop i.toNat) = ((rd l i == rd m i) && (l.drop (i + 1).toNat == m.drop (i + 1).toNat)) := by
  have hn : i.toNat < l.length := by omega
  have hm : i.toNat < m.length := by omega
  have e : (i + 1).toNat = i.toNat + 1 := by omega
  rw [e, List.drop_eq_getElem_cons hn, List.drop_eq_getElem_cons hm]
  unfold rd
  rw [List.getD_eq_getElem?_getD, List.getElem?_eq_getElem hn, List.getD_eq_getElem?_getD, List.getElem?_eq_getElem hm]; rfl
theorem eqU_len (l m : List Int) (h : l.length ≠ m.length) : (l == m) = false := by
  rw [beq_eq_false_iff_ne]; intro e; exact h (by rw [e])
theorem eqU_end (l m : List Int) (h : l.length = m.length) (i : Int) (h1 : ¬ i < (l.length : Int)) : (l.drop i.toNat == m.drop i.toNat) = true := by
  rw [List.drop_eq_nil_of_le (by omega), List.drop_eq_nil_of_le (by omega)]; rfl
set_option maxHeartbeats 4000000 in
theorem words_any (l m : List Int) (A B : Option Addr) (c d : Nat) (W : World) (hCa : (Kd.int .u64).C W A l.length l) (hCb : (Kd.int .u64).C W B m.length m) :
    Calls Try.prog 33 #[.slice A l.length c, .slice B m.length d] W (fun e w' => e = .returned (.bool (l == m)) ∧ Below W.heap.size W w') := by
  have hla := Kd.C_max hCa
  have hlb := Kd.C_max hCb
  have HCa := Lib.hid hCa
  have HCb := Lib.hid hCb
  clear hCa hCb
  go_enter Try.func33, Try.ntmps33
  by_cases hl : l.length = m.length
  · have hl' : ((l.length : Int) != (m.length : Int)) = false := by rw [bne_eq_false_iff_eq]; omega
    have HL := Lib.hid hl
    have HST := Lib.hid (show (l == m) = (l.drop (0 : Int).toNat == m.drop (0 : Int).toNat) from rfl)
    clear hl
    go_wp2
    go_loopw [5] (fun iv wr => ∃ i : Int, iv = .int .i64 i ∧ 0 ≤ i ∧ i ≤ (l.length : Int) ∧ Hid ((l == m) = (l.drop i.toNat == m.drop i.toNat)) ∧ Hid (Below W.heap.size W wr)) (fun i _ => l.length - (intOf i).toNat)
    case atStart => exact ⟨0, rfl, by omega, by omega, HST.out, Below.refl _ _⟩
    case round =>
      obtain ⟨i, rfl, hi0, hi1, HI, HB⟩ := hrel
      by_cases hlt : i < (l.length : Int)
      · obtain ⟨ad, hAd, x0⟩ := Kd.at_int (Kd.C_below HCa.out HB.out) i hi0 hlt
        have hlt2 : i < (m.length : Int) := by have := HL.out; omega
        obtain ⟨bd, hBd, y0⟩ := Kd.at_int (Kd.C_below HCb.out HB.out) i hi0 hlt2
        have hstep := Lib.hid (eqU_from l m HL.out i hi0 hlt)
        obtain ⟨x, hx⟩ : ∃ x, x = rd l i := ⟨_, rfl⟩
        obtain ⟨y, hy⟩ : ∃ y, y = rd m i := ⟨_, rfl⟩
        rw [← hx, ← hy] at hstep
        rw [← hx] at x0
        rw [← hy] at y0
        rw [hAd, hBd]
        clear hx hy hAd hBd
        obtain ⟨r, hr⟩ : ∃ r, (x == y) = r := ⟨_, rfl⟩
        rw [hr] at hstep
        cases r
        · have hr' : (x != y) = true := by unfold bne; rw [hr]; rfl
          have HR := Lib.hid (show (l == m) = false from by rw [HI.out, hstep.out]; rfl)
          go_wp2
          go_quiet (fail)
          go_wp2
          go_ret
          exact ⟨by rw [HR.out]; try rfl, by first | exact HB.out | exact below_drew HB.out | exact pw_below_drewN HB.out _⟩
        · have hr' : (x != y) = false := by unfold bne; rw [hr]; rfl
          go_wp2
          go_quiet (fail)
          go_wp2
          go_roundw
          case rel => exact ⟨i + 1, by first | rfl | (rw [w64_in _ (by omega)]), by omega, by omega, (show (l == m) = (l.drop (i + 1).toNat == m.drop (i + 1).toNat) from by rw [HI.out, hstep.out]; simp), by first | exact HB.out | exact below_drew HB.out | exact pw_below_drewN HB.out _⟩
          case measure => simp [intOf]; omega
      · have HE := Lib.hid (show (l == m) = true from by rw [HI.out, eqU_end l m HL.out i hlt])
        have hge : (l.length : Int) ≤ i := by omega
        clear hlt
        go_wp2
        go_ret
        exact ⟨by rw [HE.out]; try rfl, HB.out⟩
  · have hl' : ((l.length : Int) != (m.length : Int)) = true := by rw [bne_iff_ne]; omega
    have HL := Lib.hid (eqU_len l m hl)
    clear hl
    go_wp2
    go_ret
    exact ⟨by rw [HL.out]; try rfl, Below.refl _ _⟩
def intsOf (ws : List Nat) : List Int := ws.map (fun x : Nat => (x : Int))
def rowN (cl : List S50) (b : Int) (m : Nat) : Nat → List Nat
  | 0 => List.replicate m 0
  | a + 1 => if befB cl a b then Bt.putBit (rowN cl b m a) a else rowN cl b m a
theorem rowN_length (cl : List S50) (b : Int) (m : Nat) : ∀ k, (rowN cl b m k).length = m
  | 0 => by simp [rowN]
  | a + 1 => by
    unfold rowN
    split
    · unfold Bt.putBit; rw [List.length_set]; exact rowN_length cl b m a
    · exact rowN_length cl b m a
theorem wd_lt {ws : List Nat} (h : ∀ x ∈ ws, x < 18446744073709551616) (j : Nat) : Bt.wd ws j < 18446744073709551616 := by
  unfold Bt.wd
  by_cases hj : j < ws.length
  · rw [List.getD_eq_getElem?_getD, List.getElem?_eq_getElem hj]; exact h _ (List.getElem_mem hj)
  · rw [List.getD_eq_getElem?_getD, List.getElem?_eq_none (by omega)]; simp
theorem rowN_lt (cl : List S50) (b : Int) (m : Nat) : ∀ k, ∀ x ∈ rowN cl b m k, x < 18446744073709551616
  | 0 => fun x hx => by rw [List.eq_of_mem_replicate hx]; decide
  | a + 1 => by
    unfold rowN
    split
    · intro x hx
      unfold Bt.putBit at hx
      rcases List.mem_or_eq_of_mem_set hx with h1 | rfl
      · exact rowN_lt cl b m a x h1
      · exact Bt.or_lt (wd_lt (rowN_lt cl b m a) _) (Bt.bitOf_lt a)
    · exact rowN_lt cl b m a
theorem rowN_step (cl : List S50) (b : Int) (m : Nat) (i : Int) (h0 : 0 ≤ i) : rowN cl b m (i + 1).toNat = if befB cl i b then Bt.putBit (rowN cl b m i.toNat) i.toNat else rowN cl b m i.toNat := by
  obtain ⟨a, rfl⟩ := Int.eq_ofNat_of_zero_le h0
  rw [show ((a : Int) + 1).toNat = a + 1 by omega, Int.toNat_natCast]; rfl
theorem rowN_cut {cl : List S50} {b : Int} (m : Nat) {k : Nat} : ∀ n, k ≤ n → (∀ i : Nat, k ≤ i → i < n → befB cl i b = false) → rowN cl b m n = rowN cl b m k
  | 0, hk, _ => by rw [show k = 0 by omega]
  | n + 1, hk, h => by
    rcases Nat.lt_or_ge n k with h1 | h1
    · rw [show k = n + 1 by omega]
    · have e := rowN_cut m n h1 (fun i a b => h i a (by omega))
      rw [← e, rowN, h n h1 (by omega), if_neg (by simp)]
abbrev rowK : Kd (List Int) := Kd.slice 58 (Kd.int .u64)
def predR (cl : List S50) (n : Nat) : List (List Int) := (List.range n).map fun b : Nat => intsOf (rowN cl (b : Int) ((cl.length + 63) / 64) b)
def predQ (cl : List S50) (n : Nat) : List (List Int) := (List.range n).map fun b : Nat => intsOf (rowN cl (b : Int) ((cl.length + 63) / 64) cl.length)
theorem predR_length (cl : List S50) (n : Nat) : (predR cl n).length = n := by simp [predR]
theorem predQ_length (cl : List S50) (n : Nat) : (predQ cl n).length = n := by simp [predQ]
theorem predR_snoc (cl : List S50) (i : Int) (h0 : 0 ≤ i) : predR cl (i + 1).toNat = predR cl i.toNat ++ [intsOf (rowN cl i ((cl.length + 63) / 64) i.toNat)] := by
  obtain ⟨a, rfl⟩ := Int.eq_ofNat_of_zero_le h0
  rw [show ((a : Int) + 1).toNat = a + 1 by omega, Int.toNat_natCast]
  unfold predR; rw [List.range_succ, List.map_append]; rfl
theorem predQ_snoc (cl : List S50) (i : Int) (h0 : 0 ≤ i) : predQ cl (i + 1).toNat = predQ cl i.toNat ++ [intsOf (rowN cl i ((cl.length + 63) / 64) cl.length)] := by
  obtain ⟨a, rfl⟩ := Int.eq_ofNat_of_zero_le h0
  rw [show ((a : Int) + 1).toNat = a + 1 by omega, Int.toNat_natCast]
  unfold predQ; rw [List.range_succ, List.map_append]; rfl
theorem pred_same {cl : List S50} (h : ∀ a b : Nat, b ≤ a → a < cl.length → befB cl a b = false) : predR cl cl.length = predQ cl cl.length := by
  unfold predR predQ
  refine List.map_congr_left fun b hb => ?_
  rw [rowN_cut _ cl.length (by have := List.mem_range.1 hb; omega) (fun i h1 h2 => h i b h1 h2)]
set_option maxHeartbeats 4000000 in
set_option maxRecDepth 100000 in
theorem RBefore_any (W : World) (P : PastL) (R : Rw3) (a b : Int) (hR : RdP W P R) :
    Calls Try.prog 32 #[.agg (cP P R), .int .i64 a, .int .i64 b] W (fun e w' => e = .returned (.bool (befB P.cl a b)) ∧ Below W.heap.size W w') := by
  obtain ⟨r, hr⟩ : ∃ r, r = befB P.cl a b := ⟨_, rfl⟩
  rw [← hr]
  have HQ := Lib.hid hr
  have h3 := Lib.hid hR.cl
  obtain ⟨a1, c1, a2, c2, a3, c3⟩ := R
  have HB0 := Lib.hid (below_alloc (Below.refl W.heap.size W) (.cells (cP P ⟨a1, c1, a2, c2, a3, c3⟩) 30))
  unfold cP at HB0 ⊢
  obtain ⟨l, hle⟩ : ∃ l, l = P.cl := ⟨_, rfl⟩
  rw [← hle] at h3 HQ HB0 ⊢
  have hlm := Kd.C_max h3.out
  clear hR hr hle
  go_enter Try.func32, Try.ntmps32
  by_cases h : a < 0
  · have HR := Lib.hid (show r = false from by rw [HQ.out]; unfold befB; rw [decide_eq_false (show ¬ (0 ≤ a) by omega)]; simp)
    have hd : decide (a < 0) = true := decide_eq_true h
    clear h
    go_wp2
    go_ret
    exact ⟨by rw [HR.out]; try rfl, HB0.out⟩
  · have h0 : 0 ≤ a := by omega
    clear h
    by_cases h : b < 0
    · have HR := Lib.hid (show r = false from by rw [HQ.out]; unfold befB; rw [decide_eq_false (show ¬ (0 ≤ b) by omega)]; simp)
      have hd : decide (b < 0) = true := decide_eq_true h
      clear h
      go_wp2
      go_ret
      exact ⟨by rw [HR.out]; try rfl, HB0.out⟩
    · have h2 : 0 ≤ b := by omega
      clear h
      by_cases h : a ≥ (l.length : Int)
      · have HR := Lib.hid (show r = false from by rw [HQ.out]; unfold befB; rw [decide_eq_false (show ¬ (a < (l.length : Int)) by omega)]; simp)
        have hd : decide (a ≥ (l.length : Int)) = true := decide_eq_true h
        clear h
        go_wp2
        go_ret
        exact ⟨by rw [HR.out]; try rfl, HB0.out⟩
      · have h1 : a < (l.length : Int) := by omega
        clear h
        by_cases h : b ≥ (l.length : Int)
        · have HR := Lib.hid (show r = false from by rw [HQ.out]; unfold befB; rw [decide_eq_false (show ¬ (b < (l.length : Int)) by omega)]; simp)
          have hd : decide (b ≥ (l.length : Int)) = true := decide_eq_true h
          clear h
          go_wp2
          go_ret
          exact ⟨by rw [HR.out]; try rfl, HB0.out⟩
        · have h4 : b < (l.length : Int) := by omega
          clear h
          obtain ⟨ad, A7, c7, A14, c14, rfl, x0, x1, x2, x3, x4, x5, x6, x7, x8, x9, x10, x11, x12, x13, x14, _⟩ := at_T50 h3.out a h0 h1
          clear x0 x1 x2 x3 x4 x5 x6 x7 x8 x10 x11 x12 x13 x14
          obtain ⟨bd, B7, d7, B14, d14, hbd, y0, y1, y2, y3, y4, y5, y6, y7, y8, y9, y10, y11, y12, y13, y14, _⟩ := at_T50 h3.out b h2 h4
          cases hbd
          clear y0 y1 y2 y3 y4 y5 y6 y7 y9 y10 y11 y12 y13 y14
          have hyb : (ad.add (b.toNat * 15)).block < W.heap.size := by have h := World.block_lt_of_cell? W _ y8; exact h
          have hxb : (ad.add (a.toNat * 15)).block < W.heap.size := by have h := World.block_lt_of_cell? W _ x9; exact h
          have hab : ad.block < W.heap.size := by rw [← add_block ad (a.toNat * 15)]; exact hxb
          obtain ⟨fx, hfx⟩ : ∃ v, v = (rd_T50 l a).f5 := ⟨_, rfl⟩
          obtain ⟨fy, hfy⟩ : ∃ v, v = (rd_T50 l b).f4 := ⟨_, rfl⟩
          rw [← hfx] at x9
          rw [← hfy] at y8
          by_cases h5 : fx ≥ 0
          · have HR := Lib.hid (show r = decide (fx < fy) from by rw [HQ.out]; unfold befB; rw [decide_eq_true h0, decide_eq_true h1, decide_eq_true h2, decide_eq_true h4, ← hfx, decide_eq_true (show 0 ≤ fx from h5), ← hfy]; rfl)
            have hd : decide (fx ≥ 0) = true := decide_eq_true h5
            clear hfx hfy
            go_wp2
            go_quiet (fail)
            go_wp2
            go_ret
            exact ⟨by rw [HR.out]; try rfl, by first | exact HB0.out | exact below_drew HB0.out | exact pw_below_drewN HB0.out _⟩
          · have HR := Lib.hid (show r = false from by rw [HQ.out]; unfold befB; rw [← hfx, decide_eq_false (show ¬ 0 ≤ fx from h5)]; simp)
            have hd : decide (fx ≥ 0) = false := decide_eq_false h5
            clear h5 hfx hfy
            go_wp2
            go_quiet (fail)
            go_wp2
            go_ret
            exact ⟨by rw [HR.out]; try rfl, by first | exact HB0.out | exact below_drew HB0.out | exact pw_below_drewN HB0.out _⟩
end Go.Proofs.Ytofinglgnkdflaa
