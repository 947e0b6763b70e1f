/- Plain: the sums over the roots of unity, written out; their norms. -/
import Derived.Laws.ComplexArith
import Derived.Test.YtofinglgnkdflaaLXB
import Derived.Test.YtofinglgnkdflaaLXE
import Derived.Test.YtofinglgnkdflaaLXH
section
namespace Go.Proofs.Ytofinglgnkdflaa
open Ieee
set_option linter.unusedVariables false
set_option linter.unusedSimpArgs false
def fb (s : Bool) (v : Nat) : Nat := double.nearest s v 0
def FI (b : Nat) (n : Int) : Prop := ∃ (s : Bool) (v : Nat), b = fb s v ∧ v < 9007199254740992 ∧ n = if s then -(v : Int) else (v : Int)
theorem log2_up (v j : Nat) (h : v ≠ 0) : (v * 2 ^ j).log2 = v.log2 + j := by
  have hp : 0 < 2 ^ j := Nat.pow_pos (by decide)
  have h1 : v * 2 ^ j ≠ 0 := Nat.mul_ne_zero h (by omega)
  rw [Nat.log2_eq_iff h1]
  have h2 := Nat.log2_self_le h
  have h3 := @Nat.lt_log2_self v
  constructor
  · rw [Nat.pow_add]; exact Nat.mul_le_mul_right _ h2
  · rw [show v.log2 + j + 1 = (v.log2 + 1) + j by omega, Nat.pow_add]; exact (Nat.mul_lt_mul_right hp).2 h3
theorem cut_exact (way : Toward) (hw : way = .even ∨ way = .zero) (s : Bool) (q d : Nat) : way.cut s (q * 2 ^ d) d = q := by
  by_cases hq : q = 0
  · subst hq
    rcases hw with rfl | rfl
    · simp [Toward.cut, Nat.shiftLeft_eq]
    · simp [Toward.cut]
  · have h1 : min d ((q * 2 ^ d).log2 + 2) = d := by rw [log2_up q d hq]; omega
    have hp : 0 < 2 ^ d := Nat.pow_pos (by decide)
    unfold Toward.cut
    rw [h1, Nat.shiftLeft_eq, Nat.one_mul]
    have h2 : q * 2 ^ d / 2 ^ d = q := Nat.mul_div_cancel _ hp
    have h3 : q * 2 ^ d % 2 ^ d = 0 := Nat.mul_mod_left _ _
    dsimp only
    rw [h2, h3]
    rcases hw with rfl | rfl
    · have h4 : (2 ^ d == 0) = false := by rw [beq_eq_false_iff_ne]; omega
      simp [h4]
    · rfl
theorem nearest_up (s : Bool) (v j : Nat) (hv : v < 9007199254740992) (h0 : v ≠ 0) : double.nearest s (v * 2 ^ j) (-(j : Int)) = double.word s (min ((v.log2 + 1022) * 4503599627370496 + v * 2 ^ (52 - v.log2)) double.infRung) := by
  have hp : 0 < 2 ^ j := Nat.pow_pos (by decide)
  have h1 : v * 2 ^ j ≠ 0 := Nat.mul_ne_zero h0 (by omega)
  have hk : v.log2 ≤ 52 := by
    have h2 := Nat.log2_self_le h0
    rcases Nat.lt_or_ge 52 v.log2 with h | h
    · have h5 : 2 ^ 53 ≤ 2 ^ v.log2 := Nat.pow_le_pow_right (by decide) h
      have h6 : (2 : Nat) ^ 53 = 9007199254740992 := by decide
      omega
    · exact h
  unfold Format.nearest
  rw [if_neg h1, log2_up v j h0]
  have hl : double.leastPlace = -1074 := by decide
  have hf : double.fractionBits = 52 := rfl
  have hL : max (-(j : Int) + ((v.log2 + j : Nat) : Int) - (double.fractionBits : Int)) double.leastPlace = -((52 - v.log2 : Nat) : Int) := by rw [hl, hf]; omega
  simp only [hL]
  have hb : double.binade = 4503599627370496 := by decide
  rw [hb, hl]
  have e1 : (-((52 - v.log2 : Nat) : Int) - -1074).toNat = v.log2 + 1022 := by omega
  rw [e1]
  congr 3
  rcases Nat.le_total j (52 - v.log2) with hj | hj
  · have e2 : (-(j : Int) - -((52 - v.log2 : Nat) : Int)).toNat = (52 - v.log2) - j := by omega
    have e3 : (-((52 - v.log2 : Nat) : Int) - -(j : Int)).toNat = 0 := by omega
    rw [e2, e3, Nat.shiftLeft_eq, Nat.mul_assoc, ← Nat.pow_add, show j + (52 - v.log2 - j) = 52 - v.log2 by omega]
    have := cut_exact .even (.inl rfl) s (v * 2 ^ (52 - v.log2)) 0
    simpa using this
  · have e2 : (-(j : Int) - -((52 - v.log2 : Nat) : Int)).toNat = 0 := by omega
    have e3 : (-((52 - v.log2 : Nat) : Int) - -(j : Int)).toNat = j - (52 - v.log2) := by omega
    rw [e2, e3, Nat.shiftLeft_eq, Nat.pow_zero, Nat.mul_one]
    have e4 : v * 2 ^ j = (v * 2 ^ (52 - v.log2)) * 2 ^ (j - (52 - v.log2)) := by rw [Nat.mul_assoc, ← Nat.pow_add, show 52 - v.log2 + (j - (52 - v.log2)) = j by omega]
    rw [e4]
    exact cut_exact .even (.inl rfl) s _ _
theorem nearest_fb (s : Bool) (v j : Nat) (hv : v < 9007199254740992) : double.nearest s (v * 2 ^ j) (-(j : Int)) = fb s v := by
  by_cases h0 : v = 0
  · subst h0; simp [fb, Format.nearest]
  · rw [nearest_up s v j hv h0]
    have := nearest_up s v 0 hv h0
    simp only [Nat.pow_zero, Nat.mul_one] at this
    exact this.symm
theorem read_fb (s : Bool) (v : Nat) (hv : v < 9007199254740992) : ∃ j : Nat, double.read (fb s v) = .number s (v * 2 ^ j) (-(j : Int)) := by
  by_cases h0 : v = 0
  · subst h0
    obtain ⟨j, hj⟩ : ∃ j : Nat, j = 1074 := ⟨_, rfl⟩
    refine ⟨j, ?_⟩
    rw [Nat.zero_mul, hj]
    cases s <;> rfl
  · refine ⟨52 - v.log2, ?_⟩
    have hfb : fb s v = double.word s (min ((v.log2 + 1022) * 4503599627370496 + v * 2 ^ (52 - v.log2)) double.infRung) := by
      have := nearest_up s v 0 hv h0
      simp only [Nat.pow_zero, Nat.mul_one] at this
      exact this
    have h2 := Nat.log2_self_le h0
    have h3 := @Nat.lt_log2_self v
    have hk : v.log2 ≤ 52 := by
      rcases Nat.lt_or_ge 52 v.log2 with h | h
      · have h5 : 2 ^ 53 ≤ 2 ^ v.log2 := Nat.pow_le_pow_right (by decide) h
        have h6 : (2 : Nat) ^ 53 = 9007199254740992 := by decide
        omega
      · exact h
    have m1 : 4503599627370496 ≤ v * 2 ^ (52 - v.log2) := by
      have h7 : 2 ^ v.log2 * 2 ^ (52 - v.log2) ≤ v * 2 ^ (52 - v.log2) := Nat.mul_le_mul_right _ h2
      rw [← Nat.pow_add, show v.log2 + (52 - v.log2) = 52 by omega] at h7
      have h6 : (2 : Nat) ^ 52 = 4503599627370496 := by decide
      omega
    have m2 : v * 2 ^ (52 - v.log2) < 9007199254740992 := by
      have h7 : v * 2 ^ (52 - v.log2) < 2 ^ (v.log2 + 1) * 2 ^ (52 - v.log2) := (Nat.mul_lt_mul_right (Nat.pow_pos (by decide))).2 h3
      rw [← Nat.pow_add, show v.log2 + 1 + (52 - v.log2) = 53 by omega] at h7
      have h6 : (2 : Nat) ^ 53 = 9007199254740992 := by decide
      omega
    obtain ⟨m, hm⟩ : ∃ m, m = v * 2 ^ (52 - v.log2) := ⟨_, rfl⟩
    obtain ⟨k, hkk⟩ : ∃ k, k = v.log2 := ⟨_, rfl⟩
    rw [← hm] at m1 m2 hfb ⊢
    rw [← hkk] at hk hfb ⊢
    have hi : double.infRung = 9218868437227405312 := by decide
    have hmin : min ((k + 1022) * 4503599627370496 + m) double.infRung = (k + 1022) * 4503599627370496 + m := by rw [hi]; omega
    rw [hmin] at hfb
    have hsw : double.signWeight = 9223372036854775808 := by decide
    have hb : double.binade = 4503599627370496 := by decide
    have hl : double.leastPlace = -1074 := by decide
    have hr : fb s v % 9223372036854775808 = (k + 1022) * 4503599627370496 + m := by
      rw [hfb]; unfold Format.word; rw [hsw]
      cases s <;> simp <;> omega
    have hn : (fb s v / 9223372036854775808 % 2 == 1) = s := by
      rw [hfb]; unfold Format.word; rw [hsw]
      cases s
      · rw [beq_eq_false_iff_ne]; simp; omega
      · rw [beq_iff_eq]; simp; omega
    unfold Format.read
    simp only [hsw, hb, hi, hl, hr, hn]
    rw [if_neg (by omega), if_pos (by omega)]
    congr 1
    · omega
    · omega
theorem FI.read {b : Nat} {n : Int} (h : FI b n) : ∃ (s : Bool) (v j : Nat), double.read b = .number s (v * 2 ^ j) (-(j : Int)) ∧ v < 9007199254740992 ∧ n = if s then -(v : Int) else (v : Int) := by
  obtain ⟨s, v, rfl, hv, hn⟩ := h
  obtain ⟨j, hj⟩ := read_fb s v hv
  exact ⟨s, v, j, hj, hv, hn⟩
theorem signed_up (s : Bool) (v j M : Nat) (h : j ≤ M) : signed s (v * 2 ^ j) (M - j) = (if s then -(v : Int) else (v : Int)) * ((2 ^ M : Nat) : Int) := by
  have e : (v * 2 ^ j) <<< (M - j) = v * 2 ^ M := by rw [Nat.shiftLeft_eq, Nat.mul_assoc, ← Nat.pow_add, show j + (M - j) = M by omega]
  unfold signed
  rw [e]
  cases s
  · simp only [Bool.false_eq_true, if_false]; rw [Int.natCast_mul]
  · simp only [if_true]; rw [Int.natCast_mul, Int.neg_mul]
theorem sum_exact {a b : Datum} {s t : Bool} {v u j i : Nat} (ha : a = .number s (v * 2 ^ j) (-(j : Int))) (hb : b = .number t (u * 2 ^ i) (-(i : Int))) {N : Int}
    (hN : N = (if s then -(v : Int) else (v : Int)) + (if t then -(u : Int) else (u : Int))) (hb2 : N.natAbs < 9007199254740992) : ∃ r, (a.sum b).map double.write = some r ∧ FI r N := by
  subst ha hb
  have hbase : min (-(j : Int)) (-(i : Int)) = -((max j i : Nat) : Int) := by omega
  have e1 : (-(j : Int) - -((max j i : Nat) : Int)).toNat = max j i - j := by omega
  have e2 : (-(i : Int) - -((max j i : Nat) : Int)).toNat = max j i - i := by omega
  simp only [Datum.sum, hbase, e1, e2, signed_up s v j _ (Nat.le_max_left j i), signed_up t u i _ (Nat.le_max_right j i), ← Int.add_mul, ← hN, Option.map_some]
  have hp : 0 < 2 ^ (max j i) := Nat.pow_pos (by decide)
  refine ⟨_, rfl, ?_⟩
  show FI (double.nearest _ (N * ((2 ^ max j i : Nat) : Int)).natAbs (-((max j i : Nat) : Int))) N
  rw [Int.natAbs_mul, Int.natAbs_natCast, nearest_fb _ _ _ hb2]
  refine ⟨_, _, rfl, hb2, ?_⟩
  by_cases h0 : N = 0
  · subst h0; simp
  · have h1 : N * ((2 ^ max j i : Nat) : Int) ≠ 0 := Int.mul_ne_zero h0 (by omega)
    rw [if_neg h1]
    by_cases hneg : N < 0
    · have h2 : N * ((2 ^ max j i : Nat) : Int) < 0 := Int.mul_neg_of_neg_of_pos hneg (by omega)
      rw [decide_eq_true h2]; simp; omega
    · have h2 : ¬ N * ((2 ^ max j i : Nat) : Int) < 0 := by
        have : 0 ≤ N * ((2 ^ max j i : Nat) : Int) := Int.mul_nonneg (by omega) (by omega)
        omega
      rw [decide_eq_false h2]; simp; omega
section
variable {a b : Nat} {m n : Int}
theorem FI.add (ha : FI a m) (hb : FI b n) (h : (m + n).natAbs < 9007199254740992) : ∃ r, floatBits .add .f64 a b = some r ∧ FI r (m + n) := by
  obtain ⟨s, v, j, ra, _, rfl⟩ := ha.read
  obtain ⟨t, u, i, rb, _, rfl⟩ := hb.read
  exact sum_exact ra rb rfl h
theorem FI.sub (ha : FI a m) (hb : FI b n) (h : (m - n).natAbs < 9007199254740992) : ∃ r, floatBits .sub .f64 a b = some r ∧ FI r (m - n) := by
  obtain ⟨s, v, j, ra, _, rfl⟩ := ha.read
  obtain ⟨t, u, i, rb, _, rfl⟩ := hb.read
  refine sum_exact (b := (double.read b).opposite) ra (by rw [rb]; rfl) ?_ h
  cases t <;> simp <;> omega
theorem FI.mul (ha : FI a m) (hb : FI b n) (h : (m * n).natAbs < 9007199254740992) : ∃ r, floatBits .mul .f64 a b = some r ∧ FI r (m * n) := by
  obtain ⟨s, v, j, ra, _, rfl⟩ := ha.read
  obtain ⟨t, u, i, rb, _, rfl⟩ := hb.read
  have e : (double.read a).product (double.read b) = some (.number (s ^^ t) (v * u * 2 ^ (j + i)) (-((j + i : Nat) : Int))) := by
    rw [ra, rb]
    simp only [Datum.product]
    have e1 : v * 2 ^ j * (u * 2 ^ i) = v * u * 2 ^ (j + i) := by rw [Nat.pow_add]; simp only [Nat.mul_assoc, Nat.mul_left_comm, Nat.mul_comm]
    rw [e1]
    congr 2
    omega
  have hvu : v * u < 9007199254740992 := by
    have : ((if s then -(v : Int) else (v : Int)) * (if t then -(u : Int) else (u : Int))).natAbs = v * u := by rw [Int.natAbs_mul]; cases s <;> cases t <;> simp
    omega
  refine ⟨double.nearest (s ^^ t) (v * u * 2 ^ (j + i)) (-((j + i : Nat) : Int)), ?_, ?_⟩
  · show ((double.read a).product (double.read b)).map double.write = _
    rw [e]; rfl
  · rw [nearest_fb _ _ _ hvu]
    refine ⟨_, _, rfl, hvu, ?_⟩
    cases s <;> cases t <;> simp [Int.neg_mul, Int.mul_neg]
end
theorem FI.of_int (n : Int) (h : n.natAbs < 9007199254740992) : FI (floatOfInt .f64 n) n := by
  refine ⟨decide (n < 0), n.natAbs, rfl, h, ?_⟩
  by_cases hn : n < 0
  · rw [decide_eq_true hn]; simp; omega
  · rw [decide_eq_false hn]; simp; omega
theorem FI.to_int {b : Nat} {n : Int} (h : FI b n) : floatToIntVal .f64 b .i64 = some n := by
  obtain ⟨s, v, j, rb, hv, hn⟩ := h.read
  have e : (FloatKind.f64.decode b).toInt .zero = some n := by
    show (double.read b).toInt .zero = some n
    rw [rb]
    unfold Datum.toInt Datum.integral
    have e1 : (-(j : Int)).toNat = 0 := by omega
    have e2 : (-(-(j : Int))).toNat = j := by omega
    simp only [e1, e2]
    rw [Nat.shiftLeft_eq, Nat.pow_zero, Nat.mul_one, cut_exact .zero (.inr rfl)]
    unfold signed
    rw [Nat.shiftLeft_eq, Nat.pow_zero, Nat.mul_one, hn]
  unfold floatToIntVal
  rw [e]
  show (if IntKind.i64.min ≤ n ∧ n ≤ IntKind.i64.max then some n else none) = some n
  have h1 : IntKind.i64.min = -9223372036854775808 := by decide
  have h2 : IntKind.i64.max = 9223372036854775807 := by decide
  rw [h1, h2, if_pos]
  cases s <;> simp at hn <;> omega
theorem FI.zero : FI 0 0 := ⟨false, 0, by decide, by decide, rfl⟩
theorem FI.one : FI 4607182418800017408 1 := ⟨false, 1, by decide, by decide, rfl⟩
theorem FI.cmul {a b c d : Nat} {p q r s : Int} (ha : FI a p) (hb : FI b q) (hc : FI c r) (hd : FI d s)
    (h1 : (p * r).natAbs < 4503599627370496) (h2 : (q * s).natAbs < 4503599627370496) (h3 : (p * s).natAbs < 4503599627370496) (h4 : (q * r).natAbs < 4503599627370496) :
    ∃ re im, cMulBits a b c d = some (re, im) ∧ FI re (p * r - q * s) ∧ FI im (p * s + q * r) := by
  obtain ⟨ac, e1, f1⟩ := ha.mul hc (by omega)
  obtain ⟨bd, e2, f2⟩ := hb.mul hd (by omega)
  obtain ⟨re, e3, f3⟩ := f1.sub f2 (by omega)
  obtain ⟨ad, e4, f4⟩ := ha.mul hd (by omega)
  obtain ⟨bc, e5, f5⟩ := hb.mul hc (by omega)
  obtain ⟨im, e6, f6⟩ := f4.add f5 (by omega)
  refine ⟨re, im, ?_, f3, f6⟩
  unfold cMulBits
  rw [e1, Option.bind_some, e2, Option.bind_some, e3, Option.bind_some, e4, Option.bind_some, e5, Option.bind_some, e6, Option.bind_some]
theorem FI.csum {a b c d : Nat} {p q r s : Int} (ha : FI a p) (hb : FI b q) (hc : FI c r) (hd : FI d s)
    (h1 : (p + r).natAbs < 9007199254740992) (h2 : (q + s).natAbs < 9007199254740992) :
    ∃ re im, cSumBits .add .f64 a b c d = some (re, im) ∧ FI re (p + r) ∧ FI im (q + s) := by
  obtain ⟨re, e1, f1⟩ := ha.add hc h1
  obtain ⟨im, e2, f2⟩ := hb.add hd h2
  refine ⟨re, im, ?_, f1, f2⟩
  unfold cSumBits
  rw [e1, Option.bind_some, e2, Option.bind_some]
end Go.Proofs.Ytofinglgnkdflaa
end
section
namespace Go.Proofs.Ytofinglgnkdflaa
open Go.RowKit
open Go.Proofs.Ytofinglgnkdflaa.PHistoryChecks Go.Proofs.YtofinglgnkdflaaW.PrintWords
set_option linter.unusedVariables false
set_option linter.unusedSimpArgs false
def ipow : Nat → Int × Int
  | 0 => (1, 0)
  | k + 1 => ((ipow k).1 * 0 - (ipow k).2 * 1, (ipow k).1 * 1 + (ipow k).2 * 0)
theorem ipow_small (k : Nat) : (ipow k).1.natAbs ≤ 1 ∧ (ipow k).2.natAbs ≤ 1 := by
  induction k with
  | zero => decide
  | succ k ih => simp only [ipow]; omega
def ipb : Nat → Nat × Nat
  | 0 => (4607182418800017408, 0)
  | k + 1 => (cMulBits (ipb k).1 (ipb k).2 0 4607182418800017408).getD (0, 0)
theorem ipb_FI (k : Nat) : FI (ipb k).1 (ipow k).1 ∧ FI (ipb k).2 (ipow k).2 ∧ cMulBits (ipb k).1 (ipb k).2 0 4607182418800017408 = some (ipb (k + 1)) := by
  have step : ∀ k, FI (ipb k).1 (ipow k).1 → FI (ipb k).2 (ipow k).2 → ∃ re im, cMulBits (ipb k).1 (ipb k).2 0 4607182418800017408 = some (re, im) ∧ FI re (ipow (k + 1)).1 ∧ FI im (ipow (k + 1)).2 := fun k h1 h2 => by
    have hs := ipow_small k
    exact FI.cmul h1 h2 FI.zero FI.one (by omega) (by omega) (by omega) (by omega)
  have both : ∀ k, FI (ipb k).1 (ipow k).1 ∧ FI (ipb k).2 (ipow k).2 := fun k => by
    induction k with
    | zero => exact ⟨FI.one, FI.zero⟩
    | succ k ih =>
      obtain ⟨re, im, h, f1, f2⟩ := step k ih.1 ih.2
      have e : ipb (k + 1) = (re, im) := by simp only [ipb]; rw [h]; rfl
      rw [e]; exact ⟨f1, f2⟩
  refine ⟨(both k).1, (both k).2, ?_⟩
  obtain ⟨re, im, h, _⟩ := step k (both k).1 (both k).2
  have e : ipb (k + 1) = (re, im) := by simp only [ipb]; rw [h]; rfl
  rw [e]; exact h
set_option maxHeartbeats 4000000 in
set_option maxRecDepth 100000 in
theorem power_q (n : Int) (q : Nat) (hq : (wrap64 (n.tmod 4 + 4)).tmod 4 = (q : Int)) (hq3 : q < 4) (W : World) :
    Calls Try.prog 76 #[.int .i64 n] W (fun e w' => e = .returned (.complex .f64 (ipb q).1 (ipb q).2) ∧ w' = W) := by
  have HQ := Lib.hid hq
  clear hq
  obtain ⟨f, hf⟩ : ∃ f, f = ipb := ⟨_, rfl⟩
  have HF := Lib.hid (show ∀ k, cMulBits (f k).1 (f k).2 0 4607182418800017408 = some (f (k + 1)) from fun k => by rw [hf]; exact (ipb_FI k).2.2)
  have HF0 := Lib.hid (show f 0 = (4607182418800017408, 0) from by rw [hf]; rfl)
  rw [← hf]
  clear hf
  go_enter Try.func76, Try.ntmps76
  go_wp2
  rw [HQ.out]
  clear HQ
  go_loopw [8, 3] (fun iv zv wr => ∃ (k : Nat) (re im : Nat), iv = .int .i64 k ∧ zv = .complex .f64 re im ∧ k ≤ q ∧ Hid (f k = (re, im)) ∧ wr = W) (fun i _ _ => q - (intOf i).toNat)
  case atStart => exact ⟨0, _, _, rfl, rfl, Nat.zero_le _, HF0.out, rfl⟩
  case round =>
    obtain ⟨k, re, im, rfl, rfl, hk, HK, rfl⟩ := hrel
    by_cases hlt : k < q
    · have hm := HF.out k
      obtain ⟨⟨re2, im2⟩, hp⟩ : ∃ p, p = f (k + 1) := ⟨_, rfl⟩
      rw [HK.out, ← hp] at hm
      have hmul := fun wx => run_complex_mul (P := Try.prog) wx 122 re im 0 4607182418800017408 re2 im2 hm
      have HK2 := Lib.hid hp.symm
      clear hm hp
      go_wp2
      go_roundw
      case rel => exact ⟨k + 1, re2, im2, by simp, rfl, hlt, HK2.out, by first | trivial | rfl⟩
      case measure => simp [intOf]; omega
    · have hk2 : k = q := by omega
      subst hk2
      go_wp2
      go_ret
      have hk3 := HK.out
      exact ⟨by rw [show f k = (re, im) from hk3]; rfl, rfl⟩
theorem power_any (W : World) (n : Int) (q : Nat) (hq : (wrap64 (n.tmod 4 + 4)).tmod 4 = (q : Int)) (hq3 : q < 4) :
    Calls Try.prog 76 #[.int .i64 n] W (fun e w' => ∃ re im, e = .returned (.complex .f64 re im) ∧ FI re (ipow q).1 ∧ FI im (ipow q).2 ∧ w' = W) :=
  (power_q n q hq hq3 W).mono fun e w' h => ⟨_, _, h.1, (ipb_FI q).1, (ipb_FI q).2.1, h.2⟩
end Go.Proofs.Ytofinglgnkdflaa
end
section
namespace Go.Proofs.Ytofinglgnkdflaa
open Go.RowKit
open Go.Proofs.Ytofinglgnkdflaa.PHistoryChecks Go.Proofs.YtofinglgnkdflaaW.PrintWords Go.Proofs.YtofinglgnkdflaaW.PrintLast Go.Proofs.YtofinglgnkdflaaW.PrintMore
set_option linter.unusedVariables false
set_option linter.unusedSimpArgs false
def gaussV (a b : Int) : S43 := ⟨3, a, b, ⟨#[]⟩, []⟩
set_option maxHeartbeats 4000000 in
set_option maxRecDepth 100000 in
theorem Gauss_any (W : World) (a b : Int) :
    Calls Try.prog 77 #[.int .i64 a, .int .i64 b] W (fun e w' => e = .returned (if partB a && partB b then .tuple #[v43 (gaussV a b) none 0, .int .i64 0] else .tuple #[v43 z43 none 0, .int .i64 42]) ∧ Below W.heap.size W w') := by
  have hA := heap_alloc_new W (.cells #[.int .i64 0, .int .i64 0, .int .i64 0, .string ⟨#[]⟩, .slice none 0 0] 43)
  have hB := below_alloc (Below.refl W.heap.size W) (.cells #[.int .i64 0, .int .i64 0, .int .i64 0, .string ⟨#[]⟩, .slice none 0 0] 43)
  have HA := Lib.hid hA
  have HB := Lib.hid hB
  have P1 := Lib.hid (part_any a)
  have P2 := Lib.hid (part_any b)
  obtain ⟨pa, hpa⟩ : ∃ p, partB a = p := ⟨_, rfl⟩
  obtain ⟨pb, hpb⟩ : ∃ p, partB b = p := ⟨_, rfl⟩
  obtain ⟨r, hr⟩ : ∃ r, r = (if partB a && partB b then Value.tuple #[v43 (gaussV a b) none 0, .int .i64 0] else .tuple #[v43 z43 none 0, .int .i64 42]) := ⟨_, rfl⟩
  rw [← hr]
  rw [hpa, hpb] at hr
  rw [hpa] at P1
  rw [hpb] at P2
  have HR := Lib.hid hr
  clear hA hB hpa hpb hr
  go_enter Try.func77, Try.ntmps77
  go_wp2_with fail
  obtain ⟨W1, hW1⟩ : ∃ W1, W1 = (W.alloc (.cells #[.int .i64 0, .int .i64 0, .int .i64 0, .string ⟨#[]⟩, .slice none 0 0] 43)) := ⟨_, rfl⟩
  rw [← hW1] at HA HB ⊢
  clear hW1
  have c0 : W1.cell? ⟨W.heap.size, 0, none⟩ = some (.int .i64 0) := (blk_cell HA.out 0).trans rfl
  have c1 : W1.cell? ⟨W.heap.size, 1, none⟩ = some (.int .i64 0) := (blk_cell HA.out 1).trans rfl
  have c2 : W1.cell? ⟨W.heap.size, 2, none⟩ = some (.int .i64 0) := (blk_cell HA.out 2).trans rfl
  have c3 : W1.cell? ⟨W.heap.size, 3, none⟩ = some (.string ⟨#[]⟩) := (blk_cell HA.out 3).trans rfl
  have c4 : W1.cell? ⟨W.heap.size, 4, none⟩ = some (.slice none 0 0) := (blk_cell HA.out 4).trans rfl
  have z0 := blk_frozen HA.out 0
  have z1 := blk_frozen HA.out 1
  have z2 := blk_frozen HA.out 2
  have z3 := blk_frozen HA.out 3
  have z4 := blk_frozen HA.out 4
  refine (P1.out _).mono ?_
  rintro e w1 ⟨rfl, rfl⟩
  cases pa
  · go_wp2
    obtain ⟨Wf, hWf⟩ : ∃ Wf, Wf = set5w W.heap.size 0 (.int .i64 0) (.int .i64 0) (.int .i64 0) (.string ⟨#[]⟩) (.slice none 0 0) W1 := ⟨_, rfl⟩
    change bodyPost _ _ _ _ _ (set5w W.heap.size 0 (.int .i64 0) (.int .i64 0) (.int .i64 0) (.string ⟨#[]⟩) (.slice none 0 0) W1)
    rw [← hWf]
    have hRf : Wf.heap[W.heap.size]? = some (.cells #[.int .i64 0, .int .i64 0, .int .i64 0, .string ⟨#[]⟩, .slice none 0 0] 43 (0, 0)) := by rw [hWf]; exact set5w_at _ _ _ _ _ _ _ _ _ _ HA.out
    have t0 : Wf.cell? ⟨W.heap.size, 0, none⟩ = some (.int .i64 0) := (blk_cell hRf 0).trans rfl
    have t1 : Wf.cell? ⟨W.heap.size, 1, none⟩ = some (.int .i64 0) := (blk_cell hRf 1).trans rfl
    have t2 : Wf.cell? ⟨W.heap.size, 2, none⟩ = some (.int .i64 0) := (blk_cell hRf 2).trans rfl
    have t3 : Wf.cell? ⟨W.heap.size, 3, none⟩ = some (.string ⟨#[]⟩) := (blk_cell hRf 3).trans rfl
    have t4 : Wf.cell? ⟨W.heap.size, 4, none⟩ = some (.slice none 0 0) := (blk_cell hRf 4).trans rfl
    have hBf : Below W.heap.size W Wf := by rw [hWf]; exact set5w_below HB.out _ _ (Nat.le_refl _) _ _ _ _ _
    exact bodyPost_ret (v := .tuple #[.agg #[.int .i64 0, .int .i64 0, .int .i64 0, .string ⟨#[]⟩, .slice none 0 0], .int .i64 42]) (by simp [results, Try.results77, go_sem, t0, t1, t2, t3, t4]) rfl ⟨by rw [HR.out]; rfl, hBf⟩
  · go_wp2_with fail
    refine (P2.out _).mono ?_
    rintro e w1 ⟨rfl, rfl⟩
    cases pb
    · go_wp2
      obtain ⟨Wf, hWf⟩ : ∃ Wf, Wf = set5w W.heap.size 0 (.int .i64 0) (.int .i64 0) (.int .i64 0) (.string ⟨#[]⟩) (.slice none 0 0) W1 := ⟨_, rfl⟩
      change bodyPost _ _ _ _ _ (set5w W.heap.size 0 (.int .i64 0) (.int .i64 0) (.int .i64 0) (.string ⟨#[]⟩) (.slice none 0 0) W1)
      rw [← hWf]
      have hRf : Wf.heap[W.heap.size]? = some (.cells #[.int .i64 0, .int .i64 0, .int .i64 0, .string ⟨#[]⟩, .slice none 0 0] 43 (0, 0)) := by rw [hWf]; exact set5w_at _ _ _ _ _ _ _ _ _ _ HA.out
      have t0 : Wf.cell? ⟨W.heap.size, 0, none⟩ = some (.int .i64 0) := (blk_cell hRf 0).trans rfl
      have t1 : Wf.cell? ⟨W.heap.size, 1, none⟩ = some (.int .i64 0) := (blk_cell hRf 1).trans rfl
      have t2 : Wf.cell? ⟨W.heap.size, 2, none⟩ = some (.int .i64 0) := (blk_cell hRf 2).trans rfl
      have t3 : Wf.cell? ⟨W.heap.size, 3, none⟩ = some (.string ⟨#[]⟩) := (blk_cell hRf 3).trans rfl
      have t4 : Wf.cell? ⟨W.heap.size, 4, none⟩ = some (.slice none 0 0) := (blk_cell hRf 4).trans rfl
      have hBf : Below W.heap.size W Wf := by rw [hWf]; exact set5w_below HB.out _ _ (Nat.le_refl _) _ _ _ _ _
      exact bodyPost_ret (v := .tuple #[.agg #[.int .i64 0, .int .i64 0, .int .i64 0, .string ⟨#[]⟩, .slice none 0 0], .int .i64 42]) (by simp [results, Try.results77, go_sem, t0, t1, t2, t3, t4]) rfl ⟨by rw [HR.out]; rfl, hBf⟩
    · go_wp2
      obtain ⟨Wf, hWf⟩ : ∃ Wf, Wf = set5w W.heap.size 0 (.int .i64 3) (.int .i64 a) (.int .i64 b) (.string ⟨#[]⟩) (.slice none 0 0) W1 := ⟨_, rfl⟩
      change bodyPost _ _ _ _ _ (set5w W.heap.size 0 (.int .i64 3) (.int .i64 a) (.int .i64 b) (.string ⟨#[]⟩) (.slice none 0 0) W1)
      rw [← hWf]
      have hRf : Wf.heap[W.heap.size]? = some (.cells #[.int .i64 3, .int .i64 a, .int .i64 b, .string ⟨#[]⟩, .slice none 0 0] 43 (0, 0)) := by rw [hWf]; exact set5w_at _ _ _ _ _ _ _ _ _ _ HA.out
      have t0 : Wf.cell? ⟨W.heap.size, 0, none⟩ = some (.int .i64 3) := (blk_cell hRf 0).trans rfl
      have t1 : Wf.cell? ⟨W.heap.size, 1, none⟩ = some (.int .i64 a) := (blk_cell hRf 1).trans rfl
      have t2 : Wf.cell? ⟨W.heap.size, 2, none⟩ = some (.int .i64 b) := (blk_cell hRf 2).trans rfl
      have t3 : Wf.cell? ⟨W.heap.size, 3, none⟩ = some (.string ⟨#[]⟩) := (blk_cell hRf 3).trans rfl
      have t4 : Wf.cell? ⟨W.heap.size, 4, none⟩ = some (.slice none 0 0) := (blk_cell hRf 4).trans rfl
      have hBf : Below W.heap.size W Wf := by rw [hWf]; exact set5w_below HB.out _ _ (Nat.le_refl _) _ _ _ _ _
      exact bodyPost_ret (v := .tuple #[.agg #[.int .i64 3, .int .i64 a, .int .i64 b, .string ⟨#[]⟩, .slice none 0 0], .int .i64 0]) (by simp [results, Try.results77, go_sem, t0, t1, t2, t3, t4]) rfl ⟨by rw [HR.out]; rfl, hBf⟩
end Go.Proofs.Ytofinglgnkdflaa
end
section
namespace Go.Proofs.Ytofinglgnkdflaa
open Go.RowKit
open Go.Proofs.Ytofinglgnkdflaa.PHistoryChecks Go.Proofs.YtofinglgnkdflaaW.PrintWords Go.Proofs.YtofinglgnkdflaaW.PrintLast Go.Proofs.YtofinglgnkdflaaW.PrintMore
set_option linter.unusedVariables false
set_option linter.unusedSimpArgs false
def sumJ (c : List Int) (j : Nat) : Nat → Int × Int
  | 0 => (0, 0)
  | r + 1 => ((sumJ c j r).1 + (rd c r * (ipow (j * r % 4)).1 - 0 * (ipow (j * r % 4)).2), (sumJ c j r).2 + (rd c r * (ipow (j * r % 4)).2 + 0 * (ipow (j * r % 4)).1))
def okCs (c : List Int) : Prop := c.length = 4 ∧ ∀ i : Int, 0 ≤ i → i < 4 → 0 ≤ rd c i ∧ rd c i ≤ 262144
def sumV (c : List Int) (j : Nat) : S43 := gaussV (sumJ c j 4).1 (sumJ c j 4).2
def sumL (c : List Int) (j : Nat) : List S43 := (List.range j).map (sumV c)
theorem pw_q (j r : Nat) (hj : j < 4) (hr : r < 4) : (wrap64 ((wrap64 ((j : Int) * (r : Int))).tmod 4 + 4)).tmod 4 = ((j * r % 4 : Nat) : Int) := by
  have h1 : j = 0 ∨ j = 1 ∨ j = 2 ∨ j = 3 := by omega
  have h2 : r = 0 ∨ r = 1 ∨ r = 2 ∨ r = 3 := by omega
  rcases h1 with rfl | rfl | rfl | rfl <;> rcases h2 with rfl | rfl | rfl | rfl <;> decide +kernel
theorem part_mul {n a : Int} (hn : 0 ≤ n ∧ n ≤ 262144) (ha : a.natAbs ≤ 1) : (n * a).natAbs ≤ 262144 := by
  rw [Int.natAbs_mul]
  have h1 : n.natAbs ≤ 262144 := by omega
  calc n.natAbs * a.natAbs ≤ 262144 * 1 := Nat.mul_le_mul h1 ha
    _ = 262144 := rfl
theorem sumJ_small {c : List Int} (hc : okCs c) (j : Nat) : ∀ r, r ≤ 4 → (sumJ c j r).1.natAbs ≤ r * 262144 ∧ (sumJ c j r).2.natAbs ≤ r * 262144 := by
  intro r
  induction r with
  | zero => intro _; exact ⟨Nat.le_refl _, Nat.le_refl _⟩
  | succ r ih =>
    intro hr
    have h1 := ih (by omega)
    have h2 := hc.2 r (by omega) (by omega)
    have h3 := ipow_small (j * r % 4)
    have h4 := part_mul h2 h3.1
    have h5 := part_mul h2 h3.2
    simp only [sumJ]
    omega
theorem sum_part {c : List Int} (hc : okCs c) (j : Nat) : partB (sumJ c j 4).1 = true ∧ partB (sumJ c j 4).2 = true := by
  have := sumJ_small hc j 4 (Nat.le_refl _)
  unfold partB
  simp only [Bool.and_eq_true, decide_eq_true_eq]
  omega
def SumsP (c : List Int) (W : World) (e : Ending) (w' : World) : Prop :=
  Below W.heap.size W w' ∧ ((¬ okCs c ∧ e = .returned (.tuple #[.slice none 0 0, .int .i64 2])) ∨ (okCs c ∧ ∃ v, e = .returned (.tuple #[v, .int .i64 0]) ∧ k43.R 43 w' W.heap.size (fun _ => True) v (sumL c 4)))
theorem sums_bad {c : List Int} {W w' : World} (h : ¬ okCs c) (hb : Below W.heap.size W w') : SumsP c W (.returned (.tuple #[.slice none 0 0, .int .i64 2])) w' := ⟨hb, .inl ⟨h, rfl⟩⟩
theorem under123 : Try.prog.underlying 123 = some (.float .f64) := by kernel_rfl
theorem under3s : (Try.prog.underlying 3).isSome = true := by kernel_rfl
theorem under123s : (Try.prog.underlying 123).isSome = true := by kernel_rfl
theorem under2' : Try.prog.underlying 2 = some (.int .i64) := by kernel_rfl
theorem info43 : (Try.prog.info? 43).map (fun i => (i.zero, i.size, i.bytes)) = some (some (.agg #[.int .i64 0, .int .i64 0, .int .i64 0, .string ⟨#[]⟩, .slice none 0 0]), 5, 64) := by kernel_rfl
set_option maxHeartbeats 2000000 in
set_option maxRecDepth 100000 in
theorem Sums_any (W : World) (c : List Int) (A : Option Addr) (k : Nat) (hC : (Kd.int .i64).C W A c.length c) (hk : c.length ≤ k) :
    Calls Try.prog 48 #[.slice A c.length k] W (SumsP c W) := by
  have hlm := Kd.C_max hC
  have HC := Lib.hid hC
  clear hC hk
  go_enter Try.func48, Try.ntmps48
  by_cases h4 : c.length = 4
  · have h4' : ((c.length : Int) != 4) = false := by rw [bne_eq_false_iff_eq]; omega
    have H4 := Lib.hid h4
    have hl4 : (c.length : Int) = 4 := by omega
    clear h4
    go_wp2
    go_loopw [18] (fun iv wr => ∃ i : Int, iv = .int .i64 i ∧ 0 ≤ i ∧ i ≤ 4 ∧ Hid (∀ x : Int, 0 ≤ x → x < i → 0 ≤ rd c x ∧ rd c x ≤ 262144) ∧ Hid (Below W.heap.size W wr)) (fun i _ => 4 - (intOf i).toNat)
    case atStart => exact ⟨0, rfl, by omega, by omega, fun x h0 h1 => absurd h1 (by omega), Below.refl _ _⟩
    case round =>
      obtain ⟨i, rfl, hi0, hi1, HI, HB⟩ := hrel
      by_cases hlt : i < 4
      · obtain ⟨ad, rfl, z⟩ := Kd.at_int HC.out i hi0 (by omega)
        have z1 := pw_cell_below HB.out z
        obtain ⟨n, hn⟩ : ∃ n, n = rd c i := ⟨_, rfl⟩
        rw [← hn] at z1
        have hlt' : i < (c.length : Int) := by omega
        clear z
        by_cases hb : n < 0
        · have hbad : ¬ okCs c := fun h => by have := h.2 i hi0 hlt; omega
          have HBAD := Lib.hid hbad
          clear hbad hn
          go_wp2
          go_ret2
          exact sums_bad HBAD.out HB.out
        · by_cases hb2 : 262144 < n
          · have hbad : ¬ okCs c := fun h => by have := h.2 i hi0 hlt; omega
            have HBAD := Lib.hid hbad
            clear hbad hn
            go_wp2
            go_ret2
            exact sums_bad HBAD.out HB.out
          · have HN := Lib.hid (show ∀ x : Int, 0 ≤ x → x < i + 1 → 0 ≤ rd c x ∧ rd c x ≤ 262144 from fun x h0 h1 => by
              by_cases hx : x = i
              · subst hx; omega
              · exact HI.out x h0 (by omega))
            clear hn
            go_wp2
            go_roundw
            case rel => exact ⟨i + 1, rfl, by omega, by omega, HN.out, HB.out⟩
            case measure => simp [intOf]; omega
      · have hok : okCs c := ⟨H4.out, fun x h0 h1 => HI.out x h0 (by omega)⟩
        have HOK := Lib.hid hok
        have hi4 : i = 4 := by omega
        subst hi4
        obtain ⟨wo, rfl⟩ : ∃ wo : World, wo = wr := ⟨_, rfl⟩
        clear hok hlt HI
        go_wp2
        go_loopw [29, 4] (fun jv lv wr => ∃ j : Nat, jv = .int .i64 j ∧ j ≤ 4 ∧ Hid (k43.R 43 wr W.heap.size (fun _ => True) lv (sumL c j)) ∧ Hid (Below W.heap.size W wr)) (fun j _ _ => 4 - (intOf j).toNat)
        case atStart => exact ⟨0, rfl, by omega, Kd.R_nil _ _ _ _ _, HB.out⟩
        case round =>
          obtain ⟨j, rfl, hj, HL, HBJ⟩ := hrel
          obtain ⟨cA, ck, hcv⟩ := Kd.R_slice HL.out
          subst hcv
          clear HB
          by_cases hlt : j < 4
          · obtain ⟨wj, hwj⟩ : ∃ wj : World, wj = wr := ⟨_, rfl⟩
            rw [← hwj] at HL HBJ ⊢
            clear hwj wr
            go_wp2
            rw [decide_eq_true (show (j : Int) < 4 by omega)]
            go_loopw [34, 8] (fun rv sv wr => ∃ (r re im : Nat), rv = .int .i64 r ∧ sv = .complex .f64 re im ∧ r ≤ 4 ∧ Hid (FI re (sumJ c j r).1) ∧ Hid (FI im (sumJ c j r).2) ∧ Hid (Below wj.heap.size wj wr)) (fun r _ _ => 4 - (intOf r).toNat)
            case atStart => exact ⟨0, 0, 0, rfl, rfl, by omega, FI.zero, FI.zero, Below.refl _ _⟩
            case round =>
              obtain ⟨r, re, im, rfl, rfl, hr, HFR, HFI, HBR⟩ := hrel
              have hBW : Below W.heap.size W wr := HBJ.out.trans (HBR.out.mono HBJ.out.size)
              by_cases hltr : r < 4
              · obtain ⟨ad, rfl, z⟩ := Kd.at_int HC.out r (by omega) (by omega)
                have z1 : wr.cell? (ad.add r) = some (.int .i64 (rd c r)) := pw_cell_below hBW z
                have hn := HOK.out.2 r (by omega) (by omega)
                have hs := sumJ_small HOK.out j r hr
                have hp := ipow_small (j * r % 4)
                have m1 := part_mul hn hp.1
                have m2 := part_mul hn hp.2
                obtain ⟨n, hnn⟩ : ∃ n, n = rd c r := ⟨_, rfl⟩
                have HNN := Lib.hid hnn
                rw [← hnn] at z1 hn m1 m2
                have HPW := Lib.hid (fun W1 => power_any W1 (wrap64 ((j : Int) * (r : Int))) (j * r % 4) (pw_q j r hlt hltr) (Nat.mod_lt _ (by decide)))
                have fn := FI.of_int n (by omega)
                obtain ⟨q, hq⟩ : ∃ q, q = ipow (j * r % 4) := ⟨_, rfl⟩
                rw [← hq] at HPW hp m1 m2
                have HQ := Lib.hid hq
                obtain ⟨nf, hnf⟩ : ∃ nf, nf = floatOfInt .f64 n := ⟨_, rfl⟩
                rw [← hnf] at fn
                have hcv : ∀ wx : World, (convert 3 123 (.int .i64 n)).run Try.prog wx = .ok (.float .f64 nf) wx := fun wx => by rw [hnf]; exact run_convert_int_float wx 3 123 .i64 .f64 n under3s under123
                have HFN := Lib.hid fn
                have HS := Lib.hid hs
                have HP := Lib.hid hp
                have HM1 := Lib.hid m1
                have HM2 := Lib.hid m2
                have HBW := Lib.hid hBW
                have hrl : (r : Int) < (c.length : Int) := by omega
                clear z hnn hq hnf fn hs hp m1 m2 hBW
                go_wp2_with fail
                refine (HPW.out _).mono ?_
                rintro e w5 ⟨re1, im1, rfl, f1, f2, rfl⟩
                obtain ⟨re2, im2, hm, g1, g2⟩ := FI.cmul HFN.out FI.zero f1 f2 (by have := HM1.out; omega) (by omega) (by have := HM2.out; omega) (by omega)
                obtain ⟨re3, im3, ha, k1, k2⟩ := FI.csum HFR.out HFI.out g1 g2 (by have := HM1.out; have := HS.out; omega) (by have := HM2.out; have := HS.out; omega)
                have hmul := fun wx => run_complex_mul (P := Try.prog) wx 122 nf 0 re1 im1 re2 im2 hm
                have hadd := fun wx => run_complex_sum (P := Try.prog) wx .add (.inl rfl) 122 .f64 re im re2 im2 re3 im3 ha
                have HR3 := Lib.hid (show FI re3 (sumJ c j (r + 1)).1 from by simp only [sumJ]; rw [← HQ.out, ← HNN.out]; exact k1)
                have HI3 := Lib.hid (show FI im3 (sumJ c j (r + 1)).2 from by simp only [sumJ]; rw [← HQ.out, ← HNN.out]; exact k2)
                clear k1 k2 hm ha g1 g2 f1 f2
                go_wp2
                go_roundw
                case rel => exact ⟨r + 1, re3, im3, by simp, rfl, hltr, HR3.out, HI3.out, HBR.out⟩
                case measure => simp [intOf]; omega
              · have hr4 : r = 4 := by omega
                subst hr4
                have hp := sum_part HOK.out j
                obtain ⟨sa, hsa⟩ : ∃ sa, sa = (sumJ c j 4).1 := ⟨_, rfl⟩
                obtain ⟨sb, hsb⟩ : ∃ sb, sb = (sumJ c j 4).2 := ⟨_, rfl⟩
                rw [← hsa] at HFR hp
                rw [← hsb] at HFI hp
                have hc1 := fun wx => run_convert_float_int (P := Try.prog) wx 123 2 .f64 .i64 re sa under123s under2' HFR.out.to_int
                have hc2 := fun wx => run_convert_float_int (P := Try.prog) wx 123 2 .f64 .i64 im sb under123s under2' HFI.out.to_int
                have HG := Lib.hid (fun W1 => Gauss_any W1 sa sb)
                rw [hp.1, hp.2] at HG
                simp only [Bool.and_self, if_true, show v43 (gaussV sa sb) none 0 = .agg #[.int .i64 3, .int .i64 sa, .int .i64 sb, .string ⟨#[]⟩, .slice none 0 0] from rfl] at HG
                have HSA := Lib.hid (show gaussV sa sb = sumV c j from by rw [hsa, hsb]; rfl)
                have hl1 : (sumL c j).length = j := by simp [sumL]
                have HL1 := Lib.hid hl1
                have HSL := Lib.hid (show sumL c j ++ [gaussV sa sb] = sumL c (j + 1) from by rw [HSA.out]; simp [sumL, List.range_succ])
                clear hsa hsb hp hltr hl1
                go_wp2_with fail
                refine (HG.out _).mono ?_
                rintro e w6 ⟨rfl, hb6⟩
                have hb6' := HBR.out.trans (hb6.mono HBR.out.size)
                have hb7 := below_alloc (Below.refl w6.heap.size w6) (.cells #[.int .i64 3, .int .i64 sa, .int .i64 sb, .string ⟨#[]⟩, .slice none 0 0] 43)
                have HB7 := Lib.hid (HBJ.out.trans ((hb6'.trans (hb7.mono hb6'.size)).mono HBJ.out.size))
                have HR7 := Lib.hid (Kd.R_below HL.out (hb6'.trans (hb7.mono hb6'.size)))
                have ha7 := heap_alloc_new w6 (.cells #[.int .i64 3, .int .i64 sa, .int .i64 sb, .string ⟨#[]⟩, .slice none 0 0] 43)
                have hs7 : (w6.alloc (.cells #[.int .i64 3, .int .i64 sa, .int .i64 sb, .string ⟨#[]⟩, .slice none 0 0] 43)).heap.size = w6.heap.size + 1 := alloc_size _ _
                clear hb6 hb6' hb7
                go_upto_region 20 with fail
                obtain ⟨w7, hw7⟩ : ∃ w7, w7 = w6.alloc (.cells #[.int .i64 3, .int .i64 sa, .int .i64 sb, .string ⟨#[]⟩, .slice none 0 0] 43) := ⟨_, rfl⟩
                rw [← hw7] at HB7 HR7 ha7 hs7 ⊢
                have d0 : w7.cell? ⟨w6.heap.size, 0, none⟩ = some (.int .i64 3) := (blk_cell ha7 0).trans rfl
                have d1 : w7.cell? ⟨w6.heap.size, 1, none⟩ = some (.int .i64 sa) := (blk_cell ha7 1).trans rfl
                have d2 : w7.cell? ⟨w6.heap.size, 2, none⟩ = some (.int .i64 sb) := (blk_cell ha7 2).trans rfl
                have d3 : w7.cell? ⟨w6.heap.size, 3, none⟩ = some (.string ⟨#[]⟩) := (blk_cell ha7 3).trans rfl
                have d4 : w7.cell? ⟨w6.heap.size, 4, none⟩ = some (.slice none 0 0) := (blk_cell ha7 4).trans rfl
                clear hw7 ha7 hs7
                go_wp2_with (at_builtin; (refine Kd.R_append (w0 := W) k43 W.heap.size rfl _ _ 41 43 _ 64 rfl Try.underlying41 info43 rfl (by decide) (by decide) (.slice cA (sumL c j).length ck) (sumL c j) (gaussV sa sb) [.int .i64 3, .int .i64 sa, .int .i64 sb, .string ⟨#[]⟩, .slice none 0 0] (fun _ => True) (fun _ => False) rfl rfl (k43_mkM _ _ _ (gaussV sa sb) (Kd.R_nil _ _ _ _ _)) (fun _ h => h.elim) (fun _ _ => trivial) HR7.out HB7.out HB7.out.size (by rw [HL1.out]; omega) ?_; intro v1 w8 hR8 hb8 hg8 hat8; rw [HSL.out] at hR8; have HR8 := Lib.hid hR8; have HB8 := Lib.hid hb8; clear hR8 hb8 hg8 hat8))
                go_roundw
                case rel => exact ⟨j + 1, by simp, by omega, HR8.out, HB8.out⟩
                case measure => simp [intOf]; omega
          · have hj4 : j = 4 := by omega
            subst hj4
            go_wp2
            go_ret2
            exact ⟨HBJ.out, .inr ⟨HOK.out, _, rfl, HL.out⟩⟩
  · have h4' : ((c.length : Int) != 4) = true := by rw [bne_iff_ne]; omega
    have HBAD := Lib.hid (show ¬ okCs c from fun h => h4 h.1)
    clear h4
    go_wp2
    go_ret2
    exact sums_bad HBAD.out (Below.refl _ _)
end Go.Proofs.Ytofinglgnkdflaa
end
section
namespace Go.Proofs.Ytofinglgnkdflaa
open Go.RowKit
open Go.Proofs.Ytofinglgnkdflaa.PHistoryChecks Go.Proofs.YtofinglgnkdflaaW.PrintWords Go.Proofs.YtofinglgnkdflaaW.PrintLast Go.Proofs.YtofinglgnkdflaaW.PrintMore
set_option linter.unusedVariables false
set_option linter.unusedSimpArgs false
end Go.Proofs.Ytofinglgnkdflaa
end
