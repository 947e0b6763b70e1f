/- Plain: the sums over the roots of unity, written out; their norms. -/
import Derived.Laws.ComplexArith
import Derived.Test.YtofinglgnkdflaaKXB
import Derived.Test.YtofinglgnkdflaaKXE
import Derived.Test.YtofinglgnkdflaaKXH
section
namespace Go.Proofs.Ytofinglgnkdflaa
open Ieee
set_option linter.unusedVariables false
set_option linter.unusedSimpArgs false
def fb (s : Bool) (v : Nat) : Nat := double.nearest s v 0
def FI (b : Nat) (n : Int) : Prop := ∃ (s : Bool) (v : Nat), b = fb s v ∧ v < 9007199254740992 ∧ n = if s then -(v : Int) else (v : Int)
theorem log2_up (v j : Nat) (h : v ≠ 0) : (v * 2 ^ j).log2 = v.log2 + j := by
  have hp : 0 < 2 ^ j := Nat.pow_pos (by decide)
  have h1 : v * 2 ^ j ≠ 0 := Nat.mul_ne_zero h (by omega)
  rw [Nat.log2_eq_iff h1]
  have h2 := Nat.log2_self_le h
  have h3 := @Nat.lt_log2_self v
  constructor
  · rw [Nat.pow_add]; exact Nat.mul_le_mul_right _ h2
  · rw [show v.log2 + j + 1 = (v.log2 + 1) + j by omega, Nat.pow_add]; exact (Nat.mul_lt_mul_right hp).2 h3
theorem cut_exact (way : Toward) (hw : way = .even ∨ way = .zero) (s : Bool) (q d : Nat) : way.cut s (q * 2 ^ d) d = q := by
  by_cases hq : q = 0
  · subst hq
    rcases hw with rfl | rfl
    · simp [Toward.cut, Nat.shiftLeft_eq]
    · simp [Toward.cut]
  · have h1 : min d ((q * 2 ^ d).log2 + 2) = d := by rw [log2_up q d hq]; omega
    have hp : 0 < 2 ^ d := Nat.pow_pos (by decide)
    unfold Toward.cut
    rw [h1, Nat.shiftLeft_eq, Nat.one_mul]
    have h2 : q * 2 ^ d / 2 ^ d = q := Nat.mul_div_cancel _ hp
    have h3 : q * 2 ^ d % 2 ^ d = 0 := Nat.mul_mod_left _ _
    dsimp only
    rw [h2, h3]
    rcases hw with rfl | rfl
    · have h4 : (2 ^ d == 0) = false := by rw [beq_eq_false_iff_ne]; omega
      simp [h4]
    · rfl
theorem nearest_up (s : Bool) (v j : Nat) (hv : v < 9007199254740992) (h0 : v ≠ 0) : double.nearest s (v * 2 ^ j) (-(j : Int)) = double.word s (min ((v.log2 + 1022) * 4503599627370496 + v * 2 ^ (52 - v.log2)) double.infRung) := by
  have hp : 0 < 2 ^ j := Nat.pow_pos (by decide)
  have h1 : v * 2 ^ j ≠ 0 := Nat.mul_ne_zero h0 (by omega)
  have hk : v.log2 ≤ 52 := by
    have h2 := Nat.log2_self_le h0
    rcases Nat.lt_or_ge 52 v.log2 with h | h
    · have h5 : 2 ^ 53 ≤ 2 ^ v.log2 := Nat.pow_le_pow_right (by decide) h
      have h6 : (2 : Nat) ^ 53 = 9007199254740992 := by decide
      omega
    · exact h
  unfold Format.nearest
  rw [if_neg h1, log2_up v j h0]
  have hl : double.leastPlace = -1074 := by decide
  have hf : double.fractionBits = 52 := rfl
  have hL : max (-(j : Int) + ((v.log2 + j : Nat) : Int) - (double.fractionBits : Int)) double.leastPlace = -((52 - v.log2 : Nat) : Int) := by rw [hl, hf]; omega
  simp only [hL]
  have hb : double.binade = 4503599627370496 := by decide
  rw [hb, hl]
  have e1 : (-((52 - v.log2 : Nat) : Int) - -1074).toNat = v.log2 + 1022 := by omega
  rw [e1]
  congr 3
  rcases Nat.le_total j (52 - v.log2) with hj | hj
  · have e2 : (-(j : Int) - -((52 - v.log2 : Nat) : Int)).toNat = (52 - v.log2) - j := by omega
    have e3 : (-((52 - v.log2 : Nat) : Int) - -(j : Int)).toNat = 0 := by omega
    rw [e2, e3, Nat.shiftLeft_eq, Nat.mul_assoc, ← Nat.pow_add, show j + (52 - v.log2 - j) = 52 - v.log2 by omega]
    have := cut_exact .even (.inl rfl) s (v * 2 ^ (52 - v.log2)) 0
    simpa using this
  · have e2 : (-(j : Int) - -((52 - v.log2 : Nat) : Int)).toNat = 0 := by omega
    have e3 : (-((52 - v.log2 : Nat) : Int) - -(j : Int)).toNat = j - (52 - v.log2) := by omega
    rw [e2, e3, Nat.shiftLeft_eq, Nat.pow_zero, Nat.mul_one]
    have e4 : v * 2 ^ j = (v * 2 ^ (52 - v.log2)) * 2 ^ (j - (52 - v.log2)) := by rw [Nat.mul_assoc, ← Nat.pow_add, show 52 - v.log2 + (j - (52 - v.log2)) = j by omega]
    rw [e4]
    exact cut_exact .even (.inl rfl) s _ _
theorem nearest_fb (s : Bool) (v j : Nat) (hv : v < 9007199254740992) : double.nearest s (v * 2 ^ j) (-(j : Int)) = fb s v := by
  by_cases h0 : v = 0
  · subst h0; simp [fb, Format.nearest]
  · rw [nearest_up s v j hv h0]
    have := nearest_up s v 0 hv h0
    simp only [Nat.pow_zero, Nat.mul_one] at this
    exact this.symm
theorem read_fb (s : Bool) (v : Nat) (hv : v < 9007199254740992) : ∃ j : Nat, double.read (fb s v) = .number s (v * 2 ^ j) (-(j : Int)) := by
  by_cases h0 : v = 0
  · subst h0
    obtain ⟨j, hj⟩ : ∃ j : Nat, j = 1074 := ⟨_, rfl⟩
    refine ⟨j, ?_⟩
    rw [Nat.zero_mul, hj]
    cases s <;> rfl
  · refine ⟨52 - v.log2, ?_⟩
    have hfb : fb s v = double.word s (min ((v.log2 + 1022) * 4503599627370496 + v * 2 ^ (52 - v.log2)) double.infRung) := by
      have := nearest_up s v 0 hv h0
      simp only [Nat.pow_zero, Nat.mul_one] at this
      exact this
    have h2 := Nat.log2_self_le h0
    have h3 := @Nat.lt_log2_self v
    have hk : v.log2 ≤ 52 := by
      rcases Nat.lt_or_ge 52 v.log2 with h | h
      · have h5 : 2 ^ 53 ≤ 2 ^ v.log2 := Nat.pow_le_pow_right (by decide) h
        have h6 : (2 : Nat) ^ 53 = 9007199254740992 := by decide
        omega
      · exact h
    have m1 : 4503599627370496 ≤ v * 2 ^ (52 - v.log2) := by
      have h7 : 2 ^ v.log2 * 2 ^ (52 - v.log2) ≤ v * 2 ^ (52 - v.log2) := Nat.mul_le_mul_right _ h2
      rw [← Nat.pow_add, show v.log2 + (52 - v.log2) = 52 by omega] at h7
      have h6 : (2 : Nat) ^ 52 = 4503599627370496 := by decide
      omega
    have m2 : v * 2 ^ (52 - v.log2) < 9007199254740992 := by
      have h7 : v * 2 ^ (52 - v.log2) < 2 ^ (v.log2 + 1) * 2 ^ (52 - v.log2) := (Nat.mul_lt_mul_right (Nat.pow_pos (by decide))).2 h3
      rw [← Nat.pow_add, show v.log2 + 1 + (52 - v.log2) = 53 by omega] at h7
      have h6 : (2 : Nat) ^ 53 = 9007199254740992 := by decide
      omega
    obtain ⟨m, hm⟩ : ∃ m, m = v * 2 ^ (52 - v.log2) := ⟨_, rfl⟩
    obtain ⟨k, hkk⟩ : ∃ k, k = v.log2 := ⟨_, rfl⟩
    rw [← hm] at m1 m2 hfb ⊢
    rw [← hkk] at hk hfb ⊢
    have hi : double.infRung = 9218868437227405312 := by decide
    have hmin : min ((k + 1022) * 4503599627370496 + m) double.infRung = (k + 1022) * 4503599627370496 + m := by rw [hi]; omega
    rw [hmin] at hfb
    have hsw : double.signWeight = 9223372036854775808 := by decide
    have hb : double.binade = 4503599627370496 := by decide
    have hl : double.leastPlace = -1074 := by decide
    have hr : fb s v % 9223372036854775808 = (k + 1022) * 4503599627370496 + m := by
      rw [hfb]; unfold Format.word; rw [hsw]
      cases s <;> simp <;> omega
    have hn : (fb s v / 9223372036854775808 % 2 == 1) = s := by
      rw [hfb]; unfold Format.word; rw [hsw]
      cases s
      · rw [beq_eq_false_iff_ne]; simp; omega
      · rw [beq_iff_eq]; simp; omega
    unfold Format.read
    simp only [hsw, hb, hi, hl, hr, hn]
    rw [if_neg (by omega), if_pos (by omega)]
    congr 1
    · omega
    · omega
theorem FI.read {b : Nat} {n : Int} (h : FI b n) : ∃ (s : Bool) (v j : Nat), double.read b = .number s (v * 2 ^ j) (-(j : Int)) ∧ v < 9007199254740992 ∧ n = if s then -(v : Int) else (v : Int) := by
  obtain ⟨s, v, rfl, hv, hn⟩ := h
  obtain ⟨j, hj⟩ := read_fb s v hv
  exact ⟨s, v, j, hj, hv, hn⟩
theorem signed_up (s : Bool) (v j M : Nat) (h : j ≤ M) : signed s (v * 2 ^ j) (M - j) = (if s then -(v : Int) else (v : Int)) * ((2 ^ M : Nat) : Int) := by
  have e : (v * 2 ^ j) <<< (M - j) = v * 2 ^ M := by rw [Nat.shiftLeft_eq, Nat.mul_assoc, ← Nat.pow_add, show j + (M - j) = M by omega]
  unfold signed
  rw [e]
  cases s
  · simp only [Bool.false_eq_true, if_false]; rw [Int.natCast_mul]
  · simp only [if_true]; rw [Int.natCast_mul, Int.neg_mul]
theorem sum_exact {a b : Datum} {s t : Bool} {v u j i : Nat} (ha : a = .number s (v * 2 ^ j) (-(j : Int))) (hb : b = .number t (u * 2 ^ i) (-(i : Int))) {N : Int}
    (hN : N = (if s then -(v : Int) else (v : Int)) + (if t then -(u : Int) else (u : Int))) (hb2 : N.natAbs < 9007199254740992) : ∃ r, (a.sum b).map double.write = some r ∧ FI r N := by
  subst ha hb
  have hbase : min (-(j : Int)) (-(i : Int)) = -((max j i : Nat) : Int) := by omega
  have e1 : (-(j : Int) - -((max j i : Nat) : Int)).toNat = max j i - j := by omega
  have e2 : (-(i : Int) - -((max j i : Nat) : Int)).toNat = max j i - i := by omega
  simp only [Datum.sum, hbase, e1, e2, signed_up s v j _ (Nat.le_max_left j i), signed_up t u i _ (Nat.le_max_right j i), ← Int.add_mul, ← hN, Option.map_some]
  have hp : 0 < 2 ^ (max j i) := Nat.pow_pos (by decide)
  refine ⟨_, rfl, ?_⟩
  show FI (double.nearest _ (N * ((2 ^ max j i : Nat) : Int)).natAbs (-((max j i : Nat) : Int))) N
  rw [Int.natAbs_mul, Int.natAbs_natCast, nearest_fb _ _ _ hb2]
  refine ⟨_, _, rfl, hb2, ?_⟩
  by_cases h0 : N = 0
  · subst h0; simp
  · have h1 : N * ((2 ^ max j i : Nat) : Int) ≠ 0 := Int.mul_ne_zero h0 (by omega)
    rw [if_neg h1]
    by_cases hneg : N < 0
    · have h2 : N * ((2 ^ max j i : Nat) : Int) < 0 := Int.mul_neg_of_neg_of_pos hneg (by omega)
      rw [decide_eq_true h2]; simp; omega
    · have h2 : ¬ N * ((2 ^ max j i : Nat) : Int) < 0 := by
        have : 0 ≤ N * ((2 ^ max j i : Nat) : Int) := Int.mul_nonneg (by omega) (by omega)
        omega
      rw [decide_eq_false h2]; simp; omega
section
variable {a b : Nat} {m n : Int}
theorem FI.add (ha : FI a m) (hb : FI b n) (h : (m + n).natAbs < 9007199254740992) : ∃ r, floatBits .add .f64 a b = some r ∧ FI r (m + n) := by
  obtain ⟨s, v, j, ra, _, rfl⟩ := ha.read
  obtain ⟨t, u, i, rb, _, rfl⟩ := hb.read
  exact sum_exact ra rb rfl h
end
theorem FI.zero : FI 0 0 := ⟨false, 0, by decide, by decide, rfl⟩
theorem FI.one : FI 4607182418800017408 1 := ⟨false, 1, by decide, by decide, rfl⟩
end Go.Proofs.Ytofinglgnkdflaa
end
section
namespace Go.Proofs.Ytofinglgnkdflaa
open Go.RowKit
open Go.Proofs.Ytofinglgnkdflaa.PHistoryChecks Go.Proofs.YtofinglgnkdflaaW.PrintWords
set_option linter.unusedVariables false
set_option linter.unusedSimpArgs false
end Go.Proofs.Ytofinglgnkdflaa
end
section
namespace Go.Proofs.Ytofinglgnkdflaa
open Go.RowKit
open Go.Proofs.Ytofinglgnkdflaa.PHistoryChecks Go.Proofs.YtofinglgnkdflaaW.PrintWords Go.Proofs.YtofinglgnkdflaaW.PrintLast Go.Proofs.YtofinglgnkdflaaW.PrintMore
set_option linter.unusedVariables false
set_option linter.unusedSimpArgs false
end Go.Proofs.Ytofinglgnkdflaa
end
section
namespace Go.Proofs.Ytofinglgnkdflaa
open Go.RowKit
open Go.Proofs.Ytofinglgnkdflaa.PHistoryChecks Go.Proofs.YtofinglgnkdflaaW.PrintWords Go.Proofs.YtofinglgnkdflaaW.PrintLast Go.Proofs.YtofinglgnkdflaaW.PrintMore
set_option linter.unusedVariables false
set_option linter.unusedSimpArgs false
theorem info43 : (Try.prog.info? 43).map (fun i => (i.zero, i.size, i.bytes)) = some (some (.agg #[.int .i64 0, .int .i64 0, .int .i64 0, .string ⟨#[]⟩, .slice none 0 0]), 5, 64) := by kernel_rfl
end Go.Proofs.Ytofinglgnkdflaa
end
section
namespace Go.Proofs.Ytofinglgnkdflaa
open Go.RowKit
open Go.Proofs.Ytofinglgnkdflaa.PHistoryChecks Go.Proofs.YtofinglgnkdflaaW.PrintWords Go.Proofs.YtofinglgnkdflaaW.PrintLast Go.Proofs.YtofinglgnkdflaaW.PrintMore
set_option linter.unusedVariables false
set_option linter.unusedSimpArgs false
end Go.Proofs.Ytofinglgnkdflaa
end
