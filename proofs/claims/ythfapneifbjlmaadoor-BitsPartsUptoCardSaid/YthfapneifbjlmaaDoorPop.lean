/- Plain: how many bits of a word are set, as math/bits counts them. -/
import Derived.Test.YthfapneifbjlmaaDoorBits
namespace Go.Proofs.YthfapneifbjlmaaDoor
set_option linter.unusedVariables false
set_option linter.unusedSimpArgs false

def mk8 (v : Nat) : Nat → Nat
  | 0 => 0
  | n + 1 => v + 256 * mk8 v n
theorem bit_low (a b j : Nat) (ha : a < 256) : (a + 256 * b).testBit j = if j < 8 then a.testBit j else b.testBit (j - 8) := by
  have := Nat.testBit_two_pow_mul_add b (i := 8) (b := a) (by omega) j
  rw [← this]; congr 1; omega
theorem and_split (a b c d : Nat) (ha : a < 256) (hc : c < 256) : (a + 256 * b) &&& (c + 256 * d) = (a &&& c) + 256 * (b &&& d) := by
  apply Nat.eq_of_testBit_eq
  intro j
  rw [Nat.testBit_and, bit_low _ _ _ ha, bit_low _ _ _ hc, bit_low _ _ _ (Nat.lt_of_le_of_lt Nat.and_le_left ha)]
  split <;> simp
def X1 (n x : Nat) : Nat := ((x / 2) &&& mk8 85 n) + (x &&& mk8 85 n)
def X2 (n x : Nat) : Nat := ((x / 4) &&& mk8 51 n) + (x &&& mk8 51 n)
def X3 (n x : Nat) : Nat := (x / 16 + x) &&& mk8 15 n
def x1 (c : Nat) : Nat := ((c / 2) &&& 85) + (c &&& 85)
def x2 (c : Nat) : Nat := ((c / 4) &&& 51) + (c &&& 51)
def x3 (c : Nat) : Nat := (c / 16 + c) &&& 15
theorem t1 : ∀ (c : Fin 256) (b : Fin 2), (c.val / 2 + 128 * b.val) &&& 85 = (c.val / 2) &&& 85 := by decide +kernel
theorem t2 : ∀ (c : Fin 256) (b : Fin 4), (c.val / 4 + 64 * b.val) &&& 51 = (c.val / 4) &&& 51 := by decide +kernel
theorem t3 : ∀ (c : Fin 103) (b : Fin 7), (c.val / 16 + 16 * b.val + c.val) &&& 15 = (c.val / 16 + c.val) &&& 15 := by decide +kernel
theorem b1 : ∀ c : Fin 256, x1 c.val < 256 := by decide +kernel
theorem b2 : ∀ c : Fin 256, x2 c.val < 103 ∧ x2 c.val % 16 < 7 := by decide +kernel
theorem X1_succ (n c r : Nat) (hc : c < 256) : X1 (n + 1) (c + 256 * r) = x1 c + 256 * X1 n r := by
  have e : (c + 256 * r) / 2 = (c / 2 + 128 * (r % 2)) + 256 * (r / 2) := by omega
  have h := t1 ⟨c, hc⟩ ⟨r % 2, by omega⟩
  simp only at h
  unfold X1 x1
  rw [mk8, e, and_split _ _ 85 _ (by omega) (by omega), and_split c r 85 _ hc (by omega), h]
  omega
theorem X2_succ (n c r : Nat) (hc : c < 256) : X2 (n + 1) (c + 256 * r) = x2 c + 256 * X2 n r := by
  have e : (c + 256 * r) / 4 = (c / 4 + 64 * (r % 4)) + 256 * (r / 4) := by omega
  have h := t2 ⟨c, hc⟩ ⟨r % 4, by omega⟩
  simp only at h
  unfold X2 x2
  rw [mk8, e, and_split _ _ 51 _ (by omega) (by omega), and_split c r 51 _ hc (by omega), h]
  omega
theorem X3_succ (n c r : Nat) (hc : c < 103) (hr : r % 16 < 7) : X3 (n + 1) (c + 256 * r) = x3 c + 256 * X3 n r := by
  have e : (c + 256 * r) / 16 + (c + 256 * r) = (c / 16 + 16 * (r % 16) + c) + 256 * (r / 16 + r) := by omega
  have h := t3 ⟨c, hc⟩ ⟨r % 16, hr⟩
  simp only at h
  unfold X3 x3
  rw [mk8, e, and_split _ _ 15 _ (by omega) (by omega), h]
theorem X2_low (n y : Nat) : X2 n y % 16 < 7 := by
  cases n with
  | zero => simp [X2, mk8]
  | succ n =>
    have e : y = y % 256 + 256 * (y / 256) := by omega
    rw [e, X2_succ n _ _ (by omega)]
    have := (b2 ⟨y % 256, by omega⟩).2
    simp only at this
    omega
def Pn (n x : Nat) : Nat := X3 n (X2 n (X1 n x))
def p8 (c : Nat) : Nat := x3 (x2 (x1 c))
theorem Pn_succ (n c r : Nat) (hc : c < 256) : Pn (n + 1) (c + 256 * r) = p8 c + 256 * Pn n r := by
  unfold Pn p8
  rw [X1_succ n c r hc, X2_succ n _ _ (b1 ⟨c, hc⟩), X3_succ n _ _ (b2 ⟨x1 c, b1 ⟨c, hc⟩⟩).1 (X2_low _ _)]
theorem Pn_zero (x : Nat) : Pn 0 x = 0 := by simp [Pn, X3, mk8]
def bcnt (n w : Nat) : Nat := ((List.range n).filter fun j => w.testBit j).length
theorem p8_eq : ∀ c : Fin 256, p8 c.val = bcnt 8 c.val ∧ p8 c.val ≤ 8 := by decide +kernel
theorem range_8 (n : Nat) : List.range (n + 8) = List.range 8 ++ (List.range n).map (8 + ·) := by
  rw [show n + 8 = 8 + n from by omega, List.range_add]
theorem bcnt_succ (n c r : Nat) (hc : c < 256) : bcnt (n + 8) (c + 256 * r) = bcnt 8 c + bcnt n r := by
  unfold bcnt
  rw [range_8, List.filter_append, List.length_append]
  congr 1
  · congr 1
    apply List.filter_congr
    intro j hj
    have := List.mem_range.1 hj
    rw [bit_low _ _ _ hc, if_pos this]
  · rw [List.filter_map, List.length_map]
    congr 1
    apply List.filter_congr
    intro j _
    simp only [Function.comp]
    rw [bit_low _ _ _ hc, if_neg (by omega)]
    congr 1; omega
theorem byte_split (n w : Nat) : Pn (n + 1) w = p8 (w % 256) + 256 * Pn n (w / 256) ∧ bcnt (n * 8 + 8) w = p8 (w % 256) + bcnt (n * 8) (w / 256) ∧ p8 (w % 256) ≤ 8 := by
  have e : w = w % 256 + 256 * (w / 256) := by omega
  have h := p8_eq ⟨w % 256, by omega⟩
  simp only at h
  refine ⟨?_, ?_, h.2⟩
  · conv => lhs; rw [e]
    exact Pn_succ n _ _ (by omega)
  · conv => lhs; rw [e]
    rw [bcnt_succ _ _ _ (by omega), h.1]
theorem wbits_len (w : Nat) : (wbits w).length = bcnt 64 w := rfl
theorem div1 (a r : Nat) (ha : a < 256) : (a + 256 * r) / 256 = r := by omega
theorem div2 (a b r : Nat) (ha : a < 256) (hb : b < 256) : (a + 256 * (b + 256 * r)) / 65536 = r := by omega
theorem div4 (a b c d r : Nat) (ha : a < 256) (hb : b < 256) (hc : c < 256) (hd : d < 256) : (a + 256 * (b + 256 * (c + 256 * (d + 256 * r)))) / 4294967296 = r := by
  rw [show 4294967296 = 65536 * 65536 from rfl, ← Nat.div_div_eq_div_mul, div2 a b _ ha hb, div2 c d _ hc hd]
theorem dig_add (a r b q : Nat) : (a + 256 * r) + (b + 256 * q) = (a + b) + 256 * (r + q) := by omega
theorem dig_lt {r k : Nat} (a : Nat) (ha : a < 256) (hr : r < k) : a + 256 * r < 256 * k := by omega
theorem low128 (a r : Nat) (ha : a < 128) : (a + 256 * r) % 128 = a := by omega
theorem sums {a b c d e f g h x : Nat} (ha : a ≤ 8) (hb : b ≤ 8) (hc : c ≤ 8) (hd : d ≤ 8) (he : e ≤ 8) (hf : f ≤ 8) (hg : g ≤ 8) (hh : h ≤ 8)
    (hx : x = a + 256 * (b + 256 * (c + 256 * (d + 256 * (e + 256 * (f + 256 * (g + 256 * h))))))) :
    (x + x / 256) + (x + x / 256) / 65536 + ((x + x / 256) + (x + x / 256) / 65536) / 4294967296 < 9223372036854775808 ∧
    ((x + x / 256) + (x + x / 256) / 65536 + ((x + x / 256) + (x + x / 256) / 65536) / 4294967296) % 128 = a + b + c + d + e + f + g + h := by
  have h1 : x / 256 = b + 256 * (c + 256 * (d + 256 * (e + 256 * (f + 256 * (g + 256 * h))))) := by rw [hx]; exact div1 _ _ (by omega)
  have hy : x + x / 256 = (a + b) + 256 * ((b + c) + 256 * ((c + d) + 256 * ((d + e) + 256 * ((e + f) + 256 * ((f + g) + 256 * (g + h + 256 * h)))))) := by
    rw [h1, hx, dig_add, dig_add, dig_add, dig_add, dig_add, dig_add]
    rw [show g + 256 * h + h = g + h + 256 * h from by omega]
  obtain ⟨y, hy'⟩ : ∃ y, y = x + x / 256 := ⟨_, rfl⟩
  rw [← hy'] at hy ⊢
  clear hy' h1 hx
  have h3 : y / 65536 = (c + d) + 256 * ((d + e) + 256 * ((e + f) + 256 * ((f + g) + 256 * (g + h + 256 * h)))) := by rw [hy]; exact div2 _ _ _ (by omega) (by omega)
  have hz : y + y / 65536 = (a + b + (c + d)) + 256 * ((b + c + (d + e)) + 256 * ((c + d + (e + f)) + 256 * ((d + e + (f + g)) + 256 * ((e + f + (g + h)) + 256 * ((f + g + h) + 256 * (g + h + 256 * h)))))) := by
    rw [h3, hy]
    refine (dig_add _ _ _ _).trans ?_
    refine congrArg (fun q => a + b + (c + d) + 256 * q) ?_
    refine (dig_add _ _ _ _).trans ?_
    refine congrArg (fun q => b + c + (d + e) + 256 * q) ?_
    refine (dig_add _ _ _ _).trans ?_
    refine congrArg (fun q => c + d + (e + f) + 256 * q) ?_
    refine (dig_add _ _ _ _).trans ?_
    refine congrArg (fun q => d + e + (f + g) + 256 * q) ?_
    refine (dig_add _ _ _ _).trans ?_
    refine congrArg (fun q => e + f + (g + h) + 256 * q) ?_
    omega
  obtain ⟨z, hz'⟩ : ∃ z, z = y + y / 65536 := ⟨_, rfl⟩
  rw [← hz'] at hz ⊢
  clear hz' h3 hy
  have h5 : z / 4294967296 = (e + f + (g + h)) + 256 * ((f + g + h) + 256 * (g + h + 256 * h)) := by rw [hz]; exact div4 _ _ _ _ _ (by omega) (by omega) (by omega) (by omega)
  have hu : z + z / 4294967296 = (a + b + (c + d) + (e + f + (g + h))) + 256 * ((b + c + (d + e) + (f + g + h)) + 256 * ((c + d + (e + f) + (g + h)) + 256 * ((d + e + (f + g) + h) + 256 * ((e + f + (g + h)) + 256 * ((f + g + h) + 256 * (g + h + 256 * h)))))) := by
    rw [h5, hz]
    refine (dig_add _ _ _ _).trans ?_
    refine congrArg (fun q => a + b + (c + d) + (e + f + (g + h)) + 256 * q) ?_
    refine (dig_add _ _ _ _).trans ?_
    refine congrArg (fun q => b + c + (d + e) + (f + g + h) + 256 * q) ?_
    refine (dig_add _ _ _ _).trans ?_
    refine congrArg (fun q => c + d + (e + f) + (g + h) + 256 * q) ?_
    omega
  obtain ⟨u, hu'⟩ : ∃ u, u = z + z / 4294967296 := ⟨_, rfl⟩
  rw [← hu'] at hu ⊢
  clear hu' h5 hz
  constructor
  · rw [hu]
    refine dig_lt _ (by omega) (k := 36028797018963968) ?_
    refine dig_lt _ (by omega) (k := 140737488355328) ?_
    refine dig_lt _ (by omega) (k := 549755813888) ?_
    refine dig_lt _ (by omega) (k := 2147483648) ?_
    omega
  · rw [hu, low128 _ _ (by omega)]; omega
/-- THE LAW: what math/bits adds together is the number of bits. -/
theorem pop_law (w : Nat) (hw : w < 18446744073709551616) : ∃ x, x = Pn 8 w ∧
    (x + x / 256) + (x + x / 256) / 65536 + ((x + x / 256) + (x + x / 256) / 65536) / 4294967296 < 9223372036854775808 ∧
    ((x + x / 256) + (x + x / 256) / 65536 + ((x + x / 256) + (x + x / 256) / 65536) / 4294967296) % 128 = (wbits w).length := by
  refine ⟨_, rfl, ?_⟩
  rw [wbits_len]
  have s0 := byte_split 7 w
  have s1 := byte_split 6 (w / 256)
  have s2 := byte_split 5 (w / 256 / 256)
  have s3 := byte_split 4 (w / 256 / 256 / 256)
  have s4 := byte_split 3 (w / 256 / 256 / 256 / 256)
  have s5 := byte_split 2 (w / 256 / 256 / 256 / 256 / 256)
  have s6 := byte_split 1 (w / 256 / 256 / 256 / 256 / 256 / 256)
  have s7 := byte_split 0 (w / 256 / 256 / 256 / 256 / 256 / 256 / 256)
  simp only [Nat.reduceAdd, Nat.reduceMul] at s0 s1 s2 s3 s4 s5 s6 s7
  have z1 := Pn_zero (w / 256 / 256 / 256 / 256 / 256 / 256 / 256 / 256)
  have z2 : bcnt 0 (w / 256 / 256 / 256 / 256 / 256 / 256 / 256 / 256) = 0 := rfl
  have := sums s0.2.2 s1.2.2 s2.2.2 s3.2.2 s4.2.2 s5.2.2 s6.2.2 s7.2.2 (x := Pn 8 w) (by rw [s0.1, s1.1, s2.1, s3.1, s4.1, s5.1, s6.1, s7.1, z1]; simp)
  refine ⟨this.1, this.2.trans ?_⟩
  rw [s0.2.1, s1.2.1, s2.2.1, s3.2.1, s4.2.1, s5.2.1, s6.2.1, s7.2.1, z2]
  omega
theorem mk8_85 : mk8 85 8 = 6148914691236517205 := by decide
theorem mk8_51 : mk8 51 8 = 3689348814741910323 := by decide
theorem mk8_15 : mk8 15 8 = 1085102592571150095 := by decide
end Go.Proofs.YthfapneifbjlmaaDoor
