/- Plain: what Or, And, Without leave, in bits. -/
import Derived.Test.YthfapneifbjlmaaDoorMA
import Derived.Test.YthfapneifbjlmaaDoorMB
import Derived.StillTailTactics
section
namespace Go.Proofs.YthfapneifbjlmaaDoor
set_option linter.unusedVariables false
set_option linter.unusedSimpArgs false

def mk8 (v : Nat) : Nat → Nat
  | 0 => 0
  | n + 1 => v + 256 * mk8 v n
theorem bit_low (a b j : Nat) (ha : a < 256) : (a + 256 * b).testBit j = if j < 8 then a.testBit j else b.testBit (j - 8) := by
  have := Nat.testBit_two_pow_mul_add b (i := 8) (b := a) (by omega) j
  rw [← this]; congr 1; omega
theorem and_split (a b c d : Nat) (ha : a < 256) (hc : c < 256) : (a + 256 * b) &&& (c + 256 * d) = (a &&& c) + 256 * (b &&& d) := by
  apply Nat.eq_of_testBit_eq
  intro j
  rw [Nat.testBit_and, bit_low _ _ _ ha, bit_low _ _ _ hc, bit_low _ _ _ (Nat.lt_of_le_of_lt Nat.and_le_left ha)]
  split <;> simp
def X1 (n x : Nat) : Nat := ((x / 2) &&& mk8 85 n) + (x &&& mk8 85 n)
def X2 (n x : Nat) : Nat := ((x / 4) &&& mk8 51 n) + (x &&& mk8 51 n)
def X3 (n x : Nat) : Nat := (x / 16 + x) &&& mk8 15 n
def x1 (c : Nat) : Nat := ((c / 2) &&& 85) + (c &&& 85)
def x2 (c : Nat) : Nat := ((c / 4) &&& 51) + (c &&& 51)
def x3 (c : Nat) : Nat := (c / 16 + c) &&& 15
theorem t1 : ∀ (c : Fin 256) (b : Fin 2), (c.val / 2 + 128 * b.val) &&& 85 = (c.val / 2) &&& 85 := by decide +kernel
theorem t2 : ∀ (c : Fin 256) (b : Fin 4), (c.val / 4 + 64 * b.val) &&& 51 = (c.val / 4) &&& 51 := by decide +kernel
theorem t3 : ∀ (c : Fin 103) (b : Fin 7), (c.val / 16 + 16 * b.val + c.val) &&& 15 = (c.val / 16 + c.val) &&& 15 := by decide +kernel
theorem b1 : ∀ c : Fin 256, x1 c.val < 256 := by decide +kernel
theorem b2 : ∀ c : Fin 256, x2 c.val < 103 ∧ x2 c.val % 16 < 7 := by decide +kernel
theorem X1_succ (n c r : Nat) (hc : c < 256) : X1 (n + 1) (c + 256 * r) = x1 c + 256 * X1 n r := by
  have e : (c + 256 * r) / 2 = (c / 2 + 128 * (r % 2)) + 256 * (r / 2) := by omega
  have h := t1 ⟨c, hc⟩ ⟨r % 2, by omega⟩
  simp only at h
  unfold X1 x1
  rw [mk8, e, and_split _ _ 85 _ (by omega) (by omega), and_split c r 85 _ hc (by omega), h]
  omega
theorem X2_succ (n c r : Nat) (hc : c < 256) : X2 (n + 1) (c + 256 * r) = x2 c + 256 * X2 n r := by
  have e : (c + 256 * r) / 4 = (c / 4 + 64 * (r % 4)) + 256 * (r / 4) := by omega
  have h := t2 ⟨c, hc⟩ ⟨r % 4, by omega⟩
  simp only at h
  unfold X2 x2
  rw [mk8, e, and_split _ _ 51 _ (by omega) (by omega), and_split c r 51 _ hc (by omega), h]
  omega
theorem X3_succ (n c r : Nat) (hc : c < 103) (hr : r % 16 < 7) : X3 (n + 1) (c + 256 * r) = x3 c + 256 * X3 n r := by
  have e : (c + 256 * r) / 16 + (c + 256 * r) = (c / 16 + 16 * (r % 16) + c) + 256 * (r / 16 + r) := by omega
  have h := t3 ⟨c, hc⟩ ⟨r % 16, hr⟩
  simp only at h
  unfold X3 x3
  rw [mk8, e, and_split _ _ 15 _ (by omega) (by omega), h]
theorem X2_low (n y : Nat) : X2 n y % 16 < 7 := by
  cases n with
  | zero => simp [X2, mk8]
  | succ n =>
    have e : y = y % 256 + 256 * (y / 256) := by omega
    rw [e, X2_succ n _ _ (by omega)]
    have := (b2 ⟨y % 256, by omega⟩).2
    simp only at this
    omega
def Pn (n x : Nat) : Nat := X3 n (X2 n (X1 n x))
def p8 (c : Nat) : Nat := x3 (x2 (x1 c))
theorem Pn_succ (n c r : Nat) (hc : c < 256) : Pn (n + 1) (c + 256 * r) = p8 c + 256 * Pn n r := by
  unfold Pn p8
  rw [X1_succ n c r hc, X2_succ n _ _ (b1 ⟨c, hc⟩), X3_succ n _ _ (b2 ⟨x1 c, b1 ⟨c, hc⟩⟩).1 (X2_low _ _)]
theorem Pn_zero (x : Nat) : Pn 0 x = 0 := by simp [Pn, X3, mk8]
def bcnt (n w : Nat) : Nat := ((List.range n).filter fun j => w.testBit j).length
theorem p8_eq : ∀ c : Fin 256, p8 c.val = bcnt 8 c.val ∧ p8 c.val ≤ 8 := by decide +kernel
theorem range_8 (n : Nat) : List.range (n + 8) = List.range 8 ++ (List.range n).map (8 + ·) := by
  rw [show n + 8 = 8 + n from by omega, List.range_add]
theorem bcnt_succ (n c r : Nat) (hc : c < 256) : bcnt (n + 8) (c + 256 * r) = bcnt 8 c + bcnt n r := by
  unfold bcnt
  rw [range_8, List.filter_append, List.length_append]
  congr 1
  · congr 1
    apply List.filter_congr
    intro j hj
    have := List.mem_range.1 hj
    rw [bit_low _ _ _ hc, if_pos this]
  · rw [List.filter_map, List.length_map]
    congr 1
    apply List.filter_congr
    intro j _
    simp only [Function.comp]
    rw [bit_low _ _ _ hc, if_neg (by omega)]
    congr 1; omega
theorem byte_split (n w : Nat) : Pn (n + 1) w = p8 (w % 256) + 256 * Pn n (w / 256) ∧ bcnt (n * 8 + 8) w = p8 (w % 256) + bcnt (n * 8) (w / 256) ∧ p8 (w % 256) ≤ 8 := by
  have e : w = w % 256 + 256 * (w / 256) := by omega
  have h := p8_eq ⟨w % 256, by omega⟩
  simp only at h
  refine ⟨?_, ?_, h.2⟩
  · conv => lhs; rw [e]
    exact Pn_succ n _ _ (by omega)
  · conv => lhs; rw [e]
    rw [bcnt_succ _ _ _ (by omega), h.1]
theorem wbits_len (w : Nat) : (wbits w).length = bcnt 64 w := rfl
theorem div1 (a r : Nat) (ha : a < 256) : (a + 256 * r) / 256 = r := by omega
theorem div2 (a b r : Nat) (ha : a < 256) (hb : b < 256) : (a + 256 * (b + 256 * r)) / 65536 = r := by omega
theorem div4 (a b c d r : Nat) (ha : a < 256) (hb : b < 256) (hc : c < 256) (hd : d < 256) : (a + 256 * (b + 256 * (c + 256 * (d + 256 * r)))) / 4294967296 = r := by
  rw [show 4294967296 = 65536 * 65536 from rfl, ← Nat.div_div_eq_div_mul, div2 a b _ ha hb, div2 c d _ hc hd]
theorem dig_add (a r b q : Nat) : (a + 256 * r) + (b + 256 * q) = (a + b) + 256 * (r + q) := by omega
theorem dig_lt {r k : Nat} (a : Nat) (ha : a < 256) (hr : r < k) : a + 256 * r < 256 * k := by omega
theorem low128 (a r : Nat) (ha : a < 128) : (a + 256 * r) % 128 = a := by omega
theorem sums {a b c d e f g h x : Nat} (ha : a ≤ 8) (hb : b ≤ 8) (hc : c ≤ 8) (hd : d ≤ 8) (he : e ≤ 8) (hf : f ≤ 8) (hg : g ≤ 8) (hh : h ≤ 8)
    (hx : x = a + 256 * (b + 256 * (c + 256 * (d + 256 * (e + 256 * (f + 256 * (g + 256 * h))))))) :
    (x + x / 256) + (x + x / 256) / 65536 + ((x + x / 256) + (x + x / 256) / 65536) / 4294967296 < 9223372036854775808 ∧
    ((x + x / 256) + (x + x / 256) / 65536 + ((x + x / 256) + (x + x / 256) / 65536) / 4294967296) % 128 = a + b + c + d + e + f + g + h := by
  have h1 : x / 256 = b + 256 * (c + 256 * (d + 256 * (e + 256 * (f + 256 * (g + 256 * h))))) := by rw [hx]; exact div1 _ _ (by omega)
  have hy : x + x / 256 = (a + b) + 256 * ((b + c) + 256 * ((c + d) + 256 * ((d + e) + 256 * ((e + f) + 256 * ((f + g) + 256 * (g + h + 256 * h)))))) := by
    rw [h1, hx, dig_add, dig_add, dig_add, dig_add, dig_add, dig_add]
    rw [show g + 256 * h + h = g + h + 256 * h from by omega]
  obtain ⟨y, hy'⟩ : ∃ y, y = x + x / 256 := ⟨_, rfl⟩
  rw [← hy'] at hy ⊢
  clear hy' h1 hx
  have h3 : y / 65536 = (c + d) + 256 * ((d + e) + 256 * ((e + f) + 256 * ((f + g) + 256 * (g + h + 256 * h)))) := by rw [hy]; exact div2 _ _ _ (by omega) (by omega)
  have hz : y + y / 65536 = (a + b + (c + d)) + 256 * ((b + c + (d + e)) + 256 * ((c + d + (e + f)) + 256 * ((d + e + (f + g)) + 256 * ((e + f + (g + h)) + 256 * ((f + g + h) + 256 * (g + h + 256 * h)))))) := by
    rw [h3, hy]
    refine (dig_add _ _ _ _).trans ?_
    refine congrArg (fun q => a + b + (c + d) + 256 * q) ?_
    refine (dig_add _ _ _ _).trans ?_
    refine congrArg (fun q => b + c + (d + e) + 256 * q) ?_
    refine (dig_add _ _ _ _).trans ?_
    refine congrArg (fun q => c + d + (e + f) + 256 * q) ?_
    refine (dig_add _ _ _ _).trans ?_
    refine congrArg (fun q => d + e + (f + g) + 256 * q) ?_
    refine (dig_add _ _ _ _).trans ?_
    refine congrArg (fun q => e + f + (g + h) + 256 * q) ?_
    omega
  obtain ⟨z, hz'⟩ : ∃ z, z = y + y / 65536 := ⟨_, rfl⟩
  rw [← hz'] at hz ⊢
  clear hz' h3 hy
  have h5 : z / 4294967296 = (e + f + (g + h)) + 256 * ((f + g + h) + 256 * (g + h + 256 * h)) := by rw [hz]; exact div4 _ _ _ _ _ (by omega) (by omega) (by omega) (by omega)
  have hu : z + z / 4294967296 = (a + b + (c + d) + (e + f + (g + h))) + 256 * ((b + c + (d + e) + (f + g + h)) + 256 * ((c + d + (e + f) + (g + h)) + 256 * ((d + e + (f + g) + h) + 256 * ((e + f + (g + h)) + 256 * ((f + g + h) + 256 * (g + h + 256 * h)))))) := by
    rw [h5, hz]
    refine (dig_add _ _ _ _).trans ?_
    refine congrArg (fun q => a + b + (c + d) + (e + f + (g + h)) + 256 * q) ?_
    refine (dig_add _ _ _ _).trans ?_
    refine congrArg (fun q => b + c + (d + e) + (f + g + h) + 256 * q) ?_
    refine (dig_add _ _ _ _).trans ?_
    refine congrArg (fun q => c + d + (e + f) + (g + h) + 256 * q) ?_
    omega
  obtain ⟨u, hu'⟩ : ∃ u, u = z + z / 4294967296 := ⟨_, rfl⟩
  rw [← hu'] at hu ⊢
  clear hu' h5 hz
  constructor
  · rw [hu]
    refine dig_lt _ (by omega) (k := 36028797018963968) ?_
    refine dig_lt _ (by omega) (k := 140737488355328) ?_
    refine dig_lt _ (by omega) (k := 549755813888) ?_
    refine dig_lt _ (by omega) (k := 2147483648) ?_
    omega
  · rw [hu, low128 _ _ (by omega)]; omega
/-- THE LAW: what math/bits adds together is the number of bits. -/
theorem pop_law (w : Nat) (hw : w < 18446744073709551616) : ∃ x, x = Pn 8 w ∧
    (x + x / 256) + (x + x / 256) / 65536 + ((x + x / 256) + (x + x / 256) / 65536) / 4294967296 < 9223372036854775808 ∧
    ((x + x / 256) + (x + x / 256) / 65536 + ((x + x / 256) + (x + x / 256) / 65536) / 4294967296) % 128 = (wbits w).length := by
  refine ⟨_, rfl, ?_⟩
  rw [wbits_len]
  have s0 := byte_split 7 w
  have s1 := byte_split 6 (w / 256)
  have s2 := byte_split 5 (w / 256 / 256)
  have s3 := byte_split 4 (w / 256 / 256 / 256)
  have s4 := byte_split 3 (w / 256 / 256 / 256 / 256)
  have s5 := byte_split 2 (w / 256 / 256 / 256 / 256 / 256)
  have s6 := byte_split 1 (w / 256 / 256 / 256 / 256 / 256 / 256)
  have s7 := byte_split 0 (w / 256 / 256 / 256 / 256 / 256 / 256 / 256)
  simp only [Nat.reduceAdd, Nat.reduceMul] at s0 s1 s2 s3 s4 s5 s6 s7
  have z1 := Pn_zero (w / 256 / 256 / 256 / 256 / 256 / 256 / 256 / 256)
  have z2 : bcnt 0 (w / 256 / 256 / 256 / 256 / 256 / 256 / 256 / 256) = 0 := rfl
  have := sums s0.2.2 s1.2.2 s2.2.2 s3.2.2 s4.2.2 s5.2.2 s6.2.2 s7.2.2 (x := Pn 8 w) (by rw [s0.1, s1.1, s2.1, s3.1, s4.1, s5.1, s6.1, s7.1, z1]; simp)
  refine ⟨this.1, this.2.trans ?_⟩
  rw [s0.2.1, s1.2.1, s2.2.1, s3.2.1, s4.2.1, s5.2.1, s6.2.1, s7.2.1, z2]
  omega
theorem mk8_85 : mk8 85 8 = 6148914691236517205 := by decide
theorem mk8_51 : mk8 51 8 = 3689348814741910323 := by decide
theorem mk8_15 : mk8 15 8 = 1085102592571150095 := by decide
end Go.Proofs.YthfapneifbjlmaaDoor
end

section
namespace Go.Proofs.YthfapneifbjlmaaDoor
open Go.RowKit Go.Shelf
set_option linter.unusedVariables false
set_option linter.unusedSimpArgs false

theorem and_shape (x k m : Nat) (hx : x < 18446744073709551616) (hm : m < 18446744073709551616) : bits BinOp.and IntKind.u64 ((x : Int) / (k : Int)) (m : Int) = ((x / k &&& m : Nat) : Int) := by
  rw [← Int.natCast_ediv]
  exact bits_and_u64_nat _ _ (Nat.lt_of_le_of_lt (Nat.div_le_self _ _) hx) hm
theorem wrap_small (x : Nat) (hx : x < 18446744073709551616) : IntKind.u64.wrap (x : Int) = (x : Int) := by
  rw [IntKind.wrap_u64]; exact Int.emod_eq_of_lt (by omega) (by omega)

theorem two63 : (2 : Int) ^ 63 = 9223372036854775808 := by decide
theorem two7 : (2 : Int) ^ 7 = 128 := by decide
theorem and127 (y : Nat) (h : y < 9223372036854775808) : bits BinOp.and IntKind.i64 (y : Int) 127 = ((y % 128 : Nat) : Int) := by
  have h := bits_mask .i64 63 (by decide) (fun n h0 h1 => by rw [two63] at h1; rw [IntKind.wrap_i64]; omega) 7 (by decide) (y : Int) (by omega) (by rw [two63]; omega)
  rw [two7] at h
  rw [show (127 : Int) = 128 - 1 from rfl, h]
  omega
theorem w64' (y : Nat) (h : y < 9223372036854775808) : wrap64 (y : Int) = (y : Int) := by unfold wrap64; omega
theorem Ones_any (W : World) (w : Nat) (hw : w < 18446744073709551616) : Calls Tryd.prog 48 #[.int .u64 w] W fun e w' => e = .returned (.int .i64 (wbits w).length) ∧ W = w' := by
  obtain ⟨x, hx, hlt, hpop⟩ := pop_law w hw
  have q1 : X1 8 w < 18446744073709551616 := by
    unfold X1; rw [mk8_85]
    have := Nat.and_le_right (n := w / 2) (m := 6148914691236517205)
    have := Nat.and_le_right (n := w) (m := 6148914691236517205)
    omega
  have q2 : X2 8 (X1 8 w) < 18446744073709551616 / 2 := by
    unfold X2; rw [mk8_51]
    have := Nat.and_le_right (n := X1 8 w / 4) (m := 3689348814741910323)
    have := Nat.and_le_right (n := X1 8 w) (m := 3689348814741910323)
    omega
  have hxe : x = (X2 8 (X1 8 w) / 16 + X2 8 (X1 8 w)) &&& 1085102592571150095 := by rw [hx, Pn, X3, mk8_15]
  have e1 : bits BinOp.and IntKind.u64 ((w : Int) / 2) 6148914691236517205 = ((w / 2 &&& 6148914691236517205 : Nat) : Int) := and_shape w 2 6148914691236517205 hw (by decide)
  have e2 : bits BinOp.and IntKind.u64 (w : Int) 6148914691236517205 = ((w &&& 6148914691236517205 : Nat) : Int) := bits_and_u64_nat w 6148914691236517205 hw (by decide)
  have h1 : X1 8 w = (w / 2 &&& 6148914691236517205) + (w &&& 6148914691236517205) := by unfold X1; rw [mk8_85]
  obtain ⟨y1, hy1⟩ : ∃ y1, y1 = X1 8 w := ⟨_, rfl⟩
  rw [← hy1] at q1 q2 hxe h1
  have e3 : IntKind.u64.wrap (((w / 2 &&& 6148914691236517205 : Nat) : Int) + ((w &&& 6148914691236517205 : Nat) : Int)) = (y1 : Int) := by
    rw [← Int.natCast_add, ← h1]; exact wrap_small _ q1
  have e4 : bits BinOp.and IntKind.u64 ((y1 : Int) / 4) 3689348814741910323 = ((y1 / 4 &&& 3689348814741910323 : Nat) : Int) := and_shape y1 4 3689348814741910323 q1 (by decide)
  have e5 : bits BinOp.and IntKind.u64 (y1 : Int) 3689348814741910323 = ((y1 &&& 3689348814741910323 : Nat) : Int) := bits_and_u64_nat y1 3689348814741910323 q1 (by decide)
  have h2 : X2 8 y1 = (y1 / 4 &&& 3689348814741910323) + (y1 &&& 3689348814741910323) := by unfold X2; rw [mk8_51]
  obtain ⟨y2, hy2⟩ : ∃ y2, y2 = X2 8 y1 := ⟨_, rfl⟩
  rw [← hy2] at q2 hxe h2
  have e6 : IntKind.u64.wrap (((y1 / 4 &&& 3689348814741910323 : Nat) : Int) + ((y1 &&& 3689348814741910323 : Nat) : Int)) = (y2 : Int) := by
    rw [← Int.natCast_add, ← h2]; exact wrap_small _ (by omega)
  obtain ⟨y3, hy3⟩ : ∃ y3, y3 = y2 / 16 + y2 := ⟨_, rfl⟩
  rw [← hy3] at hxe
  have e7 : IntKind.u64.wrap ((y2 : Int) / 16 + (y2 : Int)) = (y3 : Int) := by
    rw [hy3, ← wrap_small (y2 / 16 + y2) (by omega)]; congr 1
  have e8 : bits BinOp.and IntKind.u64 (y3 : Int) 1085102592571150095 = (x : Int) := by rw [hxe]; exact bits_and_u64_nat y3 1085102592571150095 (by omega) (by decide)
  have hx9 : x ≤ 1085102592571150095 := by rw [hxe]; exact Nat.and_le_right
  clear hx hxe h1 h2 hy1 hy2 hy3 q1 q2
  have e9 : IntKind.u64.wrap ((x : Int) + (x : Int) / 256) = ((x + x / 256 : Nat) : Int) := by
    have := wrap_small (x + x / 256) (by omega)
    rw [← this]; congr 1
  obtain ⟨y4, hy4⟩ : ∃ y4, y4 = x + x / 256 := ⟨_, rfl⟩
  rw [← hy4] at e9 hlt hpop
  have e10 : IntKind.u64.wrap ((y4 : Int) + (y4 : Int) / 65536) = ((y4 + y4 / 65536 : Nat) : Int) := by
    have := wrap_small (y4 + y4 / 65536) (by omega)
    rw [← this]; congr 1
  obtain ⟨y5, hy5⟩ : ∃ y5, y5 = y4 + y4 / 65536 := ⟨_, rfl⟩
  rw [← hy5] at e10 hlt hpop
  have e11 : IntKind.u64.wrap ((y5 : Int) + (y5 : Int) / 4294967296) = ((y5 + y5 / 4294967296 : Nat) : Int) := by
    have := wrap_small (y5 + y5 / 4294967296) (by omega)
    rw [← this]; congr 1
  obtain ⟨y6, hy6⟩ : ∃ y6, y6 = y5 + y5 / 4294967296 := ⟨_, rfl⟩
  rw [← hy6] at e11 hlt hpop
  have e12 : wrap64 (y6 : Int) = (y6 : Int) := w64' y6 hlt
  have e13 : bits BinOp.and IntKind.i64 (y6 : Int) 127 = ((wbits w).length : Int) := by rw [and127 y6 hlt, hpop]
  clear hy4 hy5 hy6 hx9 hlt hpop
  go_enter Tryd.func48, Tryd.ntmps48
  go_wp2
  go_ret
  exact ⟨rfl, rfl⟩
end Go.Proofs.YthfapneifbjlmaaDoor
end

section
namespace Go.Proofs.YthfapneifbjlmaaDoor
open Go.RowKit Go.Shelf
set_option linter.unusedVariables false
set_option linter.unusedSimpArgs false

theorem mems_len_snoc (ws : List Nat) (k : Nat) (hk : k < ws.length) : (mems 0 (ws.take (k + 1))).length = (mems 0 (ws.take k)).length + (wbits (wd ws k)).length := by
  have e : ws.take (k + 1) = ws.take k ++ [wd ws k] := by rw [List.take_succ_eq_append_getElem hk]; simp [wd, hk]
  rw [e, mems_snoc]; simp
theorem wbits_le (w : Nat) : (wbits w).length ≤ 64 := by
  unfold wbits; exact Nat.le_trans (List.length_filter_le _ _) (by simp)
theorem mems_len_le : ∀ (ws : List Nat) (i : Nat), (mems i ws).length ≤ 64 * ws.length
  | [], i => by simp [mems]
  | w :: ws, i => by
    have := mems_len_le ws (i + 1)
    have := wbits_le w
    simp only [mems, List.length_append, List.length_map, List.length_cons]; omega
theorem IsSet.small {W : World} {g h room : Nat} {ws : List Nat} (H : IsSet W g h room ws) : ws.length ≤ 64 ∧ ∀ j, wd ws j < 18446744073709551616 := by
  obtain ⟨cap, cur, _, _, _, _, _, _, h1, h2, h3⟩ := H
  refine ⟨by omega, fun j => ?_⟩
  unfold wd
  rw [List.getD_eq_getElem?_getD]
  cases hj : ws[j]? with
  | none => simp
  | some x => exact h3 x (List.mem_of_getElem? hj)

set_option maxHeartbeats 400000 in
theorem Count_set {W : World} {g h room : Nat} {ws : List Nat} (H : IsSet W g h room ws) :
    Calls Tryd.prog 21 #[.pointer (some ⟨g, 0, none⟩)] W fun e w' => e = .returned (.int .i64 (mems 0 ws).length) ∧ W = w' := by
  have halive := Lib.hid (alive_set H)
  obtain ⟨cap, h0, h1, h2, hcap⟩ := H.cells
  have HS := Lib.hid H
  obtain ⟨hsm, hwd⟩ := H.small
  clear H
  go_enter Tryd.func21, Tryd.ntmps21
  go_wp2_with (go_at_call 42; refine halive.out.mono ?_; rintro e w' ⟨rfl, rfl⟩)
  go_loopw [3, 5, 13] (fun v u i wr => ∃ k : Nat, k ≤ ws.length ∧ v = .int .i64 (mems 0 (ws.take k)).length ∧ i = .int .i64 k ∧ wr = W) (fun v u i wr => ws.length - (intOf i).toNat)
  case atStart => exact ⟨0, Nat.zero_le _, rfl, rfl, rfl⟩
  case round =>
    obtain ⟨k, hk, rfl, rfl, rfl⟩ := hrel
    by_cases hlt : k < ws.length
    · have hcl := (HS.out.word k hlt).1
      have hones := Lib.hid (Ones_any wr (wd ws k) (hwd k))
      have hl1 := mems_len_le (ws.take k) 0
      have hl2 := wbits_le (wd ws k)
      have hl3 : (ws.take k).length ≤ 64 := by simp; omega
      have hw : wrap64 (((mems 0 (ws.take k)).length : Int) + ((wbits (wd ws k)).length : Int)) = ((mems 0 (ws.take k)).length : Int) + ((wbits (wd ws k)).length : Int) := by unfold wrap64; omega
      go_wp2_with (go_at_call 48; refine hones.out.mono ?_; rintro e w' ⟨rfl, rfl⟩)
      go_roundw
      case rel => exact ⟨k + 1, by omega, by rw [mems_len_snoc ws k hlt]; simp, by simp, by simp⟩
      case measure => simp [intOf]; omega
    · go_wp2
      obtain rfl : k = ws.length := by omega
      go_ret
      simp
end Go.Proofs.YthfapneifbjlmaaDoor
end

section
namespace Go.Proofs.YthfapneifbjlmaaDoor
open Go.RowKit Go.Shelf
set_option linter.unusedVariables false
set_option linter.unusedSimpArgs false

def wor (a b : Nat) : Nat := a ||| b
def wand (a b : Nat) : Nat := a &&& b
def wout (a b : Nat) : Nat := a &&& (18446744073709551615 - b)
theorem wor_lt {a b : Nat} (ha : a < 18446744073709551616) (hb : b < 18446744073709551616) : wor a b < 18446744073709551616 := or_lt ha hb
theorem wand_lt {a b : Nat} (ha : a < 18446744073709551616) (hb : b < 18446744073709551616) : wand a b < 18446744073709551616 := and_lt _ ha
theorem wout_lt {a b : Nat} (ha : a < 18446744073709551616) (hb : b < 18446744073709551616) : wout a b < 18446744073709551616 := and_lt _ ha
theorem or_cl (W : World) (a b : Nat) (ha : a < 18446744073709551616) (hb : b < 18446744073709551616) : Calls Tryd.prog 47 #[.int .u64 a, .int .u64 b] W fun e w' => e = .returned (.int .u64 (wor a b)) ∧ w' = W := by
  have hq := u64_or_nat a b ha hb
  go_enter Tryd.func47, Tryd.ntmps47
  go_wp2
  go_ret
  exact ⟨rfl, rfl⟩
theorem and_cl (W : World) (a b : Nat) (ha : a < 18446744073709551616) (hb : b < 18446744073709551616) : Calls Tryd.prog 46 #[.int .u64 a, .int .u64 b] W fun e w' => e = .returned (.int .u64 (wand a b)) ∧ w' = W := by
  have hq := bits_and_u64_nat a b ha hb
  go_enter Tryd.func46, Tryd.ntmps46
  go_wp2
  go_ret
  exact ⟨rfl, rfl⟩
theorem out_cl (W : World) (a b : Nat) (ha : a < 18446744073709551616) (hb : b < 18446744073709551616) : Calls Tryd.prog 45 #[.int .u64 a, .int .u64 b] W fun e w' => e = .returned (.int .u64 (wout a b)) ∧ w' = W := by
  have hq := u64_andNot_nat a b ha hb
  go_enter Tryd.func45, Tryd.ntmps45
  go_wp2
  go_ret
  exact ⟨rfl, rfl⟩
/-- The words of which the first k are done. -/
def mix (f : Nat → Nat → Nat) (ws vs : List Nat) (k : Nat) : List Nat := (List.zipWith f ws vs).take k ++ ws.drop k
theorem mix_zero (f : Nat → Nat → Nat) (ws vs : List Nat) : mix f ws vs 0 = ws := by simp [mix]
theorem mix_all (f : Nat → Nat → Nat) (ws vs : List Nat) (h : vs.length = ws.length) : mix f ws vs ws.length = List.zipWith f ws vs := by
  simp only [mix, List.drop_length, List.append_nil]; exact List.take_of_length_le (by simp [h])
theorem mix_length (f : Nat → Nat → Nat) (ws vs : List Nat) (h : vs.length = ws.length) (k : Nat) (hk : k ≤ ws.length) : (mix f ws vs k).length = ws.length := by
  simp [mix, h]; omega
theorem mix_at (f : Nat → Nat → Nat) (ws vs : List Nat) (h : vs.length = ws.length) (k : Nat) (hk : k < ws.length) : wd (mix f ws vs k) k = wd ws k := by
  have hl : ((List.zipWith f ws vs).take k).length = k := by simp [h]; omega
  simp only [wd, List.getD_eq_getElem?_getD, mix]
  rw [List.getElem?_append_right (by omega), hl, List.getElem?_drop]; simp
theorem mix_set (f : Nat → Nat → Nat) (ws vs : List Nat) (h : vs.length = ws.length) (k : Nat) (hk : k < ws.length) : (mix f ws vs k).set k (f (wd ws k) (wd vs k)) = mix f ws vs (k + 1) := by
  have hl : ((List.zipWith f ws vs).take k).length = k := by simp [h]; omega
  have hz : k < (List.zipWith f ws vs).length := by simp [h]; omega
  unfold mix
  rw [List.set_append_right _ _ (by omega), hl, Nat.sub_self, List.drop_eq_getElem_cons hk, List.set_cons_zero, List.take_succ_eq_append_getElem hz]
  simp [wd, List.getElem?_eq_getElem hk, List.getElem?_eq_getElem (show k < vs.length by omega)]
theorem IsSet.notWords {W : World} {g h room g' h' room' : Nat} {ws vs : List Nat} (H : IsSet W g h room ws) (H' : IsSet W g' h' room' vs) : g ≠ h' := by
  obtain ⟨_, _, a, _⟩ := H
  obtain ⟨_, _, _, b, _⟩ := H'
  rintro rfl
  rw [a] at b
  simp at b
/-- Set t holds its words from place k on (its block may be the one that is written). -/
def From (W : World) (h : Nat) (vs : List Nat) (k : Nat) : Prop := ∀ j, k ≤ j → j < vs.length → W.cell? ⟨h, j, none⟩ = some (.int .u64 (wd vs j))

set_option maxHeartbeats 800000 in
theorem with_or {W : World} {g h room : Nat} {ws : List Nat} (H : IsSet W g h room ws) {g' h' : Nat} {vs : List Nat} (H' : IsSet W g' h' room vs) :
    Calls Tryd.prog 44 #[.pointer (some ⟨g, 0, none⟩), .pointer (some ⟨g', 0, none⟩), .func (.func 47) #[] #[]] W fun e w' => e = .returned (.int .i64 0) ∧ IsSet w' g h room (List.zipWith wor ws vs) ∧ Fr (fun k => k = h) W w' := by
  obtain ⟨cap, h0, h1, h2, hcap⟩ := H.cells
  obtain ⟨cap', h0', h1', h2', hcap'⟩ := H'.cells
  have hvl : vs.length = ws.length := by rw [H.len.1, H'.len.1]
  have al := Lib.hid (alive_set H)
  have al' := Lib.hid (fun n => alive_set (H'.drewN n))
  have HS := Lib.hid H
  have HS' := Lib.hid H'
  have hsm := H.small.1
  have hgh : g ≠ h := H.lt.2.2
  have hgh' : g' ≠ h := H'.notWords H
  clear H H'
  go_enter Tryd.func44, Tryd.ntmps44
  go_wp2_with (go_at_call 42; refine al.out.mono ?_; rintro e w' ⟨rfl, rfl⟩)
  go_quiet ((go_at_call 42; exact Calls.quiet_of_same ((al'.out _).mono (fun e w' h => ⟨h.1, h.2.symm⟩))))
  go_wp2_with fail
  go_loopw [7, 32] (fun u i wr => ∃ k : Nat, k ≤ ws.length ∧ i = .int .i64 k ∧ IsSet wr g h room (mix wor ws vs k) ∧ From wr h' vs k ∧ wr.cell? ⟨g', 1, none⟩ = some (.slice (some ⟨h', 0, none⟩) vs.length cap') ∧ Fr (fun k => k = h) W wr) (fun u i wr => ws.length - (intOf i).toNat)
  case atStart => exact ⟨0, Nat.zero_le _, rfl, by rw [mix_zero]; exact HS.out.drewN nq, fun j _ hj => (HS'.out.word j hj).1, h1', Fr.drewN _ W nq⟩
  case round =>
    obtain ⟨k, hk, rfl, hset, hfrom, hb1, hfr⟩ := hrel
    by_cases hlt : k < ws.length
    · have hml := mix_length wor ws vs hvl k hk
      obtain ⟨hc, hf⟩ := hset.word k (by omega)
      rw [mix_at wor ws vs hvl k hlt] at hc
      have hcv := hfrom k (Nat.le_refl _) (by omega)
      obtain ⟨capr, c0, c1, c2, hcapr⟩ := hset.cells
      rw [hml] at c1 hcapr
      have hcl := Lib.hid (or_cl wr.drew (wd ws k) (wd vs k) (HS.out.small.2 k) (HS'.out.small.2 k))
      have hst := Lib.hid (hset.store k (by omega) (wor (wd ws k) (wd vs k)) (wor_lt (HS.out.small.2 k) (HS'.out.small.2 k)))
      have HFM := Lib.hid hfrom
      have HSET := Lib.hid hset
      clear hset hfrom
      go_wp2_with fail
      refine wp_region_still_tail 22 (by kernel_rfl) (by kernel_rfl) ?_
      simp only [List.take_succ_cons, List.take_zero, List.drop_succ_cons, List.drop_zero]
      repeat still_step
      still_call hcl.out
      repeat still_step
      try refine wpStill_nil ?_
      change wpList _ _ _ _ _ wr.drew
      go_wp2
      go_roundw
      case rel =>
        refine ⟨k + 1, by omega, by simp, ?_, ?_, ?_, ?_⟩
        · rw [← mix_set wor ws vs hvl k hlt]; exact hst.out
        · exact fun j hj1 hj2 => (World.cell?_setCell_other _ _ _ _ (by intro h; injection h with h1 h2 h3; omega)).trans (HFM.out j (by omega) hj2)
        · exact (World.cell?_setCell_other _ _ _ _ (by intro h; injection h with h1 h2 h3; exact hgh' h1.symm)).trans hb1
        · exact (hfr.trans (Fr.drewN _ wr 1)).trans (Fr.setCell _ _ _ (fun _ => rfl))
      case measure => simp [intOf]; omega
    · obtain rfl : k = ws.length := by omega
      go_wp2
      go_ret
      refine ⟨rfl, ?_, hfr⟩
      rw [← mix_all wor ws vs hvl]
      exact hset

set_option maxHeartbeats 800000 in
theorem with_and {W : World} {g h room : Nat} {ws : List Nat} (H : IsSet W g h room ws) {g' h' : Nat} {vs : List Nat} (H' : IsSet W g' h' room vs) :
    Calls Tryd.prog 44 #[.pointer (some ⟨g, 0, none⟩), .pointer (some ⟨g', 0, none⟩), .func (.func 46) #[] #[]] W fun e w' => e = .returned (.int .i64 0) ∧ IsSet w' g h room (List.zipWith wand ws vs) ∧ Fr (fun k => k = h) W w' := by
  obtain ⟨cap, h0, h1, h2, hcap⟩ := H.cells
  obtain ⟨cap', h0', h1', h2', hcap'⟩ := H'.cells
  have hvl : vs.length = ws.length := by rw [H.len.1, H'.len.1]
  have al := Lib.hid (alive_set H)
  have al' := Lib.hid (fun n => alive_set (H'.drewN n))
  have HS := Lib.hid H
  have HS' := Lib.hid H'
  have hsm := H.small.1
  have hgh : g ≠ h := H.lt.2.2
  have hgh' : g' ≠ h := H'.notWords H
  clear H H'
  go_enter Tryd.func44, Tryd.ntmps44
  go_wp2_with (go_at_call 42; refine al.out.mono ?_; rintro e w' ⟨rfl, rfl⟩)
  go_quiet ((go_at_call 42; exact Calls.quiet_of_same ((al'.out _).mono (fun e w' h => ⟨h.1, h.2.symm⟩))))
  go_wp2_with fail
  go_loopw [7, 32] (fun u i wr => ∃ k : Nat, k ≤ ws.length ∧ i = .int .i64 k ∧ IsSet wr g h room (mix wand ws vs k) ∧ From wr h' vs k ∧ wr.cell? ⟨g', 1, none⟩ = some (.slice (some ⟨h', 0, none⟩) vs.length cap') ∧ Fr (fun k => k = h) W wr) (fun u i wr => ws.length - (intOf i).toNat)
  case atStart => exact ⟨0, Nat.zero_le _, rfl, by rw [mix_zero]; exact HS.out.drewN nq, fun j _ hj => (HS'.out.word j hj).1, h1', Fr.drewN _ W nq⟩
  case round =>
    obtain ⟨k, hk, rfl, hset, hfrom, hb1, hfr⟩ := hrel
    by_cases hlt : k < ws.length
    · have hml := mix_length wand ws vs hvl k hk
      obtain ⟨hc, hf⟩ := hset.word k (by omega)
      rw [mix_at wand ws vs hvl k hlt] at hc
      have hcv := hfrom k (Nat.le_refl _) (by omega)
      obtain ⟨capr, c0, c1, c2, hcapr⟩ := hset.cells
      rw [hml] at c1 hcapr
      have hcl := Lib.hid (and_cl wr.drew (wd ws k) (wd vs k) (HS.out.small.2 k) (HS'.out.small.2 k))
      have hst := Lib.hid (hset.store k (by omega) (wand (wd ws k) (wd vs k)) (wand_lt (HS.out.small.2 k) (HS'.out.small.2 k)))
      have HFM := Lib.hid hfrom
      have HSET := Lib.hid hset
      clear hset hfrom
      go_wp2_with fail
      refine wp_region_still_tail 22 (by kernel_rfl) (by kernel_rfl) ?_
      simp only [List.take_succ_cons, List.take_zero, List.drop_succ_cons, List.drop_zero]
      repeat still_step
      still_call hcl.out
      repeat still_step
      try refine wpStill_nil ?_
      change wpList _ _ _ _ _ wr.drew
      go_wp2
      go_roundw
      case rel =>
        refine ⟨k + 1, by omega, by simp, ?_, ?_, ?_, ?_⟩
        · rw [← mix_set wand ws vs hvl k hlt]; exact hst.out
        · exact fun j hj1 hj2 => (World.cell?_setCell_other _ _ _ _ (by intro h; injection h with h1 h2 h3; omega)).trans (HFM.out j (by omega) hj2)
        · exact (World.cell?_setCell_other _ _ _ _ (by intro h; injection h with h1 h2 h3; exact hgh' h1.symm)).trans hb1
        · exact (hfr.trans (Fr.drewN _ wr 1)).trans (Fr.setCell _ _ _ (fun _ => rfl))
      case measure => simp [intOf]; omega
    · obtain rfl : k = ws.length := by omega
      go_wp2
      go_ret
      refine ⟨rfl, ?_, hfr⟩
      rw [← mix_all wand ws vs hvl]
      exact hset

set_option maxHeartbeats 800000 in
theorem with_out {W : World} {g h room : Nat} {ws : List Nat} (H : IsSet W g h room ws) {g' h' : Nat} {vs : List Nat} (H' : IsSet W g' h' room vs) :
    Calls Tryd.prog 44 #[.pointer (some ⟨g, 0, none⟩), .pointer (some ⟨g', 0, none⟩), .func (.func 45) #[] #[]] W fun e w' => e = .returned (.int .i64 0) ∧ IsSet w' g h room (List.zipWith wout ws vs) ∧ Fr (fun k => k = h) W w' := by
  obtain ⟨cap, h0, h1, h2, hcap⟩ := H.cells
  obtain ⟨cap', h0', h1', h2', hcap'⟩ := H'.cells
  have hvl : vs.length = ws.length := by rw [H.len.1, H'.len.1]
  have al := Lib.hid (alive_set H)
  have al' := Lib.hid (fun n => alive_set (H'.drewN n))
  have HS := Lib.hid H
  have HS' := Lib.hid H'
  have hsm := H.small.1
  have hgh : g ≠ h := H.lt.2.2
  have hgh' : g' ≠ h := H'.notWords H
  clear H H'
  go_enter Tryd.func44, Tryd.ntmps44
  go_wp2_with (go_at_call 42; refine al.out.mono ?_; rintro e w' ⟨rfl, rfl⟩)
  go_quiet ((go_at_call 42; exact Calls.quiet_of_same ((al'.out _).mono (fun e w' h => ⟨h.1, h.2.symm⟩))))
  go_wp2_with fail
  go_loopw [7, 32] (fun u i wr => ∃ k : Nat, k ≤ ws.length ∧ i = .int .i64 k ∧ IsSet wr g h room (mix wout ws vs k) ∧ From wr h' vs k ∧ wr.cell? ⟨g', 1, none⟩ = some (.slice (some ⟨h', 0, none⟩) vs.length cap') ∧ Fr (fun k => k = h) W wr) (fun u i wr => ws.length - (intOf i).toNat)
  case atStart => exact ⟨0, Nat.zero_le _, rfl, by rw [mix_zero]; exact HS.out.drewN nq, fun j _ hj => (HS'.out.word j hj).1, h1', Fr.drewN _ W nq⟩
  case round =>
    obtain ⟨k, hk, rfl, hset, hfrom, hb1, hfr⟩ := hrel
    by_cases hlt : k < ws.length
    · have hml := mix_length wout ws vs hvl k hk
      obtain ⟨hc, hf⟩ := hset.word k (by omega)
      rw [mix_at wout ws vs hvl k hlt] at hc
      have hcv := hfrom k (Nat.le_refl _) (by omega)
      obtain ⟨capr, c0, c1, c2, hcapr⟩ := hset.cells
      rw [hml] at c1 hcapr
      have hcl := Lib.hid (out_cl wr.drew (wd ws k) (wd vs k) (HS.out.small.2 k) (HS'.out.small.2 k))
      have hst := Lib.hid (hset.store k (by omega) (wout (wd ws k) (wd vs k)) (wout_lt (HS.out.small.2 k) (HS'.out.small.2 k)))
      have HFM := Lib.hid hfrom
      have HSET := Lib.hid hset
      clear hset hfrom
      go_wp2_with fail
      refine wp_region_still_tail 22 (by kernel_rfl) (by kernel_rfl) ?_
      simp only [List.take_succ_cons, List.take_zero, List.drop_succ_cons, List.drop_zero]
      repeat still_step
      still_call hcl.out
      repeat still_step
      try refine wpStill_nil ?_
      change wpList _ _ _ _ _ wr.drew
      go_wp2
      go_roundw
      case rel =>
        refine ⟨k + 1, by omega, by simp, ?_, ?_, ?_, ?_⟩
        · rw [← mix_set wout ws vs hvl k hlt]; exact hst.out
        · exact fun j hj1 hj2 => (World.cell?_setCell_other _ _ _ _ (by intro h; injection h with h1 h2 h3; omega)).trans (HFM.out j (by omega) hj2)
        · exact (World.cell?_setCell_other _ _ _ _ (by intro h; injection h with h1 h2 h3; exact hgh' h1.symm)).trans hb1
        · exact (hfr.trans (Fr.drewN _ wr 1)).trans (Fr.setCell _ _ _ (fun _ => rfl))
      case measure => simp [intOf]; omega
    · obtain rfl : k = ws.length := by omega
      go_wp2
      go_ret
      refine ⟨rfl, ?_, hfr⟩
      rw [← mix_all wout ws vs hvl]
      exact hset

set_option maxHeartbeats 400000 in
theorem Or_set {W : World} {g h room : Nat} {ws : List Nat} (H : IsSet W g h room ws) {g' h' : Nat} {vs : List Nat} (H' : IsSet W g' h' room vs) :
    Calls Tryd.prog 20 #[.pointer (some ⟨g, 0, none⟩), .pointer (some ⟨g', 0, none⟩)] W fun e w' => e = .returned (.int .i64 0) ∧ IsSet w' g h room (List.zipWith wor ws vs) ∧ Fr (fun k => k = h) W w' := by
  have hw := Lib.hid (with_or H H')
  clear H H'
  go_enter Tryd.func20, Tryd.ntmps20
  go_wp2_with (go_at_call 44; refine hw.out.mono ?_; rintro e w' ⟨rfl, h2, h3⟩)
  go_ret
  exact ⟨rfl, h2, h3⟩

set_option maxHeartbeats 400000 in
theorem And_set {W : World} {g h room : Nat} {ws : List Nat} (H : IsSet W g h room ws) {g' h' : Nat} {vs : List Nat} (H' : IsSet W g' h' room vs) :
    Calls Tryd.prog 19 #[.pointer (some ⟨g, 0, none⟩), .pointer (some ⟨g', 0, none⟩)] W fun e w' => e = .returned (.int .i64 0) ∧ IsSet w' g h room (List.zipWith wand ws vs) ∧ Fr (fun k => k = h) W w' := by
  have hw := Lib.hid (with_and H H')
  clear H H'
  go_enter Tryd.func19, Tryd.ntmps19
  go_wp2_with (go_at_call 44; refine hw.out.mono ?_; rintro e w' ⟨rfl, h2, h3⟩)
  go_ret
  exact ⟨rfl, h2, h3⟩

set_option maxHeartbeats 400000 in
theorem Without_set {W : World} {g h room : Nat} {ws : List Nat} (H : IsSet W g h room ws) {g' h' : Nat} {vs : List Nat} (H' : IsSet W g' h' room vs) :
    Calls Tryd.prog 18 #[.pointer (some ⟨g, 0, none⟩), .pointer (some ⟨g', 0, none⟩)] W fun e w' => e = .returned (.int .i64 0) ∧ IsSet w' g h room (List.zipWith wout ws vs) ∧ Fr (fun k => k = h) W w' := by
  have hw := Lib.hid (with_out H H')
  clear H H'
  go_enter Tryd.func18, Tryd.ntmps18
  go_wp2_with (go_at_call 44; refine hw.out.mono ?_; rintro e w' ⟨rfl, h2, h3⟩)
  go_ret
  exact ⟨rfl, h2, h3⟩
end Go.Proofs.YthfapneifbjlmaaDoor
end

section
namespace Go.Proofs.YthfapneifbjlmaaDoor
open Go.RowKit Go.Shelf
set_option linter.unusedVariables false
set_option linter.unusedSimpArgs false

set_option maxHeartbeats 800000 in
theorem fits_set {W : World} {g h room : Nat} {ws : List Nat} (H : IsSet W g h room ws) {g' h' : Nat} {vs : List Nat} (H' : IsSet W g' h' room vs) :
    Calls Tryd.prog 49 #[.pointer (some ⟨g, 0, none⟩), .pointer (some ⟨g', 0, none⟩)] W fun e w' => e = .returned (.bool true) ∧ ∃ n, W.drewN n = w' := by
  obtain ⟨cap, h0, h1, h2, hcap⟩ := H.cells
  obtain ⟨cap', h0', h1', h2', hcap'⟩ := H'.cells
  have al : ∀ n v, (v = .pointer (some ⟨g, 0, none⟩) ∨ v = .pointer (some ⟨g', 0, none⟩)) → Calls Tryd.prog 42 #[v] (W.drewN n) fun e w' => e = .returned (.bool true) ∧ w' = W.drewN n := by
    rintro n v (rfl | rfl)
    · exact (alive_set (H.drewN n)).mono (fun e w' h => ⟨h.1, h.2.symm⟩)
    · exact (alive_set (H'.drewN n)).mono (fun e w' h => ⟨h.1, h.2.symm⟩)
  have al := Lib.hid al
  clear H H'
  go_enter Tryd.func49, Tryd.ntmps49
  go_wp2
  go_quiet ((go_at_call 42; exact Calls.quiet_of_same (al.out _ _ (by first | exact .inl rfl | exact .inr rfl))))
  go_wp2
  go_ret
  exact ⟨rfl, nq, rfl⟩

set_option maxHeartbeats 800000 in
theorem Within_set {W : World} {g h room : Nat} {ws : List Nat} (H : IsSet W g h room ws) {g' h' : Nat} {vs : List Nat} (H' : IsSet W g' h' room vs) :
    Calls Tryd.prog 23 #[.pointer (some ⟨g, 0, none⟩), .pointer (some ⟨g', 0, none⟩)] W fun e w' => (∃ b, e = .returned (.bool b) ∧ (b = true ↔ ∀ j, j < ws.length → wout (wd ws j) (wd vs j) = 0)) ∧ ∃ n, W.drewN n = w' := by
  obtain ⟨cap, h0, h1, h2, hcap⟩ := H.cells
  obtain ⟨cap', h0', h1', h2', hcap'⟩ := H'.cells
  have hvl : vs.length = ws.length := by rw [H.len.1, H'.len.1]
  have hf := Lib.hid (fits_set H H')
  have HS := Lib.hid H
  have HS' := Lib.hid H'
  have hsm := H.small.1
  clear H H'
  go_enter Tryd.func23, Tryd.ntmps23
  go_wp2_with (go_at_call 49; refine hf.out.mono ?_; rintro e w' ⟨rfl, n, rfl⟩)
  go_loopw [5, 6, 16] (fun v u i wr => ∃ k : Nat, k ≤ ws.length ∧ i = .int .i64 k ∧ wr = W.drewN n ∧ ∀ j, j < k → wout (wd ws j) (wd vs j) = 0) (fun v u i wr => ws.length - (intOf i).toNat)
  case atStart => exact ⟨0, Nat.zero_le _, rfl, rfl, fun j hj => by omega⟩
  case round =>
    obtain ⟨k, hk, rfl, rfl, hall⟩ := hrel
    by_cases hlt : k < ws.length
    · have hc := (HS.out.word k hlt).1
      have hc' := (HS'.out.word k (by omega)).1
      have ha := u64_andNot_nat (wd ws k) (wd vs k) (HS.out.small.2 k) (HS'.out.small.2 k)
      have HALL := Lib.hid hall
      clear hall
      obtain ⟨x, hx⟩ : ∃ x, x = wout (wd ws k) (wd vs k) := ⟨_, rfl⟩
      rw [show (wd ws k &&& (18446744073709551615 - wd vs k)) = x from hx.symm] at ha
      have HX := Lib.hid hx
      clear hx
      by_cases h0x : x = 0
      · subst h0x
        go_wp2
        go_roundw
        case rel =>
          refine ⟨k + 1, by omega, by simp, by simp, fun j hj => ?_⟩
          by_cases hjk : j < k
          · exact HALL.out j hjk
          · obtain rfl : j = k := by omega
            exact HX.out.symm
        case measure => simp [intOf]; omega
      · have hne : ((x : Int) != 0) = true := by rw [bne_iff_ne]; omega
        go_wp2
        go_ret
        refine ⟨⟨false, rfl, by simp; exact ⟨k, hlt, fun h => h0x (HX.out.trans h)⟩⟩, n, rfl⟩
    · obtain rfl : k = ws.length := by omega
      go_wp2
      go_ret
      exact ⟨⟨true, rfl, by simpa using hall⟩, n, rfl⟩
/-- Words in a row. -/
def Row (W : World) (h : Nat) (ws : List Nat) : Prop := ∀ j, j < ws.length → W.cell? ⟨h, j, none⟩ = some (.int .u64 (wd ws j))

set_option maxHeartbeats 800000 in
theorem Equal_rows (W : World) (h h' : Nat) (ws vs : List Nat) (c c' : Nat) (hr : Row W h ws) (hr' : Row W h' vs) (hl : vs.length = ws.length) (hsm : ws.length ≤ 64) :
    Calls Tryd.prog 50 #[.slice (some ⟨h, 0, none⟩) ws.length c, .slice (some ⟨h', 0, none⟩) vs.length c'] W fun e w' => (∃ b, e = .returned (.bool b) ∧ (b = true ↔ ws = vs)) ∧ ∃ n, W.drewN n = w' := by
  have HR := Lib.hid hr
  have HR' := Lib.hid hr'
  have HL := Lib.hid hl
  rw [hl]
  clear hr hr' hl
  go_enter Tryd.func50, Tryd.ntmps50
  go_wp2
  go_loopw [5, 13] (fun v i wr => ∃ k n : Nat, k ≤ ws.length ∧ i = .int .i64 k ∧ wr = W.drewN n ∧ ∀ j, j < k → wd ws j = wd vs j) (fun v i wr => ws.length - (intOf i).toNat)
  case atStart => exact ⟨0, 0, Nat.zero_le _, rfl, rfl, fun j hj => by omega⟩
  case round =>
    obtain ⟨k, n, hk, rfl, rfl, hall⟩ := hrel
    by_cases hlt : k < ws.length
    · have hc := HR.out k hlt
      have hc' := HR'.out k (by rw [HL.out]; exact hlt)
      have HALL := Lib.hid hall
      clear hall
      by_cases he : wd ws k = wd vs k
      · rw [← he] at hc'
        have HE := Lib.hid he
        clear he
        go_wp2_with fail
        go_quiet (fail)
        go_wp2
        go_roundw
        case rel =>
          refine ⟨k + 1, n + nq, by omega, by simp, rfl, fun j hj => ?_⟩
          by_cases hjk : j < k
          · exact HALL.out j hjk
          · obtain rfl : j = k := by omega
            exact HE.out
        case measure => simp [intOf]; omega
      · have hne : (((wd ws k : Nat) : Int) != ((wd vs k : Nat) : Int)) = true := by rw [bne_iff_ne]; omega
        have HE := Lib.hid he
        clear he
        go_wp2_with fail
        go_quiet (fail)
        go_wp2
        go_ret
        exact ⟨⟨false, rfl, by simp; rintro rfl; exact HE.out rfl⟩, n + nq, (World.drewN_drewN _ _ _).symm⟩
    · obtain rfl : k = ws.length := by omega
      go_wp2
      go_ret
      refine ⟨⟨true, rfl, by simp; exact List.ext_getElem HL.out.symm (fun j h1 h2 => by have := hall j h1; simpa [wd, h1, h2] using this)⟩, n, rfl⟩
theorem IsSet.row {W : World} {g h room : Nat} {ws : List Nat} (H : IsSet W g h room ws) : Row W h ws := fun j hj => (H.word j hj).1

set_option maxHeartbeats 800000 in
theorem Same_set {W : World} {g h room : Nat} {ws : List Nat} (H : IsSet W g h room ws) {g' h' : Nat} {vs : List Nat} (H' : IsSet W g' h' room vs) :
    Calls Tryd.prog 22 #[.pointer (some ⟨g, 0, none⟩), .pointer (some ⟨g', 0, none⟩)] W fun e w' => (∃ b, e = .returned (.bool b) ∧ (b = true ↔ ws = vs)) ∧ ∃ n, W.drewN n = w' := by
  obtain ⟨cap, h0, h1, h2, hcap⟩ := H.cells
  obtain ⟨cap', h0', h1', h2', hcap'⟩ := H'.cells
  have hvl : vs.length = ws.length := by rw [H.len.1, H'.len.1]
  have hf := Lib.hid (fun n => fits_set (H.drewN n) (H'.drewN n))
  have hq := Lib.hid (fun n => Equal_rows (W.drewN n) h h' ws vs cap cap' (H.drewN n).row (H'.drewN n).row hvl H.small.1)
  clear H H' hvl
  go_enter Tryd.func22, Tryd.ntmps22
  go_wp2_with fail
  by_cases hb : ws = vs
  · have hq2 : ∀ n, Calls Tryd.prog 50 #[.slice (some ⟨h, 0, none⟩) ws.length cap, .slice (some ⟨h', 0, none⟩) vs.length cap'] (W.drewN n) fun e w' => e = .returned (.bool true) ∧ ∃ m, w' = (W.drewN n).drewN m := fun n => (hq.out n).mono (fun e w' ⟨⟨b, h1, h2⟩, m, h3⟩ => ⟨by rw [h1, h2.2 hb], m, h3.symm⟩)
    have HQ2 := Lib.hid hq2
    have HB := Lib.hid hb
    clear hq2 hb
    go_quiet ((first | (go_at_call 49; exact Calls.quiet_of ((hf.out _).mono (fun e w' h => ⟨h.1, h.2.imp (fun _ h => h.symm)⟩))) | (go_at_call 50; exact Calls.quiet_of (HQ2.out _))))
    go_wp2
    go_ret
    exact ⟨⟨true, rfl, by simp [HB.out]⟩, nq, rfl⟩
  · have hq2 : ∀ n, Calls Tryd.prog 50 #[.slice (some ⟨h, 0, none⟩) ws.length cap, .slice (some ⟨h', 0, none⟩) vs.length cap'] (W.drewN n) fun e w' => e = .returned (.bool false) ∧ ∃ m, w' = (W.drewN n).drewN m := fun n => (hq.out n).mono (fun e w' ⟨⟨b, h1, h2⟩, m, h3⟩ => ⟨by rw [h1]; cases b with | true => exact absurd (h2.1 rfl) hb | false => rfl, m, h3.symm⟩)
    have HQ2 := Lib.hid hq2
    have HB := Lib.hid hb
    clear hq2 hb
    go_quiet ((first | (go_at_call 49; exact Calls.quiet_of ((hf.out _).mono (fun e w' h => ⟨h.1, h.2.imp (fun _ h => h.symm)⟩))) | (go_at_call 50; exact Calls.quiet_of (HQ2.out _))))
    go_wp2
    go_ret
    exact ⟨⟨false, rfl, by simp [HB.out]⟩, nq, rfl⟩
end Go.Proofs.YthfapneifbjlmaaDoor
end

section
namespace Go.Proofs.YthfapneifbjlmaaDoor
open Go.RowKit Go.Shelf
set_option linter.unusedVariables false
set_option linter.unusedSimpArgs false

theorem big_bit (a j : Nat) (ha : a < 18446744073709551616) (hj : 64 ≤ j) : a.testBit j = false := Nat.testBit_lt_two_pow (Nat.lt_of_lt_of_le ha (by
  have : (2 : Nat) ^ 64 ≤ 2 ^ j := Nat.pow_le_pow_right (by omega) hj
  simpa using this))
theorem wout_bit (a b j : Nat) (ha : a < 18446744073709551616) (hb : b < 18446744073709551616) : (wout a b).testBit j = (a.testBit j && !b.testBit j) := by
  unfold wout
  rw [Nat.testBit_and, show 18446744073709551615 - b = 2 ^ 64 - (b + 1) from by omega, Nat.testBit_two_pow_sub_succ (by omega)]
  by_cases hj : j < 64
  · simp [hj]
  · simp [big_bit a j ha (by omega)]
theorem wor_bit (a b j : Nat) : (wor a b).testBit j = (a.testBit j || b.testBit j) := Nat.testBit_or ..
theorem wand_bit (a b j : Nat) : (wand a b).testBit j = (a.testBit j && b.testBit j) := Nat.testBit_and ..
theorem zero_bits {a : Nat} (h : ∀ j, a.testBit j = false) : a = 0 := Nat.eq_of_testBit_eq fun j => by rw [h j]; simp
theorem l_none {a b : Nat} (ha : a < 18446744073709551616) (hb : b < 18446744073709551616) : wand (wout a b) (wand a b) = 0 := zero_bits fun j => by
  rw [wand_bit, wout_bit _ _ _ ha hb, wand_bit]; cases a.testBit j <;> cases b.testBit j <;> rfl
theorem l_both {a b : Nat} (ha : a < 18446744073709551616) (hb : b < 18446744073709551616) : wor (wout a b) (wand a b) = a := Nat.eq_of_testBit_eq fun j => by
  rw [wor_bit, wout_bit _ _ _ ha hb, wand_bit]; cases a.testBit j <;> cases b.testBit j <;> rfl
theorem l_w {a b : Nat} (ha : a < 18446744073709551616) (hb : b < 18446744073709551616) : wout (wout a b) a = 0 := zero_bits fun j => by
  rw [wout_bit _ _ _ (wout_lt ha hb) ha, wout_bit _ _ _ ha hb]; cases a.testBit j <;> cases b.testBit j <;> rfl
theorem l_u {a b : Nat} (ha : a < 18446744073709551616) (hb : b < 18446744073709551616) : wout (wand a b) b = 0 := zero_bits fun j => by
  rw [wout_bit _ _ _ (wand_lt ha hb) hb, wand_bit]; cases a.testBit j <;> cases b.testBit j <;> rfl
theorem l_s {a b : Nat} (ha : a < 18446744073709551616) (hb : b < 18446744073709551616) : wout a (wor a b) = 0 := zero_bits fun j => by
  rw [wout_bit _ _ _ ha (wor_lt ha hb), wor_bit]; cases a.testBit j <;> cases b.testBit j <;> rfl
theorem l_t {a b : Nat} (ha : a < 18446744073709551616) (hb : b < 18446744073709551616) : wout b (wor a b) = 0 := zero_bits fun j => by
  rw [wout_bit _ _ _ hb (wor_lt ha hb), wor_bit]; cases a.testBit j <;> cases b.testBit j <;> rfl
theorem filter_two (p q r : Nat → Bool) (h : ∀ j, p j = (q j || r j)) (hd : ∀ j, ¬ (q j = true ∧ r j = true)) : ∀ l : List Nat, (l.filter p).length = (l.filter q).length + (l.filter r).length
  | [] => rfl
  | x :: l => by
    have ih := filter_two p q r h hd l
    have h1 := h x
    have h2 := hd x
    cases hq : q x <;> cases hr : r x <;> simp [h1, hq, hr, ih] at h2 ⊢ <;> omega
theorem l_count {a b : Nat} (ha : a < 18446744073709551616) (hb : b < 18446744073709551616) : (wbits (wor a b)).length = (wbits (wout a b)).length + (wbits b).length := by
  unfold wbits
  refine filter_two _ _ _ (fun j => ?_) (fun j => ?_) _
  · rw [wor_bit, wout_bit _ _ _ ha hb]; cases a.testBit j <;> cases b.testBit j <;> rfl
  · rw [wout_bit _ _ _ ha hb]; cases a.testBit j <;> cases b.testBit j <;> simp
/-- .. and of rows of words. -/
def Words64 (ws : List Nat) : Prop := ∀ x, x ∈ ws → x < 18446744073709551616
theorem mems_count : ∀ (ws vs : List Nat) (i : Nat), vs.length = ws.length → Words64 ws → Words64 vs → (mems i (List.zipWith wor ws vs)).length = (mems i (List.zipWith wout ws vs)).length + (mems i vs).length
  | [], [], i, _, _, _ => rfl
  | a :: ws, b :: vs, i, h, h1, h2 => by
    have ih := mems_count ws vs (i + 1) (by simpa using h) (fun x hx => h1 x (List.mem_cons_of_mem _ hx)) (fun x hx => h2 x (List.mem_cons_of_mem _ hx))
    have hc := l_count (h1 a (by simp)) (h2 b (by simp))
    simp only [List.zipWith_cons_cons, mems, List.length_append, List.length_map, ih, hc]
    omega
theorem mems_none : ∀ (ws vs : List Nat) (i : Nat), Words64 ws → Words64 vs → mems i (List.zipWith wand (List.zipWith wout ws vs) (List.zipWith wand ws vs)) = []
  | [], vs, i, _, _ => by simp [mems]
  | a :: ws, [], i, _, _ => by simp [mems]
  | a :: ws, b :: vs, i, h1, h2 => by
    have ih := mems_none ws vs (i + 1) (fun x hx => h1 x (List.mem_cons_of_mem _ hx)) (fun x hx => h2 x (List.mem_cons_of_mem _ hx))
    simp only [List.zipWith_cons_cons, mems, ih, l_none (h1 a (by simp)) (h2 b (by simp)), wbits_zero]
    rfl
theorem zip_both : ∀ (ws vs : List Nat), vs.length = ws.length → Words64 ws → Words64 vs → List.zipWith wor (List.zipWith wout ws vs) (List.zipWith wand ws vs) = ws
  | [], [], _, _, _ => rfl
  | a :: ws, b :: vs, h, h1, h2 => by
    have ih := zip_both ws vs (by simpa using h) (fun x hx => h1 x (List.mem_cons_of_mem _ hx)) (fun x hx => h2 x (List.mem_cons_of_mem _ hx))
    simp only [List.zipWith_cons_cons, ih, l_both (h1 a (by simp)) (h2 b (by simp))]
theorem wd_zip (f : Nat → Nat → Nat) (ws vs : List Nat) (h : vs.length = ws.length) (j : Nat) (hj : j < ws.length) : wd (List.zipWith f ws vs) j = f (wd ws j) (wd vs j) := by
  simp [wd, List.getElem?_zipWith, List.getElem?_eq_getElem hj, List.getElem?_eq_getElem (show j < vs.length by omega)]
theorem wd_lt {ws : List Nat} (h : Words64 ws) (j : Nat) : wd ws j < 18446744073709551616 := by
  unfold wd
  rw [List.getD_eq_getElem?_getD]
  cases hj : ws[j]? with
  | none => simp
  | some x => exact h x (List.mem_of_getElem? hj)
end Go.Proofs.YthfapneifbjlmaaDoor
end
