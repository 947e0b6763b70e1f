/- Layer 3: OnesCount64. -/
import Derived.Test.YthfapneifbjlmaaDoorD
import Derived.Test.YthfapneifbjlmaaDoorPop
namespace Go.Proofs.YthfapneifbjlmaaDoor
open Go.RowKit Go.Shelf
set_option linter.unusedVariables false
set_option linter.unusedSimpArgs false

theorem and_shape (x k m : Nat) (hx : x < 18446744073709551616) (hm : m < 18446744073709551616) : bits BinOp.and IntKind.u64 ((x : Int) / (k : Int)) (m : Int) = ((x / k &&& m : Nat) : Int) := by
  rw [← Int.natCast_ediv]
  exact bits_and_u64_nat _ _ (Nat.lt_of_le_of_lt (Nat.div_le_self _ _) hx) hm
theorem wrap_small (x : Nat) (hx : x < 18446744073709551616) : IntKind.u64.wrap (x : Int) = (x : Int) := by
  rw [IntKind.wrap_u64]; exact Int.emod_eq_of_lt (by omega) (by omega)

theorem two63 : (2 : Int) ^ 63 = 9223372036854775808 := by decide
theorem two7 : (2 : Int) ^ 7 = 128 := by decide
theorem and127 (y : Nat) (h : y < 9223372036854775808) : bits BinOp.and IntKind.i64 (y : Int) 127 = ((y % 128 : Nat) : Int) := by
  have h := bits_mask .i64 63 (by decide) (fun n h0 h1 => by rw [two63] at h1; rw [IntKind.wrap_i64]; omega) 7 (by decide) (y : Int) (by omega) (by rw [two63]; omega)
  rw [two7] at h
  rw [show (127 : Int) = 128 - 1 from rfl, h]
  omega
theorem w64' (y : Nat) (h : y < 9223372036854775808) : wrap64 (y : Int) = (y : Int) := by unfold wrap64; omega
theorem Ones_any (W : World) (w : Nat) (hw : w < 18446744073709551616) : Calls Tryd.prog 48 #[.int .u64 w] W fun e w' => e = .returned (.int .i64 (wbits w).length) ∧ W = w' := by
  obtain ⟨x, hx, hlt, hpop⟩ := pop_law w hw
  have q1 : X1 8 w < 18446744073709551616 := by
    unfold X1; rw [mk8_85]
    have := Nat.and_le_right (n := w / 2) (m := 6148914691236517205)
    have := Nat.and_le_right (n := w) (m := 6148914691236517205)
    omega
  have q2 : X2 8 (X1 8 w) < 18446744073709551616 / 2 := by
    unfold X2; rw [mk8_51]
    have := Nat.and_le_right (n := X1 8 w / 4) (m := 3689348814741910323)
    have := Nat.and_le_right (n := X1 8 w) (m := 3689348814741910323)
    omega
  have hxe : x = (X2 8 (X1 8 w) / 16 + X2 8 (X1 8 w)) &&& 1085102592571150095 := by rw [hx, Pn, X3, mk8_15]
  have e1 : bits BinOp.and IntKind.u64 ((w : Int) / 2) 6148914691236517205 = ((w / 2 &&& 6148914691236517205 : Nat) : Int) := and_shape w 2 6148914691236517205 hw (by decide)
  have e2 : bits BinOp.and IntKind.u64 (w : Int) 6148914691236517205 = ((w &&& 6148914691236517205 : Nat) : Int) := bits_and_u64_nat w 6148914691236517205 hw (by decide)
  have h1 : X1 8 w = (w / 2 &&& 6148914691236517205) + (w &&& 6148914691236517205) := by unfold X1; rw [mk8_85]
  obtain ⟨y1, hy1⟩ : ∃ y1, y1 = X1 8 w := ⟨_, rfl⟩
  rw [← hy1] at q1 q2 hxe h1
  have e3 : IntKind.u64.wrap (((w / 2 &&& 6148914691236517205 : Nat) : Int) + ((w &&& 6148914691236517205 : Nat) : Int)) = (y1 : Int) := by
    rw [← Int.natCast_add, ← h1]; exact wrap_small _ q1
  have e4 : bits BinOp.and IntKind.u64 ((y1 : Int) / 4) 3689348814741910323 = ((y1 / 4 &&& 3689348814741910323 : Nat) : Int) := and_shape y1 4 3689348814741910323 q1 (by decide)
  have e5 : bits BinOp.and IntKind.u64 (y1 : Int) 3689348814741910323 = ((y1 &&& 3689348814741910323 : Nat) : Int) := bits_and_u64_nat y1 3689348814741910323 q1 (by decide)
  have h2 : X2 8 y1 = (y1 / 4 &&& 3689348814741910323) + (y1 &&& 3689348814741910323) := by unfold X2; rw [mk8_51]
  obtain ⟨y2, hy2⟩ : ∃ y2, y2 = X2 8 y1 := ⟨_, rfl⟩
  rw [← hy2] at q2 hxe h2
  have e6 : IntKind.u64.wrap (((y1 / 4 &&& 3689348814741910323 : Nat) : Int) + ((y1 &&& 3689348814741910323 : Nat) : Int)) = (y2 : Int) := by
    rw [← Int.natCast_add, ← h2]; exact wrap_small _ (by omega)
  obtain ⟨y3, hy3⟩ : ∃ y3, y3 = y2 / 16 + y2 := ⟨_, rfl⟩
  rw [← hy3] at hxe
  have e7 : IntKind.u64.wrap ((y2 : Int) / 16 + (y2 : Int)) = (y3 : Int) := by
    rw [hy3, ← wrap_small (y2 / 16 + y2) (by omega)]; congr 1
  have e8 : bits BinOp.and IntKind.u64 (y3 : Int) 1085102592571150095 = (x : Int) := by rw [hxe]; exact bits_and_u64_nat y3 1085102592571150095 (by omega) (by decide)
  have hx9 : x ≤ 1085102592571150095 := by rw [hxe]; exact Nat.and_le_right
  clear hx hxe h1 h2 hy1 hy2 hy3 q1 q2
  have e9 : IntKind.u64.wrap ((x : Int) + (x : Int) / 256) = ((x + x / 256 : Nat) : Int) := by
    have := wrap_small (x + x / 256) (by omega)
    rw [← this]; congr 1
  obtain ⟨y4, hy4⟩ : ∃ y4, y4 = x + x / 256 := ⟨_, rfl⟩
  rw [← hy4] at e9 hlt hpop
  have e10 : IntKind.u64.wrap ((y4 : Int) + (y4 : Int) / 65536) = ((y4 + y4 / 65536 : Nat) : Int) := by
    have := wrap_small (y4 + y4 / 65536) (by omega)
    rw [← this]; congr 1
  obtain ⟨y5, hy5⟩ : ∃ y5, y5 = y4 + y4 / 65536 := ⟨_, rfl⟩
  rw [← hy5] at e10 hlt hpop
  have e11 : IntKind.u64.wrap ((y5 : Int) + (y5 : Int) / 4294967296) = ((y5 + y5 / 4294967296 : Nat) : Int) := by
    have := wrap_small (y5 + y5 / 4294967296) (by omega)
    rw [← this]; congr 1
  obtain ⟨y6, hy6⟩ : ∃ y6, y6 = y5 + y5 / 4294967296 := ⟨_, rfl⟩
  rw [← hy6] at e11 hlt hpop
  have e12 : wrap64 (y6 : Int) = (y6 : Int) := w64' y6 hlt
  have e13 : bits BinOp.and IntKind.i64 (y6 : Int) 127 = ((wbits w).length : Int) := by rw [and127 y6 hlt, hpop]
  clear hy4 hy5 hy6 hx9 hlt hpop
  go_enter Tryd.func48, Tryd.ntmps48
  go_wp2
  go_ret
  exact ⟨rfl, rfl⟩
end Go.Proofs.YthfapneifbjlmaaDoor
