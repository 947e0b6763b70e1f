/- The reference of layer 7: names, Proc, Object. -/
import Derived.Test.YtofinglgnkdflaaLQk
import Derived.Test.YtofinglgnkdflaaLXH
import Derived.Test.YtofinglgnkdflaaLXP
import Derived.BigQuiet
namespace Go.Proofs.Ytofinglgnkdflaa
open Go.RowKit
open Go.Proofs.Ytofinglgnkdflaa.PHistoryChecks Go.Proofs.YtofinglgnkdflaaW.PrintWords Go.Proofs.YtofinglgnkdflaaW.PrintLast Go.Proofs.YtofinglgnkdflaaW.PrintMore
set_option linter.unusedVariables false
set_option linter.unusedSimpArgs false
set_option maxHeartbeats 4000000 in
theorem rnames_any (l m : List ByteArray) (A B : Option Addr) (c d : Nat) (W : World) (hCa : Kd.string.C W A l.length l) (hc : l.length ≤ c) (hCb : Kd.string.C W B m.length m) (hd : m.length ≤ d) :
    Calls Try.prog 61 #[.slice A l.length c, .slice B m.length d] W (fun e w' => e = .returned (.bool (eqS l m)) ∧ Below W.heap.size W w') := by
  have hla := Kd.C_max hCa
  have hlb := Kd.C_max hCb
  have HCa := Lib.hid hCa
  have HCb := Lib.hid hCb
  clear hCa hCb
  go_enter Try.func61, Try.ntmps61
  by_cases hl : l.length = m.length
  · have hl' : ((l.length : Int) != (m.length : Int)) = false := by rw [bne_eq_false_iff_eq]; omega
    have HL := Lib.hid hl
    have HST := Lib.hid (show eqS l m = eqS (l.drop (0 : Int).toNat) (m.drop (0 : Int).toNat) from rfl)
    clear hl
    go_wp2
    go_loopw [5] (fun iv wr => ∃ i : Int, iv = .int .i64 i ∧ 0 ≤ i ∧ i ≤ (l.length : Int) ∧ Hid (eqS l m = eqS (l.drop i.toNat) (m.drop i.toNat)) ∧ Hid (Below W.heap.size W wr)) (fun i _ => l.length - (intOf i).toNat)
    case atStart => exact ⟨0, rfl, by omega, by omega, HST.out, Below.refl _ _⟩
    case round =>
      obtain ⟨i, rfl, hi0, hi1, HI, HB⟩ := hrel
      by_cases hlt : i < (l.length : Int)
      · obtain ⟨ad, hAd, x0⟩ := Kd.at_string (Kd.C_below HCa.out HB.out) i hi0 hlt
        have hlt2 : i < (m.length : Int) := by have := HL.out; omega
        obtain ⟨bd, hBd, y0⟩ := Kd.at_string (Kd.C_below HCb.out HB.out) i hi0 hlt2
        have hstep := Lib.hid (eqS_from l m HL.out i hi0 hlt)
        unfold rdS at hstep
        obtain ⟨x, hx⟩ : ∃ x, x = rdOf ByteArray.empty l i := ⟨_, rfl⟩
        obtain ⟨y, hy⟩ : ∃ y, y = rdOf ByteArray.empty m i := ⟨_, rfl⟩
        rw [← hx, ← hy] at hstep
        rw [← hx] at x0
        rw [← hy] at y0
        rw [hAd, hBd]
        clear hx hy hAd hBd
        obtain ⟨r, hr⟩ : ∃ r, (x.toList == y.toList) = r := ⟨_, rfl⟩
        rw [hr] at hstep
        cases r
        · have hr' : (x.toList != y.toList) = true := by unfold bne; rw [hr]; rfl
          have HR := Lib.hid (show eqS l m = false from by rw [HI.out, hstep.out]; rfl)
          go_wp2
          go_quiet (fail)
          go_wp2
          go_ret
          exact ⟨by rw [HR.out]; rfl, by first | exact HB.out | exact below_drew HB.out | exact pw_below_drewN HB.out _⟩
        · have hr' : (x.toList != y.toList) = false := by unfold bne; rw [hr]; rfl
          have HN := Lib.hid (show eqS l m = eqS (l.drop (i + 1).toNat) (m.drop (i + 1).toNat) from by rw [HI.out, hstep.out]; rfl)
          go_wp2
          go_quiet (fail)
          go_wp2
          go_roundw
          case rel => exact ⟨i + 1, rfl, by omega, by omega, HN.out, by first | exact HB.out | exact below_drew HB.out | exact pw_below_drewN HB.out _⟩
          case measure => simp [intOf]; omega
      · have HR := Lib.hid (show eqS l m = true from by rw [HI.out]; exact eqS_end _ _ HL.out _ hlt)
        have hge : (l.length : Int) ≤ i := by omega
        clear hlt
        go_wp2
        go_ret
        exact ⟨by rw [HR.out]; rfl, HB.out⟩
  · have hl' : ((l.length : Int) != (m.length : Int)) = true := by rw [bne_iff_ne]; omega
    have HR := Lib.hid (eqS_len l m hl)
    clear hl
    go_wp2
    go_ret
    exact ⟨by rw [HR.out]; rfl, Below.refl _ _⟩
end Go.Proofs.Ytofinglgnkdflaa
