/- The references of layers 2 and 4: names and symbols. -/
import Derived.Test.YtofinglgnkdflaaLQc
namespace Go.Proofs.Ytofinglgnkdflaa
open Go.RowKit
open Go.Proofs.Ytofinglgnkdflaa.PHistoryChecks Go.Proofs.YtofinglgnkdflaaW.PrintWords Go.Proofs.YtofinglgnkdflaaW.PrintLast Go.Proofs.YtofinglgnkdflaaW.PrintMore
set_option linter.unusedVariables false
set_option linter.unusedSimpArgs false
theorem all_rest_step (L : List S153) (k : Nat) (h : k < L.length) : (L.drop k).all (fun x => runeOk 1 x.f0) = (runeOk 1 (rd_T153 L (k : Int)).f0 && (L.drop (k + 1)).all (fun x => runeOk 1 x.f0)) := by
  rw [List.drop_eq_getElem_cons h, List.all_cons]
  have e : rd_T153 L (k : Int) = L[k] := by unfold rd_T153; rw [Int.toNat_natCast, List.getD_eq_getElem?_getD, List.getElem?_eq_getElem h]; rfl
  rw [e]
set_option maxHeartbeats 4000000 in
set_option maxRecDepth 100000 in
theorem rname_any (W : World) (s : ByteArray) (hs : s.size ≤ 1000000000) : Calls Try.prog 87 #[.string s] W (fun e w' => e = .returned (.bool (nameB s)) ∧ Below W.heap.size W w') := by
  have HR := Lib.hid (runes_any W s hs)
  unfold RunP at HR
  have HNM := Lib.hid (fun (L : List S153) (h : Runes2 L (runesOf s 0)) => name_runes h)
  obtain ⟨nb, hnb⟩ : ∃ b, b = nameB s := ⟨_, rfl⟩
  rw [← hnb] at HNM ⊢
  clear hnb
  go_enter Try.func87, Try.ntmps87
  go_wp2_with fail
  refine HR.out.mono ?_
  rintro e w1 ⟨v, L, rfl, hR, h2, hll, hb⟩
  obtain ⟨A, cap, hv⟩ := Kd.R_slice hR
  subst hv
  have HC := Lib.hid (Kd.R_reads' hR).2.2
  have HB := Lib.hid hb
  have HN := Lib.hid (HNM.out L h2)
  have hl9 : L.length ≤ 1000000000 := by omega
  obtain ⟨n, hn⟩ : ∃ n, n = L.length := ⟨_, rfl⟩
  rw [← hn] at HN hl9 HC ⊢
  have HNN := Lib.hid hn
  clear hR h2 hll hb HR hn hs
  by_cases c1 : n < 1
  · have HV := Lib.hid (show nb = false from by rw [HN.out, decide_eq_false (by omega)]; rfl)
    clear HN HNM
    go_wp2
    go_ret
    exact ⟨by rw [HV.out]; rfl, HB.out⟩
  · by_cases c2 : 32 < n
    · have HV := Lib.hid (show nb = false from by rw [HN.out, decide_eq_true (show 1 ≤ n by omega), decide_eq_false (show ¬ n ≤ 32 by omega)]; rfl)
      clear HN HNM
      have c1' : decide ((n : Int) < 1) = false := decide_eq_false (by omega)
      have c2' : decide ((n : Int) > 32) = true := decide_eq_true (by omega)
      go_wp2
      go_ret
      exact ⟨by rw [HV.out]; rfl, HB.out⟩
    · have HV := Lib.hid (show nb = (isLetter (rd_T153 L 0).f0 && (L.drop 1).all (fun x => runeOk 1 x.f0)) from by rw [HN.out, decide_eq_true (show 1 ≤ n by omega), decide_eq_true (show n ≤ 32 by omega)]; rfl)
      have c1' : decide ((n : Int) < 1) = false := decide_eq_false (by omega)
      have c2' : decide ((n : Int) > 32) = false := decide_eq_false (by omega)
      obtain ⟨ad, hA, hx0, hx1, hx2⟩ := at_T153 HC.out 0 (by omega) (by omega)
      subst hA
      obtain ⟨r0, hr0⟩ : ∃ r, r = (rd_T153 L 0).f0 := ⟨_, rfl⟩
      rw [← hr0] at hx0 HV
      replace hx0 : w1.cell? (ad.add (0 * 3)) = some (.int .i64 r0) := hx0
      rw [show 0 * 3 = 0 from rfl, Addr.add_zero'] at hx0
      have HL := Lib.hid (fun W1 => letter_any2 W1 r0)
      have hn0 : 0 < n := by omega
      clear hx1 hx2 HN hr0 HNM
      obtain ⟨lb, hlb⟩ : ∃ b, b = isLetter r0 := ⟨_, rfl⟩
      rw [← hlb] at HL HV
      clear hlb
      go_wp2_with fail
      refine (HL.out _).mono ?_
      rintro e w2 ⟨rfl, hw2⟩
      have HB2 := Lib.hid (HB.out.trans (hw2.mono HB.out.size))
      have HC2 := Lib.hid (Kd.C_below HC.out hw2)
      clear hw2 HL hx0 HB HC
      cases lb
      · have HV2 := Lib.hid (show nb = false from by rw [HV.out]; rfl)
        clear HV
        go_wp2
        go_ret
        exact ⟨by rw [HV2.out]; rfl, HB2.out⟩
      · have HV2 := Lib.hid (show nb = (L.drop 1).all (fun x => runeOk 1 x.f0) from by rw [HV.out]; rfl)
        clear HV
        go_wp2
        go_loopw [4] (fun kv wr => ∃ k : Nat, kv = .int .i64 k ∧ 1 ≤ k ∧ k ≤ n ∧ Hid (nb = (L.drop k).all (fun x => runeOk 1 x.f0)) ∧ Hid (Below w2.heap.size w2 wr)) (fun kv _ => n - (intOf kv).toNat)
        case atStart => exact ⟨1, rfl, by omega, by omega, HV2.out, Below.refl _ _⟩
        case round =>
          obtain ⟨k, rfl, hk1, hk, HK, HBW⟩ := hrel
          by_cases hlt : k < n
          · have hkl : k < L.length := by have := HNN.out; omega
            have HST := Lib.hid (all_rest_step L k hkl)
            obtain ⟨bd, hA, hx0, hx1, hx2⟩ := at_T153 (Kd.C_below HC2.out HBW.out) (k : Int) (by omega) (by omega)
            cases hA
            simp only [Int.toNat_natCast] at hx0
            obtain ⟨r, hr⟩ : ∃ r, r = (rd_T153 L (k : Int)).f0 := ⟨_, rfl⟩
            rw [← hr] at hx0 HST
            have HL := Lib.hid (fun W1 => rest_any W1 r)
            obtain ⟨lb, hlb⟩ : ∃ b, b = runeOk 1 r := ⟨_, rfl⟩
            rw [← hlb] at HL HST
            clear hx1 hx2 hr hlb hkl
            go_wp2_with fail
            refine (HL.out _).mono ?_
            rintro e w3 ⟨rfl, hw3⟩
            have HB3 := Lib.hid (HBW.out.trans (hw3.mono HBW.out.size))
            clear hw3 HL hx0
            cases lb
            · have HV3 := Lib.hid (show nb = false from by rw [HK.out, HST.out]; rfl)
              clear HST HK
              go_wp2
              go_ret
              exact ⟨by rw [HV3.out]; rfl, HB2.out.trans (HB3.out.mono HB2.out.size)⟩
            · have HV3 := Lib.hid (show nb = (L.drop (k + 1)).all (fun x => runeOk 1 x.f0) from by rw [HK.out, HST.out]; rfl)
              clear HST HK
              go_wp2
              go_roundw
              case rel => exact ⟨k + 1, by simp, by omega, by omega, HV3.out, HB3.out⟩
              case measure => simp [intOf]; omega
          · have HV3 := Lib.hid (show nb = true from by rw [HK.out, List.drop_eq_nil_of_le (by have := HNN.out; omega)]; rfl)
            clear HK
            go_wp2
            go_ret
            exact ⟨by rw [HV3.out]; rfl, HB2.out.trans (HBW.out.mono HB2.out.size)⟩
set_option maxHeartbeats 4000000 in
set_option maxRecDepth 100000 in
theorem rsymbol_any (W : World) (s : ByteArray) (hs : s.size ≤ 1000000000) : Calls Try.prog 105 #[.string s] W (fun e w' => e = .returned (.bool (symB s)) ∧ Below W.heap.size W w') := by
  have HN := Lib.hid (rname_any W s hs)
  obtain ⟨b, hb⟩ : ∃ b, b = nameB s := ⟨_, rfl⟩
  rw [← hb] at HN
  have HS := Lib.hid (show symB s = (b && (!(s.toList == [116, 114, 117, 101]) && !(s.toList == [102, 97, 108, 115, 101]))) from by rw [hb]; rfl)
  obtain ⟨sb, hsb⟩ : ∃ b, b = symB s := ⟨_, rfl⟩
  rw [← hsb] at HS ⊢
  clear hb hsb
  go_enter Try.func105, Try.ntmps105
  go_wp2_with fail
  refine HN.out.mono ?_
  rintro e w1 ⟨rfl, hw1⟩
  have HB := Lib.hid hw1
  clear hw1 HN
  cases b
  · have HV := Lib.hid (show sb = false from by rw [HS.out]; rfl)
    clear HS
    go_wp2
    go_ret
    exact ⟨by rw [HV.out]; rfl, HB.out⟩
  · cases h1 : (s.toList == [116, 114, 117, 101]) with
    | true =>
      have HV := Lib.hid (show sb = false from by rw [HS.out, h1]; rfl)
      have h1' : (s.toList != [116, 114, 117, 101]) = false := by rw [bne, h1]; rfl
      clear HS
      go_wp2
      go_ret
      exact ⟨by rw [HV.out]; rfl, HB.out⟩
    | false =>
      have h1' : (s.toList != [116, 114, 117, 101]) = true := by rw [bne, h1]; rfl
      cases h2 : (s.toList == [102, 97, 108, 115, 101]) with
      | true =>
        have HV := Lib.hid (show sb = false from by rw [HS.out, h1, h2]; rfl)
        have h2' : (s.toList != [102, 97, 108, 115, 101]) = false := by rw [bne, h2]; rfl
        clear HS
        go_wp2
        go_ret
        exact ⟨by rw [HV.out]; rfl, HB.out⟩
      | false =>
        have HV := Lib.hid (show sb = true from by rw [HS.out, h1, h2]; rfl)
        have h2' : (s.toList != [102, 97, 108, 115, 101]) = true := by rw [bne, h2]; rfl
        clear HS
        go_wp2
        go_ret
        exact ⟨by rw [HV.out]; rfl, HB.out⟩
end Go.Proofs.Ytofinglgnkdflaa
