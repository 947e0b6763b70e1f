/- The reference of layer 7: add, a response. -/
import Derived.Test.YtofinglgnkdflaaLXH
import Derived.Test.YtofinglgnkdflaaLXE
section
namespace Go.Proofs.Ytofinglgnkdflaa
open Go.RowKit
open Go.Proofs.Ytofinglgnkdflaa.PHistoryChecks Go.Proofs.YtofinglgnkdflaaW.PrintWords Go.Proofs.YtofinglgnkdflaaW.PrintLast Go.Proofs.YtofinglgnkdflaaW.PrintMore
set_option linter.unusedVariables false
set_option linter.unusedSimpArgs false
set_option maxHeartbeats 2000000 in
theorem find_any (l : List ByteArray) (s : ByteArray) (A : Option Addr) (c : Nat) (W : World) (hCa : Kd.string.C W A l.length l) (hc : l.length ≤ c) :
    Calls Try.prog 66 #[.slice A l.length c, .string s] W (fun e w' => e = .returned (.int .i64 (ixFrom s l 0)) ∧ Below W.heap.size W w') := by
  have hla := Kd.C_max hCa
  have HCa := Lib.hid hCa
  have HST := Lib.hid (show ixFrom s l 0 = ixFrom s (l.drop (0 : Int).toNat) 0 from rfl)
  obtain ⟨r, hr⟩ : ∃ r, r = ixFrom s l 0 := ⟨_, rfl⟩
  rw [← hr] at HST ⊢
  clear hCa hr
  go_enter Try.func66, Try.ntmps66
  go_wp2
  go_loopw [5] (fun iv wr => ∃ i : Int, iv = .int .i64 i ∧ 0 ≤ i ∧ i ≤ (l.length : Int) ∧ Hid (r = ixFrom s (l.drop i.toNat) i) ∧ Hid (Below W.heap.size W wr)) (fun i _ => l.length - (intOf i).toNat)
  case atStart => exact ⟨0, rfl, by omega, by omega, HST.out, Below.refl _ _⟩
  case round =>
    obtain ⟨i, rfl, hi0, hi1, HI, HB⟩ := hrel
    by_cases hlt : i < (l.length : Int)
    · obtain ⟨ad, hAd, x0⟩ := Kd.at_string (Kd.C_below HCa.out HB.out) i hi0 hlt
      have hstep := Lib.hid (HI.out.trans (ixFrom_step s l i hi0 hlt))
      obtain ⟨x, hx⟩ : ∃ x, x = rdOf ByteArray.empty l i := ⟨_, rfl⟩
      rw [← hx] at hstep x0
      cases hAd
      clear hx
      obtain ⟨b, hb⟩ : ∃ b, (s.toList == x.toList) = b := ⟨_, rfl⟩
      rw [hb] at hstep
      have hb' : (x.toList == s.toList) = b := by rw [← hb]; exact Bool.beq_comm
      clear hb
      cases b
      · have HN := Lib.hid (show r = ixFrom s (l.drop (i + 1).toNat) (i + 1) from by rw [hstep.out]; rfl)
        go_wp2
        go_roundw
        case rel => exact ⟨i + 1, rfl, by omega, by omega, HN.out, by first | exact HB.out | exact below_drew HB.out | exact pw_below_drewN HB.out _⟩
        case measure => simp [intOf]; omega
      · have HR := Lib.hid (show r = i from by rw [hstep.out]; rfl)
        go_wp2
        go_ret
        exact ⟨by rw [HR.out]; rfl, by first | exact HB.out | exact below_drew HB.out | exact pw_below_drewN HB.out _⟩
    · have HR := Lib.hid (show r = -1 from by rw [HI.out]; exact ixFrom_end _ _ _ hlt)
      have hge : (l.length : Int) ≤ i := by omega
      clear hlt
      go_wp2
      go_ret
      exact ⟨by rw [HR.out]; rfl, HB.out⟩
def opnTo (l : List S50) (pr : Int) : Nat → Int
  | 0 => -1
  | k + 1 => if (rd_T50 l k).f0 = pr then (if (rd_T50 l k).f5 < 0 then (k : Int) else -1) else opnTo l pr k
def opnF (l : List S50) (pr : Int) : Int := opnTo l pr l.length
set_option maxHeartbeats 2000000 in
set_option maxRecDepth 100000 in
theorem ropen_any (W : World) (v1 v2 : Value) (l : List S50) (A : Option Addr) (c : Nat) (pr : Int) (hC : k50.C W A l.length l) (h1 : v1.oneCell' = true) (h2 : v2.oneCell' = true) :
    Calls Try.prog 88 #[.agg #[v1, v2, .slice A l.length c], .int .i64 pr] W (fun e w' => e = .returned (.int .i64 (opnF l pr)) ∧ Below W.heap.size W w') := by
  have hlm := Kd.C_max hC
  have HC := Lib.hid hC
  obtain ⟨r, hr⟩ : ∃ r, r = opnF l pr := ⟨_, rfl⟩
  have HST := Lib.hid (show r = opnTo l pr l.length from hr)
  rw [← hr]
  clear hr hC
  go_enter Try.func88, Try.ntmps88
  go_wp2
  have HB0 := Lib.hid (below_alloc (Below.refl W.heap.size W) (.cells #[v1, v2, .slice A l.length c] 30))
  have HX0 := Lib.hid (heap_alloc_new W (.cells #[v1, v2, .slice A l.length c] 30))
  go_loopw [5] (fun iv wr => ∃ k : Nat, iv = .int .i64 ((k : Int) - 1) ∧ k ≤ l.length ∧ Hid (r = opnTo l pr k) ∧ Hid (wr.heap[W.heap.size]? = some (.cells #[v1, v2, .slice A l.length c] 30 (0, 0))) ∧ Hid (Below W.heap.size W wr)) (fun i _ => (intOf i + 1).toNat)
  case atStart => exact ⟨l.length, rfl, Nat.le_refl _, HST.out, HX0.out, HB0.out⟩
  case round =>
    obtain ⟨k, rfl, hk, HR, HX, HB⟩ := hrel
    clear HST HB0 HX0
    have q2 : wr.cell? ⟨W.heap.size, 2, none⟩ = some (.slice A l.length c) := (blk_cell HX.out 2).trans rfl
    cases k with
    | zero =>
      have HE := Lib.hid (show r = -1 from HR.out)
      clear HR
      go_wp2
      go_ret
      exact ⟨by rw [HE.out]; rfl, HB.out⟩
    | succ k =>
      obtain ⟨ad, A7, c7, A14, c14, hAd, x0, x1, x2, x3, x4, x5, x6, x7, x8, x9, x10, x11, x12, x13, x14, _⟩ := at_T50 (Kd.C_below HC.out HB.out) (k : Int) (by omega) (by omega)
      have hr := HR.out
      unfold opnTo at hr
      obtain ⟨x, hx⟩ : ∃ x, x = rd_T50 l (k : Int) := ⟨_, rfl⟩
      rw [← hx] at x0 x9 hr
      simp only [Int.toNat_natCast] at x0 x9
      cases hAd
      have ek : ((k + 1 : Nat) : Int) - 1 = (k : Int) := by omega
      rw [ek]
      have hkl : (k : Int) < (l.length : Int) := by omega
      clear hx x1 x2 x3 x4 x5 x6 x7 x8 x10 x11 x12 x13 x14 HR ek
      by_cases hp : x.f0 = pr
      · have hp' : (x.f0 == pr) = true := by rw [beq_iff_eq]; exact hp
        rw [if_pos hp] at hr
        clear hp
        by_cases h5 : x.f5 < 0
        · have HE := Lib.hid (show r = (k : Int) from by rw [hr, if_pos h5])
          clear hr
          go_wp2
          go_ret
          exact ⟨by rw [HE.out]; rfl, HB.out⟩
        · have HE := Lib.hid (show r = -1 from by rw [hr, if_neg h5])
          have h5' : 0 ≤ x.f5 := by omega
          clear hr h5
          go_wp2
          go_ret
          exact ⟨by rw [HE.out]; rfl, HB.out⟩
      · have hp' : (x.f0 == pr) = false := by rw [beq_eq_false_iff_ne]; exact hp
        rw [if_neg hp] at hr
        have HE := Lib.hid hr
        clear hp hr
        go_wp2
        go_roundw
        case rel => exact ⟨k, rfl, by omega, HE.out, HX.out, HB.out⟩
        case measure => simp [intOf]
structure Lg where
  c : Int
  p : Int
  w : Int
def lgStep (at_ : Int) (s : Lg) (x : S50) : Lg := ⟨s.c + 1, max s.p (x.f0 + 1), if x.f5 < 0 ∨ at_ < x.f5 then s.w + 1 else s.w⟩
def lgGo (at_ : Int) : List S50 → Lg → Lg
  | [], s => s
  | x :: l, s => if x.f4 ≤ at_ then lgGo at_ l (lgStep at_ s x) else s
def lgB (s : Lg) : Bool := decide (4096 < s.c) || (decide (64 < s.p) || decide (10 < s.w))
def largeF (l : List S50) (at_ : Int) : Bool := lgB (lgGo at_ l ⟨0, 0, 0⟩)
theorem lgGo_step (at_ : Int) (l : List S50) (s : Lg) (i : Int) (h0 : 0 ≤ i) (h1 : i < (l.length : Int)) : lgGo at_ (l.drop i.toNat) s = if (rd_T50 l i).f4 ≤ at_ then lgGo at_ (l.drop (i + 1).toNat) (lgStep at_ s (rd_T50 l i)) else s := by
  have hn : i.toNat < l.length := by omega
  have e : rd_T50 l i = l[i.toNat] := by unfold rd_T50; rw [List.getD_eq_getElem?_getD, List.getElem?_eq_getElem hn]; rfl
  have e2 : (i + 1).toNat = i.toNat + 1 := by omega
  rw [e2, List.drop_eq_getElem_cons hn, e]
  rfl
set_option maxHeartbeats 4000000 in
set_option maxRecDepth 100000 in
theorem large_any (W : World) (v1 v2 : Value) (l : List S50) (A : Option Addr) (c : Nat) (at_ : Int) (hC : k50.C W A l.length l) (h1 : v1.oneCell' = true) (h2 : v2.oneCell' = true) (hl : l.length ≤ 1000000)
    (hp : ∀ i : Int, 0 ≤ i → i < (l.length : Int) → 0 ≤ (rd_T50 l i).f0 ∧ (rd_T50 l i).f0 ≤ 1000000) :
    Calls Try.prog 60 #[.agg #[v1, v2, .slice A l.length c], .int .i64 at_] W (fun e w' => e = .returned (.bool (largeF l at_)) ∧ Below W.heap.size W w') := by
  have HC := Lib.hid hC
  have HP := Lib.hid hp
  obtain ⟨r, hr⟩ : ∃ r, r = largeF l at_ := ⟨_, rfl⟩
  have HST := Lib.hid (show r = lgB (lgGo at_ (l.drop (0 : Int).toNat) ⟨0, 0, 0⟩) from hr)
  rw [← hr]
  clear hr hC hp
  have HB0 := Lib.hid (below_alloc (Below.refl W.heap.size W) (.cells #[v1, v2, .slice A l.length c] 30))
  have HX0 := Lib.hid (heap_alloc_new W (.cells #[v1, v2, .slice A l.length c] 30))
  go_enter Try.func60, Try.ntmps60
  go_wp2
  go_loopw [8, 5, 6, 7] (fun iv cv pv wv wr => ∃ (i : Int) (s : Lg), iv = .int .i64 i ∧ cv = .int .i64 s.c ∧ pv = .int .i64 s.p ∧ wv = .int .i64 s.w ∧ 0 ≤ i ∧ i ≤ (l.length : Int) ∧ 0 ≤ s.c ∧ s.c ≤ i ∧ 0 ≤ s.p ∧ s.p ≤ 1000001 ∧ 0 ≤ s.w ∧ s.w ≤ i ∧ Hid (r = lgB (lgGo at_ (l.drop i.toNat) s)) ∧ Hid (wr.heap[W.heap.size]? = some (.cells #[v1, v2, .slice A l.length c] 30 (0, 0))) ∧ Hid (Below W.heap.size W wr)) (fun i _ _ _ _ => l.length - (intOf i).toNat)
  case atStart => exact ⟨0, ⟨0, 0, 0⟩, rfl, rfl, rfl, rfl, by omega, by omega, by dsimp only; omega, by dsimp only; omega, by dsimp only; omega, by dsimp only; omega, by dsimp only; omega, by dsimp only; omega, HST.out, HX0.out, HB0.out⟩
  case round =>
    obtain ⟨i, s, rfl, rfl, rfl, rfl, hi0, hi1, hc0, hc1, hp0, hp1, hw0, hw1, HR, HX, HB⟩ := hrel
    obtain ⟨sc, sp, sw⟩ := s
    simp only at hc0 hc1 hp0 hp1 hw0 hw1
    clear HST HB0 HX0
    have q2 : wr.cell? ⟨W.heap.size, 2, none⟩ = some (.slice A l.length c) := (blk_cell HX.out 2).trans rfl
    by_cases hlt : i < (l.length : Int)
    · obtain ⟨ad, A7, c7, A14, c14, hAd, x0, x1, x2, x3, x4, x5, x6, x7, x8, x9, x10, x11, x12, x13, x14, _⟩ := at_T50 (Kd.C_below HC.out HB.out) i hi0 hlt
      have hr := HR.out
      rw [lgGo_step at_ l _ i hi0 hlt] at hr
      have hpp := HP.out i hi0 hlt
      obtain ⟨x, hx⟩ : ∃ x, x = rd_T50 l i := ⟨_, rfl⟩
      rw [← hx] at x0 x8 x9 hr hpp
      cases hAd
      clear hx x1 x2 x3 x4 x5 x6 x7 x10 x11 x12 x13 x14 HR
      by_cases h4 : x.f4 ≤ at_
      · rw [if_pos h4] at hr
        unfold lgStep at hr
        simp only at hr
        by_cases h5 : x.f5 < 0
        · have HE := Lib.hid (show r = lgB (lgGo at_ (l.drop (i + 1).toNat) ⟨sc + 1, max sp (x.f0 + 1), sw + 1⟩) from by rw [hr, if_pos (.inl h5)])
          clear hr
          go_wp2
          go_roundw
          case rel => exact ⟨i + 1, ⟨sc + 1, max sp (x.f0 + 1), sw + 1⟩, rfl, rfl, rfl, rfl, by omega, by omega, by dsimp only; omega, by dsimp only; omega, by dsimp only; omega, by dsimp only; omega, by dsimp only; omega, by dsimp only; omega, HE.out, HX.out, HB.out⟩
          case measure => simp [intOf]; omega
        · by_cases h6 : at_ < x.f5
          · have HE := Lib.hid (show r = lgB (lgGo at_ (l.drop (i + 1).toNat) ⟨sc + 1, max sp (x.f0 + 1), sw + 1⟩) from by rw [hr, if_pos (.inr h6)])
            have h5' : 0 ≤ x.f5 := by omega
            clear hr h5
            go_wp2
            go_roundw
            case rel => exact ⟨i + 1, ⟨sc + 1, max sp (x.f0 + 1), sw + 1⟩, rfl, rfl, rfl, rfl, by omega, by omega, by dsimp only; omega, by dsimp only; omega, by dsimp only; omega, by dsimp only; omega, by dsimp only; omega, by dsimp only; omega, HE.out, HX.out, HB.out⟩
            case measure => simp [intOf]; omega
          · have HE := Lib.hid (show r = lgB (lgGo at_ (l.drop (i + 1).toNat) ⟨sc + 1, max sp (x.f0 + 1), sw⟩) from by rw [hr, if_neg (by omega)])
            have h5' : 0 ≤ x.f5 := by omega
            have h6' : x.f5 ≤ at_ := by omega
            clear hr h5 h6
            go_wp2
            go_roundw
            case rel => exact ⟨i + 1, ⟨sc + 1, max sp (x.f0 + 1), sw⟩, rfl, rfl, rfl, rfl, by omega, by omega, by dsimp only; omega, by dsimp only; omega, by dsimp only; omega, by dsimp only; omega, by dsimp only; omega, by dsimp only; omega, HE.out, HX.out, HB.out⟩
            case measure => simp [intOf]; omega
      · rw [if_neg h4] at hr
        have h4' : at_ < x.f4 := by omega
        clear h4
        unfold lgB at hr
        simp only at hr
        by_cases e1 : 4096 < sc
        · have HE := Lib.hid (show r = true from by rw [hr, decide_eq_true e1]; rfl)
          clear hr
          go_wp2
          go_ret
          exact ⟨by rw [HE.out]; rfl, HB.out⟩
        · by_cases e2 : 64 < sp
          · have HE := Lib.hid (show r = true from by rw [hr, decide_eq_true e2]; simp)
            have e1' : sc ≤ 4096 := by omega
            clear hr e1
            go_wp2
            go_ret
            exact ⟨by rw [HE.out]; rfl, HB.out⟩
          · have HE := Lib.hid (show r = (decide (4096 < sc) || decide (64 < sp) || decide (10 < sw)) from by rw [hr, Bool.or_assoc])
            have e1' : sc ≤ 4096 := by omega
            have e2' : sp ≤ 64 := by omega
            clear hr e1 e2
            go_wp2
            go_ret
            exact ⟨by rw [HE.out]; rfl, HB.out⟩
    · have hr := HR.out
      rw [List.drop_eq_nil_of_le (by omega)] at hr
      replace hr : r = lgB ⟨sc, sp, sw⟩ := hr
      have hge : (l.length : Int) ≤ i := by omega
      clear hlt HR
      unfold lgB at hr
      simp only at hr
      by_cases e1 : 4096 < sc
      · have HE := Lib.hid (show r = true from by rw [hr, decide_eq_true e1]; rfl)
        clear hr
        go_wp2
        go_ret
        exact ⟨by rw [HE.out]; rfl, HB.out⟩
      · by_cases e2 : 64 < sp
        · have HE := Lib.hid (show r = true from by rw [hr, decide_eq_true e2]; simp)
          have e1' : sc ≤ 4096 := by omega
          clear hr e1
          go_wp2
          go_ret
          exact ⟨by rw [HE.out]; rfl, HB.out⟩
        · have HE := Lib.hid (show r = (decide (4096 < sc) || decide (64 < sp) || decide (10 < sw)) from by rw [hr, Bool.or_assoc])
          have e1' : sc ≤ 4096 := by omega
          have e2' : sp ≤ 64 := by omega
          clear hr e1 e2
          go_wp2
          go_ret
          exact ⟨by rw [HE.out]; rfl, HB.out⟩
end Go.Proofs.Ytofinglgnkdflaa
end
section
namespace Go.Proofs.Ytofinglgnkdflaa
open Go.RowKit
open Go.Proofs.Ytofinglgnkdflaa.PHistoryChecks Go.Proofs.YtofinglgnkdflaaW.PrintWords Go.Proofs.YtofinglgnkdflaaW.PrintLast Go.Proofs.YtofinglgnkdflaaW.PrintMore
set_option linter.unusedVariables false
set_option linter.unusedSimpArgs false
structure RsF (f : Nat → Nat) (B : Nat) (w : World) (s1 s2 cv : Value) (P : PastL) : Prop where
  pr : Kd.string.R 9 w B (clr f 1) s1 P.pr
  ob : Kd.string.R 9 w B (clr f 2) s2 P.ob
  cl : k50.R 50 w B (clr f 4) cv P.cl
  sz : B ≤ w.heap.size
section
variable {f : Nat → Nat} {B : Nat} {w w1 : World} {s1 s2 cv s1' s2' cv' : Value} {P : PastL}
theorem RsF.below (h : RsF f B w s1 s2 cv P) (hb : Below w.heap.size w w1) (c : Nat) : RsF (recol f w.heap.size c) B w1 s1 s2 cv P := by
  have hT := turn_of_below hb f 9
  exact ⟨R_turn h.pr hT (by decide) c, R_turn h.ob hT (by decide) c, R_turn h.cl hT (by decide) c, Nat.le_trans h.sz hb.size⟩
theorem RsF.pr1 {L : List ByteArray} (h : RsF f B w s1 s2 cv P) (hR : Kd.string.R 9 w1 B (fun b => clr f 1 b ∨ w.heap.size ≤ b) s1' L) (hT : Turn (clr f 1) w w1) : RsF (recol f w.heap.size 1) B w1 s1' s2 cv { P with pr := L } :=
  ⟨Kd.R_mono hR (fun b hb => recol_or hb), R_turn h.ob hT (by decide) 1, R_turn h.cl hT (by decide) 1, Nat.le_trans h.sz hT.size⟩
theorem RsF.ob1 {L : List ByteArray} (h : RsF f B w s1 s2 cv P) (hR : Kd.string.R 9 w1 B (fun b => clr f 2 b ∨ w.heap.size ≤ b) s2' L) (hT : Turn (clr f 2) w w1) : RsF (recol f w.heap.size 2) B w1 s1 s2' cv { P with ob := L } :=
  ⟨R_turn h.pr hT (by decide) 2, Kd.R_mono hR (fun b hb => recol_or hb), R_turn h.cl hT (by decide) 2, Nat.le_trans h.sz hT.size⟩
theorem RsF.cl1 {L : List S50} (h : RsF f B w s1 s2 cv P) (hR : k50.R 50 w1 B (fun b => clr f 4 b ∨ w.heap.size ≤ b) cv' L) (hT : Turn (clr f 4) w w1) : RsF (recol f w.heap.size 4) B w1 s1 s2 cv' { P with cl := L } :=
  ⟨R_turn h.pr hT (by decide) 4, R_turn h.ob hT (by decide) 4, Kd.R_mono hR (fun b hb => recol_or hb), Nat.le_trans h.sz hT.size⟩
theorem RsF.set (h : RsF f B w s1 s2 cv P) {g : Nat} (hg : f g = 7) (i : Nat) (u : Value) : RsF f B (w.setCell ⟨g, i, none⟩ u) s1 s2 cv P := by
  have far : ∀ j, j ≠ 7 → ∀ k, clr f j k → k < w.heap.size → (w.setCell ⟨g, i, none⟩ u).heap[k]? = w.heap[k]? := fun j hj k hk _ => Below.heap_setCell _ _ _ _ (fun e => by unfold clr at hk; subst e; exact hj (hk.symm.trans hg))
  exact ⟨Kd.R_step h.pr (far 1 (by decide)), Kd.R_step h.ob (far 2 (by decide)), Kd.R_step h.cl (far 4 (by decide)), by rw [World.size_setCell]; exact h.sz⟩
end
structure AdS (f f' : Nat → Nat) (B : Nat) (W : World) (e : S47) (A : Option Addr) (c : Nat) (w : World) (b1 b2 b3 s1 s2 cv : Value) (P : PastL) : Prop where
  rs : RsF f' B w s1 s2 cv P
  lt : ∀ k, k < W.heap.size → f' k = f k
  tu : Turn (fun k => f k ≠ 0) W w
  c0 : f' W.heap.size = 7
  c1 : f' (W.heap.size + 1) = 7
  c2 : f' (W.heap.size + 2) = 7
  xp : w.heap[W.heap.size]? = some (.cells #[b1, b2, b3] 30 (0, 0))
  xe : w.heap[W.heap.size + 1]? = some (.cells (c47 e A c) 47 (0, 0))
  xr : w.heap[W.heap.size + 2]? = some (.cells #[.slice none 0 0, .slice none 0 0, .slice none 0 0] 30 (0, 0))
section
variable {f f' : Nat → Nat} {B : Nat} {W w w1 : World} {e : S47} {A : Option Addr} {c : Nat} {b1 b2 b3 s1 s2 cv s1' s2' cv' : Value} {P P' : PastL}
theorem AdS.size (h : AdS f f' B W e A c w b1 b2 b3 s1 s2 cv P) : W.heap.size + 2 < w.heap.size := blk_lt h.xr
theorem AdS.step (h : AdS f f' B W e A c w b1 b2 b3 s1 s2 cv P) {j : Nat} (hT : Turn (clr f' j) w w1) (h0 : j ≠ 0) (h7 : j ≠ 7) (hr : RsF (recol f' w.heap.size j) B w1 s1' s2' cv' P') :
    AdS f (recol f' w.heap.size j) B W e A c w1 b1 b2 b3 s1' s2' cv' P' := by
  have hs := h.size
  have far : ∀ k, f' k = 7 → k < w.heap.size → w1.heap[k]? = w.heap[k]? := fun k hk hl => hT.block k hl (fun hc => by unfold clr at hc; exact h7 (hc.symm.trans hk))
  refine ⟨hr, fun k hk => (recol_lt (by omega)).trans (h.lt k hk), ⟨hT.os.trans h.tu.os, hT.tape.trans h.tu.tape, hT.output.trans h.tu.output, Nat.le_trans h.tu.size hT.size, fun k hk ho => ?_⟩, (recol_lt (by omega)).trans h.c0, (recol_lt (by omega)).trans h.c1, (recol_lt (by omega)).trans h.c2, (far _ h.c0 (by omega)).trans h.xp, (far _ h.c1 (by omega)).trans h.xe, (far _ h.c2 (by omega)).trans h.xr⟩
  have hf : f k = 0 := Decidable.not_not.1 ho
  exact (hT.block k (by omega) (fun hc => by unfold clr at hc; rw [h.lt k hk, hf] at hc; exact h0 hc.symm)).trans (h.tu.block k hk ho)
theorem AdS.below (h : AdS f f' B W e A c w b1 b2 b3 s1 s2 cv P) (hb : Below w.heap.size w w1) : AdS f (recol f' w.heap.size 9) B W e A c w1 b1 b2 b3 s1 s2 cv P :=
  h.step (turn_of_below hb f' 9) (by decide) (by decide) (h.rs.below hb 9)
theorem AdS.below4 (h : AdS f f' B W e A c w b1 b2 b3 s1 s2 cv P) (hb : Below w.heap.size w w1) : AdS f (recol f' w.heap.size 4) B W e A c w1 b1 b2 b3 s1 s2 cv P :=
  h.step (turn_of_below hb f' 4) (by decide) (by decide) (h.rs.below hb 4)
theorem AdS.drew (h : AdS f f' B W e A c w b1 b2 b3 s1 s2 cv P) : AdS f f' B W e A c w.drew b1 b2 b3 s1 s2 cv P :=
  ⟨⟨Kd.R_drew h.rs.pr, Kd.R_drew h.rs.ob, Kd.R_drew h.rs.cl, h.rs.sz⟩, h.lt, h.tu.drew, h.c0, h.c1, h.c2, h.xp, h.xe, h.xr⟩
theorem AdS.set (h : AdS f f' B W e A c w b1 b2 b3 s1 s2 cv P) (i : Nat) (u : Value) {b1' b2' b3' : Value} (hx : (w.setCell ⟨W.heap.size, i, none⟩ u).heap[W.heap.size]? = some (.cells #[b1', b2', b3'] 30 (0, 0))) :
    AdS f f' B W e A c (w.setCell ⟨W.heap.size, i, none⟩ u) b1' b2' b3' s1 s2 cv P :=
  ⟨h.rs.set h.c0 i u, h.lt, h.tu.set W.heap.size i u (fun hl => absurd hl (Nat.lt_irrefl _)), h.c0, h.c1, h.c2, hx, blk_far h.xe (by show W.heap.size + 1 ≠ W.heap.size; omega) _, blk_far h.xr (by show W.heap.size + 2 ≠ W.heap.size; omega) _⟩
end
theorem add_start {f : Nat → Nat} {B : Nat} {W : World} {e : S47} {A : Option Addr} {c : Nat} {s1 s2 cv : Value} {P : PastL} (h : RsF f B W s1 s2 cv P) :
    AdS f (recol f W.heap.size 7) B W e A c (((W.alloc (.cells #[s1, s2, cv] 30)).alloc (.cells (c47 e A c) 47)).alloc (.cells #[.slice none 0 0, .slice none 0 0, .slice none 0 0] 30)) s1 s2 cv s1 s2 cv P := by
  have hb := below_alloc (below_alloc (below_alloc (Below.refl W.heap.size W) (.cells #[s1, s2, cv] 30)) (.cells (c47 e A c) 47)) (.cells #[.slice none 0 0, .slice none 0 0, .slice none 0 0] 30)
  have e0 := heap_alloc_new W (.cells #[s1, s2, cv] 30)
  have e1 := heap_alloc_new (W.alloc (.cells #[s1, s2, cv] 30)) (.cells (c47 e A c) 47)
  have e2 := heap_alloc_new ((W.alloc (.cells #[s1, s2, cv] 30)).alloc (.cells (c47 e A c) 47)) (.cells #[.slice none 0 0, .slice none 0 0, .slice none 0 0] 30)
  rw [alloc_size] at e1
  rw [alloc_size, alloc_size] at e2
  exact ⟨h.below hb 7, fun k hk => recol_lt hk, ⟨hb.os, hb.tape, hb.output, hb.size, fun k hk _ => hb.block k hk⟩, recol_ge (Nat.le_refl _), recol_ge (by omega), recol_ge (by omega), blk_alloc (blk_alloc e0 _) _, blk_alloc e1 _, e2⟩
def invP (P : PastL) (e : S47) (at_ : Int) : PastL :=
  ⟨if ixFrom e.f1 P.pr 0 < 0 then P.pr ++ [e.f1] else P.pr, if ixFrom e.f2 P.ob 0 < 0 then P.ob ++ [e.f2] else P.ob,
    P.cl ++ [⟨if ixFrom e.f1 P.pr 0 < 0 then (P.pr.length : Int) else ixFrom e.f1 P.pr 0, if ixFrom e.f2 P.ob 0 < 0 then (P.ob.length : Int) else ixFrom e.f2 P.ob 0, e.f3, e.f4, at_, -1, z43⟩]⟩
def AddP (f : Nat → Nat) (B : Nat) (W : World) (P' : PastL) (code : Int) (e : Ending) (w' : World) : Prop :=
  ∃ s1 s2 cv f', e = .returned (.tuple #[.agg #[s1, s2, cv], .int .i64 code]) ∧ RsF f' B w' s1 s2 cv P' ∧ (∀ k, k < W.heap.size → f' k = f k) ∧ Turn (fun k => f k ≠ 0) W w'
end Go.Proofs.Ytofinglgnkdflaa
end
section
namespace Go.Proofs.Ytofinglgnkdflaa
open Go.RowKit
open Go.Proofs.Ytofinglgnkdflaa.PHistoryChecks Go.Proofs.YtofinglgnkdflaaW.PrintWords Go.Proofs.YtofinglgnkdflaaW.PrintLast Go.Proofs.YtofinglgnkdflaaW.PrintMore
set_option linter.unusedVariables false
set_option linter.unusedSimpArgs false
section
variable {P : Program} {ops : Array Oper} {Q : Exit → Act → World → Prop} {md : Region.Mode} {S : World → Prop} {ds : List Nat}
theorem runL {v : Value} {fuel : Nat} {listed : Array Bool} {a : Act} {w : World} (i : Nat) {oi : Oper} {rest : List Oper} (hi : ops.toList.drop i = oi :: rest)
    (hk : (Region.noSelect ops && Region.free md ops listed i && (Region.ready md ops listed).contains i && YtofinglgnkdflaaW.PrintLast.Region.closedB md ops listed && YtofinglgnkdflaaW.PrintLast.Region.lastB md ops listed ds i) = true)
    (hQ : ∀ c a w, Q (.panic c) (a.put oi.dst v) w → Q (.panic c) a w) (hS : S w) (hw : Region.wanted oi (yielded ops a.tmps) = true) (hy : ∀ w, S w → (execOp a.eval oi).run P w = .ok (.value v) w)
    (h : wpAnyLast P md ops Q S ds fuel (listed.setIfInBounds i true) (a.put oi.dst v) w) : wpAnyLast P md ops Q S ds (fuel + 1) listed a w := by
  simp only [Bool.and_eq_true] at hk
  obtain ⟨⟨⟨⟨h1, h2⟩, h3⟩, h4⟩, h5⟩ := hk
  refine wpAnyLast_take (i := i) ?_ h1 h2 h3 h4 h5 hQ (Or.inl ⟨hw, hy⟩) hS h
  rw [← Array.getElem?_toList]
  have h2 := congrArg (fun l => l[0]?) hi
  simpa using h2
end
theorem ixFrom_bound' (s : ByteArray) : ∀ (l : List ByteArray) (i : Int), 0 ≤ i → -1 ≤ ixFrom s l i ∧ ixFrom s l i < i + (l.length : Int)
  | [], i, h => by simp only [ixFrom, List.length_nil]; omega
  | x :: l, i, h => by
    simp only [ixFrom, List.length_cons]
    have := ixFrom_bound' s l (i + 1) (by omega)
    split <;> omega
theorem ixFrom_bound (s : ByteArray) (l : List ByteArray) : -1 ≤ ixFrom s l 0 ∧ ixFrom s l 0 < (l.length : Int) := by
  have := ixFrom_bound' s l 0 (by omega); omega
section
variable {f f' : Nat → Nat} {B : Nat} {W w : World} {e : S47} {A : Option Addr} {c : Nat} {b1 b2 b3 s1 s2 cv : Value} {P : PastL}
theorem adS_cells (h : AdS f f' B W e A c w b1 b2 b3 s1 s2 cv P) : w.cell? ⟨W.heap.size, 2, none⟩ = some b3 ∧ w.cell? ⟨W.heap.size + 1, 3, none⟩ = some (.string e.f3) ∧ w.cell? ⟨W.heap.size + 1, 4, none⟩ = some (.int .i64 e.f4.f0) ∧ w.cell? ⟨W.heap.size + 1, 5, none⟩ = some (.int .i64 e.f4.f1) ∧ w.cell? ⟨W.heap.size + 1, 6, none⟩ = some (.int .i64 e.f4.f2) ∧ w.cell? ⟨W.heap.size + 1, 7, none⟩ = some (.string e.f4.f3) ∧ w.cell? ⟨W.heap.size + 1, 8, none⟩ = some (.slice A e.f4.f4.length c) :=
  ⟨(blk_cell h.xp 2).trans rfl, (blk_cell h.xe 3).trans rfl, (blk_cell h.xe 4).trans rfl, (blk_cell h.xe 5).trans rfl, (blk_cell h.xe 6).trans rfl, (blk_cell h.xe 7).trans rfl, (blk_cell h.xe 8).trans rfl⟩
theorem adS_alloc (h : AdS f f' B W e A c w b1 b2 b3 s1 s2 cv P) (o : Obj) : (w.alloc o).cell? ⟨W.heap.size, 2, none⟩ = some b3 ∧ (w.alloc o).cell? ⟨W.heap.size + 1, 3, none⟩ = some (.string e.f3) ∧ (w.alloc o).cell? ⟨W.heap.size + 1, 4, none⟩ = some (.int .i64 e.f4.f0) ∧ (w.alloc o).cell? ⟨W.heap.size + 1, 5, none⟩ = some (.int .i64 e.f4.f1) ∧ (w.alloc o).cell? ⟨W.heap.size + 1, 6, none⟩ = some (.int .i64 e.f4.f2) ∧ (w.alloc o).cell? ⟨W.heap.size + 1, 7, none⟩ = some (.string e.f4.f3) ∧ (w.alloc o).cell? ⟨W.heap.size + 1, 8, none⟩ = some (.slice A e.f4.f4.length c) :=
  ⟨(blk_cell (blk_alloc h.xp o) 2).trans rfl, (blk_cell (blk_alloc h.xe o) 3).trans rfl, (blk_cell (blk_alloc h.xe o) 4).trans rfl, (blk_cell (blk_alloc h.xe o) 5).trans rfl, (blk_cell (blk_alloc h.xe o) 6).trans rfl, (blk_cell (blk_alloc h.xe o) 7).trans rfl, (blk_cell (blk_alloc h.xe o) 8).trans rfl⟩
theorem rcall_M {w5 : World} {A6 : Option Addr} {c6 : Nat} (pi oi : Int) (e : S47) (at_ : Int) (hR : k43.R 43 w5 w.heap.size (fun _ => True) (.slice A6 e.f4.f4.length c6) e.f4.f4) (h : RsF f B w s1 s2 cv P) :
    k50.M w5 B (fun b => clr (recol f w.heap.size 4) 4 b ∧ some b ≠ cv.ownBlock) ⟨pi, oi, e.f3, e.f4, at_, -1, z43⟩ [.int .i64 pi, .int .i64 oi, .string e.f3, .int .i64 e.f4.f0, .int .i64 e.f4.f1, .int .i64 e.f4.f2, .string e.f4.f3, .slice A6 e.f4.f4.length c6, .int .i64 at_, .int .i64 (-1), .int .i64 0, .int .i64 0, .int .i64 0, .string ⟨#[]⟩, .slice none 0 0] :=
  k50_mkM w5 B _ ⟨pi, oi, e.f3, e.f4, at_, -1, z43⟩ (Kd.R_lower (Kd.R_mono (Kd.R_bound hR) (fun b hb => ⟨recol_ge hb.2.1, fun e2 => by have := (Kd.R_bound h.cl).1 b e2.symm; omega⟩)) h.sz) (Kd.R_nil _ _ _ _ _)
end
set_option maxHeartbeats 8000000 in
set_option maxRecDepth 100000 in
theorem add_inv (W : World) (f : Nat → Nat) (B : Nat) (s1 s2 cv : Value) (P : PastL) (e : S47) (A : Option Addr) (c : Nat) (at_ : Int) (h : RsF f B W s1 s2 cv P) (hlo : ∀ k, k < B → f k = 0)
    (hpl : P.pr.length ≤ 1000000) (hol : P.ob.length ≤ 1000000) (hcl : P.cl.length ≤ 1000000) (h1 : e.f0 = 1) (ho : ixFrom e.f1 P.pr 0 < 0 ∨ opnF P.cl (ixFrom e.f1 P.pr 0) < 0)
    (hF : Kd.F k43 W (fun k => k < B) A e.f4.f4.length e.f4.f4) (hcp : ∀ W1 A c, Kd.C k43 W1 A e.f4.f4.length e.f4.f4 → Calls Try.prog 54 #[v43 e.f4 A c] W1 (OwnP e.f4 W1)) :
    Calls Try.prog 59 #[.agg #[s1, s2, cv], .agg (c47 e A c), .int .i64 at_] W (AddP f B W (invP P e at_) 0) := by
  obtain ⟨A1, n1, hv1, hl1, _⟩ := Kd.R_reads h.pr
  obtain ⟨A2, n2, hv2, hl2, _⟩ := Kd.R_reads h.ob
  obtain ⟨A3, n3, hv3, hl3, _⟩ := Kd.R_reads h.cl
  subst hv1 hv2 hv3
  have HS3 := Lib.hid (add_start (e := e) (A := A) (c := c) h)
  obtain ⟨gHS3, hg3⟩ : ∃ g, g = recol f W.heap.size 7 := ⟨_, rfl⟩
  rw [← hg3] at HS3
  have HF := Lib.hid hF
  have hpb := ixFrom_bound e.f1 P.pr
  have h1' : (e.f0 == 2) = false := by rw [h1]; decide
  clear hg3 h hF h1
  go_enter Try.func59, Try.ntmps59
  unfold c47
  go_upto_region 1 with fail
  obtain ⟨w3, hw3⟩ : ∃ w3, w3 = ((W.alloc (.cells #[.slice A1 P.pr.length n1, .slice A2 P.ob.length n2, .slice A3 P.cl.length n3] 30)).alloc (.cells (c47 e A c) 47)).alloc (.cells #[.slice none 0 0, .slice none 0 0, .slice none 0 0] 30) := ⟨_, rfl⟩
  rw [← hw3] at HS3
  unfold c47 at hw3
  rw [← hw3, show W.heap.size + 1 + 1 = W.heap.size + 2 from rfl]
  clear hw3
  have p0 : w3.cell? ⟨W.heap.size, 0, none⟩ = some (.slice A1 P.pr.length n1) := (blk_cell HS3.out.xp 0).trans rfl
  have p1 : w3.cell? ⟨W.heap.size, 1, none⟩ = some (.slice A2 P.ob.length n2) := (blk_cell HS3.out.xp 1).trans rfl
  have p2 : w3.cell? ⟨W.heap.size, 2, none⟩ = some (.slice A3 P.cl.length n3) := (blk_cell HS3.out.xp 2).trans rfl
  have y0 : w3.cell? ⟨W.heap.size + 1, 0, none⟩ = some (.int .i64 e.f0) := (blk_cell HS3.out.xe 0).trans rfl
  have y1 : w3.cell? ⟨W.heap.size + 1, 1, none⟩ = some (.string e.f1) := (blk_cell HS3.out.xe 1).trans rfl
  have y2 : w3.cell? ⟨W.heap.size + 1, 2, none⟩ = some (.string e.f2) := (blk_cell HS3.out.xe 2).trans rfl
  have y3 : w3.cell? ⟨W.heap.size + 1, 3, none⟩ = some (.string e.f3) := (blk_cell HS3.out.xe 3).trans rfl
  have y4 : w3.cell? ⟨W.heap.size + 1, 4, none⟩ = some (.int .i64 e.f4.f0) := (blk_cell HS3.out.xe 4).trans rfl
  have y5 : w3.cell? ⟨W.heap.size + 1, 5, none⟩ = some (.int .i64 e.f4.f1) := (blk_cell HS3.out.xe 5).trans rfl
  have y6 : w3.cell? ⟨W.heap.size + 1, 6, none⟩ = some (.int .i64 e.f4.f2) := (blk_cell HS3.out.xe 6).trans rfl
  have y7 : w3.cell? ⟨W.heap.size + 1, 7, none⟩ = some (.string e.f4.f3) := (blk_cell HS3.out.xe 7).trans rfl
  have y8 : w3.cell? ⟨W.heap.size + 1, 8, none⟩ = some (.slice A e.f4.f4.length c) := (blk_cell HS3.out.xe 8).trans rfl
  have hsz : W.heap.size + 2 < w3.heap.size := HS3.out.size
  go_wp2_with fail
  refine (find_any P.pr e.f1 A1 n1 _ (Kd.R_reads' HS3.out.rs.pr).2.2 hl1).mono ?_
  rintro r w4 ⟨rfl, hw4⟩
  have HS4 := Lib.hid (HS3.out.below hw4)
  obtain ⟨gHS4, hgHS4⟩ : ∃ g, g = recol gHS3 w3.heap.size 9 := ⟨_, rfl⟩
  rw [← hgHS4] at HS4
  clear hgHS4
  clear p0 p1 p2 y0 y1 y2 y3 y4 y5 y6 y7 y8 hsz HS3
  have p0 : w4.cell? ⟨W.heap.size, 0, none⟩ = some (.slice A1 P.pr.length n1) := (blk_cell HS4.out.xp 0).trans rfl
  have p1 : w4.cell? ⟨W.heap.size, 1, none⟩ = some (.slice A2 P.ob.length n2) := (blk_cell HS4.out.xp 1).trans rfl
  have p2 : w4.cell? ⟨W.heap.size, 2, none⟩ = some (.slice A3 P.cl.length n3) := (blk_cell HS4.out.xp 2).trans rfl
  have y0 : w4.cell? ⟨W.heap.size + 1, 0, none⟩ = some (.int .i64 e.f0) := (blk_cell HS4.out.xe 0).trans rfl
  have y1 : w4.cell? ⟨W.heap.size + 1, 1, none⟩ = some (.string e.f1) := (blk_cell HS4.out.xe 1).trans rfl
  have y2 : w4.cell? ⟨W.heap.size + 1, 2, none⟩ = some (.string e.f2) := (blk_cell HS4.out.xe 2).trans rfl
  have y3 : w4.cell? ⟨W.heap.size + 1, 3, none⟩ = some (.string e.f3) := (blk_cell HS4.out.xe 3).trans rfl
  have y4 : w4.cell? ⟨W.heap.size + 1, 4, none⟩ = some (.int .i64 e.f4.f0) := (blk_cell HS4.out.xe 4).trans rfl
  have y5 : w4.cell? ⟨W.heap.size + 1, 5, none⟩ = some (.int .i64 e.f4.f1) := (blk_cell HS4.out.xe 5).trans rfl
  have y6 : w4.cell? ⟨W.heap.size + 1, 6, none⟩ = some (.int .i64 e.f4.f2) := (blk_cell HS4.out.xe 6).trans rfl
  have y7 : w4.cell? ⟨W.heap.size + 1, 7, none⟩ = some (.string e.f4.f3) := (blk_cell HS4.out.xe 7).trans rfl
  have y8 : w4.cell? ⟨W.heap.size + 1, 8, none⟩ = some (.slice A e.f4.f4.length c) := (blk_cell HS4.out.xe 8).trans rfl
  have hsz : W.heap.size + 2 < w4.heap.size := HS4.out.size
  clear hw4
  obtain ⟨pi, hpi⟩ : ∃ o, o = ixFrom e.f1 P.pr 0 := ⟨_, rfl⟩
  rw [← hpi] at hpb ho ⊢
  have HPI := Lib.hid hpi
  clear hpi
  by_cases hp0 : pi < 0
  · have hPN := Lib.hid (show (if ixFrom e.f1 P.pr 0 < 0 then P.pr ++ [e.f1] else P.pr) = P.pr ++ [e.f1] ∧ (if ixFrom e.f1 P.pr 0 < 0 then (P.pr.length : Int) else ixFrom e.f1 P.pr 0) = (P.pr.length : Int) from by rw [← HPI.out]; exact ⟨if_pos hp0, if_pos hp0⟩)
    clear ho
    have fz := blk_frozen HS4.out.xp 0
    go_upto_region 16 with (at_builtin; refine Kd.R_append (w0 := w4) Kd.string B rfl _ _ 27 9 _ 16 rfl Try.underlying27 info9 rfl (by decide) (by decide) (.slice A1 P.pr.length n1) P.pr e.f1 [.string e.f1] (fun b => clr gHS4 1 b ∨ w4.heap.size ≤ b) (fun _ => False) rfl rfl rfl (fun _ h => h.elim) (fun b hb => .inr hb) (Kd.R_mono HS4.out.rs.pr (fun b hb => .inl hb)) (Below.refl B w4) HS4.out.rs.sz (by omega) ?_; intro v12 w12 hR12 hb12 hg12 hat12; obtain ⟨A12, n12, rfl⟩ := Kd.R_slice hR12; have hT12 := turn_grown hg12 (fun b eb _ => HS4.out.rs.pr.1 b eb); have HS12 := Lib.hid (HS4.out.step hT12 (by decide) (by decide) (HS4.out.rs.pr1 hR12 hT12)); rw [List.length_append, List.length_singleton] at HS12; have q12 : w12.cell? ⟨W.heap.size, 0, none⟩ = some (.slice A1 P.pr.length n1) := (blk_cell HS12.out.xp 0).trans rfl; have fq12 := blk_frozen HS12.out.xp 0; clear hR12 hb12 hg12 hat12 hT12)
    have HS13 := Lib.hid (HS12.out.set 0 (.slice A12 (P.pr.length + 1) n12) (b1' := .slice A12 (P.pr.length + 1) n12) (b2' := .slice A2 P.ob.length n2) (b3' := .slice A3 P.cl.length n3) (blk_set HS12.out.xp 0 _))
    obtain ⟨w13, hw13⟩ : ∃ w, w = w12.setCell ⟨W.heap.size, 0, none⟩ (.slice A12 (P.pr.length + 1) n12) := ⟨_, rfl⟩
    rw [← hw13] at HS13 ⊢
    clear p0 p1 p2 y0 y1 y2 y3 y4 y5 y6 y7 y8 hsz fz q12 fq12 hw13
    obtain ⟨gHS13, hg13⟩ : ∃ g, g = recol gHS4 w4.heap.size 1 := ⟨_, rfl⟩
    rw [← hg13] at HS13
    clear hg13 HS12 HS4
    have p0 : w13.cell? ⟨W.heap.size, 0, none⟩ = some (.slice A12 (P.pr.length + 1) n12) := (blk_cell HS13.out.xp 0).trans rfl
    have p1 : w13.cell? ⟨W.heap.size, 1, none⟩ = some (.slice A2 P.ob.length n2) := (blk_cell HS13.out.xp 1).trans rfl
    have p2 : w13.cell? ⟨W.heap.size, 2, none⟩ = some (.slice A3 P.cl.length n3) := (blk_cell HS13.out.xp 2).trans rfl
    have y0 : w13.cell? ⟨W.heap.size + 1, 0, none⟩ = some (.int .i64 e.f0) := (blk_cell HS13.out.xe 0).trans rfl
    have y1 : w13.cell? ⟨W.heap.size + 1, 1, none⟩ = some (.string e.f1) := (blk_cell HS13.out.xe 1).trans rfl
    have y2 : w13.cell? ⟨W.heap.size + 1, 2, none⟩ = some (.string e.f2) := (blk_cell HS13.out.xe 2).trans rfl
    have y3 : w13.cell? ⟨W.heap.size + 1, 3, none⟩ = some (.string e.f3) := (blk_cell HS13.out.xe 3).trans rfl
    have y4 : w13.cell? ⟨W.heap.size + 1, 4, none⟩ = some (.int .i64 e.f4.f0) := (blk_cell HS13.out.xe 4).trans rfl
    have y5 : w13.cell? ⟨W.heap.size + 1, 5, none⟩ = some (.int .i64 e.f4.f1) := (blk_cell HS13.out.xe 5).trans rfl
    have y6 : w13.cell? ⟨W.heap.size + 1, 6, none⟩ = some (.int .i64 e.f4.f2) := (blk_cell HS13.out.xe 6).trans rfl
    have y7 : w13.cell? ⟨W.heap.size + 1, 7, none⟩ = some (.string e.f4.f3) := (blk_cell HS13.out.xe 7).trans rfl
    have y8 : w13.cell? ⟨W.heap.size + 1, 8, none⟩ = some (.slice A e.f4.f4.length c) := (blk_cell HS13.out.xe 8).trans rfl
    have hsz : W.heap.size + 2 < w13.heap.size := HS13.out.size
    clear hp0 hpb
    go_wp2_with fail
    refine (find_any P.ob e.f2 A2 n2 _ (Kd.R_reads' HS13.out.rs.ob).2.2 hl2).mono ?_
    rintro r w14 ⟨rfl, hw14⟩
    have HS14 := Lib.hid (HS13.out.below hw14)
    obtain ⟨gHS14, hgHS14⟩ : ∃ g, g = recol gHS13 w13.heap.size 9 := ⟨_, rfl⟩
    rw [← hgHS14] at HS14
    clear hgHS14
    clear p0 p1 p2 y0 y1 y2 y3 y4 y5 y6 y7 y8 hsz HS13
    have p0 : w14.cell? ⟨W.heap.size, 0, none⟩ = some (.slice A12 (P.pr.length + 1) n12) := (blk_cell HS14.out.xp 0).trans rfl
    have p1 : w14.cell? ⟨W.heap.size, 1, none⟩ = some (.slice A2 P.ob.length n2) := (blk_cell HS14.out.xp 1).trans rfl
    have p2 : w14.cell? ⟨W.heap.size, 2, none⟩ = some (.slice A3 P.cl.length n3) := (blk_cell HS14.out.xp 2).trans rfl
    have y0 : w14.cell? ⟨W.heap.size + 1, 0, none⟩ = some (.int .i64 e.f0) := (blk_cell HS14.out.xe 0).trans rfl
    have y1 : w14.cell? ⟨W.heap.size + 1, 1, none⟩ = some (.string e.f1) := (blk_cell HS14.out.xe 1).trans rfl
    have y2 : w14.cell? ⟨W.heap.size + 1, 2, none⟩ = some (.string e.f2) := (blk_cell HS14.out.xe 2).trans rfl
    have y3 : w14.cell? ⟨W.heap.size + 1, 3, none⟩ = some (.string e.f3) := (blk_cell HS14.out.xe 3).trans rfl
    have y4 : w14.cell? ⟨W.heap.size + 1, 4, none⟩ = some (.int .i64 e.f4.f0) := (blk_cell HS14.out.xe 4).trans rfl
    have y5 : w14.cell? ⟨W.heap.size + 1, 5, none⟩ = some (.int .i64 e.f4.f1) := (blk_cell HS14.out.xe 5).trans rfl
    have y6 : w14.cell? ⟨W.heap.size + 1, 6, none⟩ = some (.int .i64 e.f4.f2) := (blk_cell HS14.out.xe 6).trans rfl
    have y7 : w14.cell? ⟨W.heap.size + 1, 7, none⟩ = some (.string e.f4.f3) := (blk_cell HS14.out.xe 7).trans rfl
    have y8 : w14.cell? ⟨W.heap.size + 1, 8, none⟩ = some (.slice A e.f4.f4.length c) := (blk_cell HS14.out.xe 8).trans rfl
    have hsz : W.heap.size + 2 < w14.heap.size := HS14.out.size
    clear hw14
    obtain ⟨oi, hoi⟩ : ∃ o, o = ixFrom e.f2 P.ob 0 := ⟨_, rfl⟩
    rw [← hoi]
    have HOI := Lib.hid hoi
    have hob := ixFrom_bound e.f2 P.ob
    rw [← hoi] at hob
    clear hoi
    by_cases hob0 : oi < 0
    · have hON := Lib.hid (show (if ixFrom e.f2 P.ob 0 < 0 then P.ob ++ [e.f2] else P.ob) = P.ob ++ [e.f2] ∧ (if ixFrom e.f2 P.ob 0 < 0 then (P.ob.length : Int) else ixFrom e.f2 P.ob 0) = (P.ob.length : Int) from by rw [← HOI.out]; exact ⟨if_pos hob0, if_pos hob0⟩)
      have fz := blk_frozen HS14.out.xp 1
      go_upto_region 20 with (at_builtin; refine Kd.R_append (w0 := w14) Kd.string B rfl _ _ 27 9 _ 16 rfl Try.underlying27 info9 rfl (by decide) (by decide) (.slice A2 P.ob.length n2) P.ob e.f2 [.string e.f2] (fun b => clr gHS14 2 b ∨ w14.heap.size ≤ b) (fun _ => False) rfl rfl rfl (fun _ h => h.elim) (fun b hb => .inr hb) (Kd.R_mono HS14.out.rs.ob (fun b hb => .inl hb)) (Below.refl B w14) HS14.out.rs.sz (by omega) ?_; intro v16 w16 hR16 hb16 hg16 hat16; obtain ⟨A16, n16, rfl⟩ := Kd.R_slice hR16; have hT16 := turn_grown hg16 (fun b eb _ => HS14.out.rs.ob.1 b eb); have HS16 := Lib.hid (HS14.out.step hT16 (by decide) (by decide) (HS14.out.rs.ob1 hR16 hT16)); rw [List.length_append, List.length_singleton] at HS16; have q16 : w16.cell? ⟨W.heap.size, 1, none⟩ = some (.slice A2 P.ob.length n2) := (blk_cell HS16.out.xp 1).trans rfl; have fq16 := blk_frozen HS16.out.xp 1; clear hR16 hb16 hg16 hat16 hT16)
      have HS17 := Lib.hid (HS16.out.set 1 (.slice A16 (P.ob.length + 1) n16) (b1' := .slice A12 (P.pr.length + 1) n12) (b2' := .slice A16 (P.ob.length + 1) n16) (b3' := .slice A3 P.cl.length n3) (blk_set HS16.out.xp 1 _))
      obtain ⟨w17, hw17⟩ : ∃ w, w = w16.setCell ⟨W.heap.size, 1, none⟩ (.slice A16 (P.ob.length + 1) n16) := ⟨_, rfl⟩
      rw [← hw17] at HS17 ⊢
      clear p0 p1 p2 y0 y1 y2 y3 y4 y5 y6 y7 y8 hsz fz q16 fq16 hw17
      obtain ⟨gHS17, hg17⟩ : ∃ g, g = recol gHS14 w14.heap.size 2 := ⟨_, rfl⟩
      rw [← hg17] at HS17
      clear hg17 HS16 HS14
      have p0 : w17.cell? ⟨W.heap.size, 0, none⟩ = some (.slice A12 (P.pr.length + 1) n12) := (blk_cell HS17.out.xp 0).trans rfl
      have p1 : w17.cell? ⟨W.heap.size, 1, none⟩ = some (.slice A16 (P.ob.length + 1) n16) := (blk_cell HS17.out.xp 1).trans rfl
      have p2 : w17.cell? ⟨W.heap.size, 2, none⟩ = some (.slice A3 P.cl.length n3) := (blk_cell HS17.out.xp 2).trans rfl
      have y0 : w17.cell? ⟨W.heap.size + 1, 0, none⟩ = some (.int .i64 e.f0) := (blk_cell HS17.out.xe 0).trans rfl
      have y1 : w17.cell? ⟨W.heap.size + 1, 1, none⟩ = some (.string e.f1) := (blk_cell HS17.out.xe 1).trans rfl
      have y2 : w17.cell? ⟨W.heap.size + 1, 2, none⟩ = some (.string e.f2) := (blk_cell HS17.out.xe 2).trans rfl
      have y3 : w17.cell? ⟨W.heap.size + 1, 3, none⟩ = some (.string e.f3) := (blk_cell HS17.out.xe 3).trans rfl
      have y4 : w17.cell? ⟨W.heap.size + 1, 4, none⟩ = some (.int .i64 e.f4.f0) := (blk_cell HS17.out.xe 4).trans rfl
      have y5 : w17.cell? ⟨W.heap.size + 1, 5, none⟩ = some (.int .i64 e.f4.f1) := (blk_cell HS17.out.xe 5).trans rfl
      have y6 : w17.cell? ⟨W.heap.size + 1, 6, none⟩ = some (.int .i64 e.f4.f2) := (blk_cell HS17.out.xe 6).trans rfl
      have y7 : w17.cell? ⟨W.heap.size + 1, 7, none⟩ = some (.string e.f4.f3) := (blk_cell HS17.out.xe 7).trans rfl
      have y8 : w17.cell? ⟨W.heap.size + 1, 8, none⟩ = some (.slice A e.f4.f4.length c) := (blk_cell HS17.out.xe 8).trans rfl
      have hsz : W.heap.size + 2 < w17.heap.size := HS17.out.size
      clear hob0 hob
      refine wp_region_last_drew (ds := [14]) (S := (fun w => w.cell? ⟨W.heap.size, 2, none⟩ = some (.slice A3 P.cl.length n3) ∧ w.cell? ⟨W.heap.size + 1, 3, none⟩ = some (.string e.f3) ∧ w.cell? ⟨W.heap.size + 1, 4, none⟩ = some (.int .i64 e.f4.f0) ∧ w.cell? ⟨W.heap.size + 1, 5, none⟩ = some (.int .i64 e.f4.f1) ∧ w.cell? ⟨W.heap.size + 1, 6, none⟩ = some (.int .i64 e.f4.f2) ∧ w.cell? ⟨W.heap.size + 1, 7, none⟩ = some (.string e.f4.f3) ∧ w.cell? ⟨W.heap.size + 1, 8, none⟩ = some (.slice A e.f4.f4.length c))) (by kernel_rfl) ?_ (fun hHeld => ?_)
      · exact adS_cells HS17.out.drew
      refine runL 0 (v := ?vt10) rfl (by kernel_rfl) (fun _ _ _ h => h) (by assumption) (by rfl) ?yt10 ?rt10
      case yt10 => (intro w hSw; (try dsimp only at hSw); go_simp; try with_reducible rfl)
      try simp only [Act.put, List.setIfInBounds_toArray, List.set_cons_zero, List.set_cons_succ]
      refine runL 1 (v := ?vt11) rfl (by kernel_rfl) (fun _ _ _ h => h) (by assumption) (by rfl) ?yt11 ?rt11
      case yt11 => (intro w hSw; (try dsimp only at hSw); go_simp; try with_reducible rfl)
      try simp only [Act.put, List.setIfInBounds_toArray, List.set_cons_zero, List.set_cons_succ]
      refine runL 2 (v := ?vt12) rfl (by kernel_rfl) (fun _ _ _ h => h) (by assumption) (by rfl) ?yt12 ?rt12
      case yt12 => (intro w hSw; (try dsimp only at hSw); go_simp; try with_reducible rfl)
      try simp only [Act.put, List.setIfInBounds_toArray, List.set_cons_zero, List.set_cons_succ]
      refine runL 3 (v := ?vt13) rfl (by kernel_rfl) (fun _ _ _ h => h) (by assumption) (by rfl) ?yt13 ?rt13
      case yt13 => (intro w hSw; (try dsimp only at hSw); go_simp; try with_reducible rfl)
      try simp only [Act.put, List.setIfInBounds_toArray, List.set_cons_zero, List.set_cons_succ]
      refine runL 4 (v := ?vt14) rfl (by kernel_rfl) (fun _ _ _ h => h) (by assumption) (by rfl) ?yt14 ?rt14
      case yt14 => (intro w hSw; (try dsimp only at hSw); go_simp; try with_reducible rfl)
      try simp only [Act.put, List.setIfInBounds_toArray, List.set_cons_zero, List.set_cons_succ]
      refine runL 5 (v := ?vt15) rfl (by kernel_rfl) (fun _ _ _ h => h) (by assumption) (by rfl) ?yt15 ?rt15
      case yt15 => (intro w hSw; (try dsimp only at hSw); go_simp; try with_reducible rfl)
      try simp only [Act.put, List.setIfInBounds_toArray, List.set_cons_zero, List.set_cons_succ]
      refine runL 6 (v := ?vt16) rfl (by kernel_rfl) (fun _ _ _ h => h) (by assumption) (by rfl) ?yt16 ?rt16
      case yt16 => (intro w hSw; (try dsimp only at hSw); go_simp; try with_reducible rfl)
      try simp only [Act.put, List.setIfInBounds_toArray, List.set_cons_zero, List.set_cons_succ]
      refine runL 7 (v := ?vt17) rfl (by kernel_rfl) (fun _ _ _ h => h) (by assumption) (by rfl) ?yt17 ?rt17
      case yt17 => (intro w hSw; (try dsimp only at hSw); go_simp; try with_reducible rfl)
      try simp only [Act.put, List.setIfInBounds_toArray, List.set_cons_zero, List.set_cons_succ]
      refine runL 9 (v := ?vt19) rfl (by kernel_rfl) (fun _ _ _ h => h) (by assumption) (by rfl) ?yt19 ?rt19
      case yt19 => (intro w hSw; (try dsimp only at hSw); go_simp; try with_reducible rfl)
      try simp only [Act.put, List.setIfInBounds_toArray, List.set_cons_zero, List.set_cons_succ]
      refine wpAnyLast_ready (rs := [8]) (by kernel_rfl) (by simp) ?_
      refine AllReadyL.cons rfl (by decide) (fun K hK => ?_) AllReadyL.nil
      go_simp
      go_at_call 54; refine (hcp w17.drew A c (HF.out w17.drew (fun k hk hlt => HS17.out.tu.block k hlt (fun hc => hc (hlo k hk))))).mono ?_; rintro r w20 ⟨A6, c6, rfl, hR6, l6, hb6⟩; have HD := Lib.hid HS17.out.drew; have HS20 := Lib.hid (HD.out.below4 hb6); have HNC := Lib.hid (rcall_M ((P.pr.length : Int)) ((P.ob.length : Int)) e at_ hR6 HD.out.rs); unfold v43; clear hb6 hR6 l6
      go_wp2_with fail
      refine hK.out _ _ ?_ (fun hHeld2 => ?_)
      · exact adS_cells HS20.out
      clear hK K hHeld
      rename _ => hHeld
      try simp only [Act.put, List.setIfInBounds_toArray, List.set_cons_zero, List.set_cons_succ]
      refine runL 10 (v := ?vt110) rfl (by kernel_rfl) (fun _ _ _ h => h) (by assumption) (by rfl) ?yt110 ?rt110
      case yt110 => (intro w hSw; (try dsimp only at hSw); go_simp; try with_reducible rfl)
      try simp only [Act.put, List.setIfInBounds_toArray, List.set_cons_zero, List.set_cons_succ]
      refine wpAnyLast_ready (rs := [11]) (by kernel_rfl) (by simp) ?_
      refine AllReadyL.cons rfl (by decide) (fun K hK => ?_) AllReadyL.nil
      go_simp
      skip
      go_wp2_with fail
      refine hK.out _ _ ?_ (fun hHeld2 => ?_)
      · exact adS_alloc HS20.out _
      clear hK K hHeld
      rename _ => hHeld
      try simp only [Act.put, List.setIfInBounds_toArray, List.set_cons_zero, List.set_cons_succ]
      refine wpAnyLast_ready (rs := [12]) (by kernel_rfl) (by simp) ?_
      refine AllReadyL.cons (o := ?oot1) ?hit1 (by decide) ?kkt1 AllReadyL.nil
      case hit1 => (simp only [List.getElem?_toArray, List.getElem?_cons_succ, List.getElem?_cons_zero]; exact rfl)
      intro K hK
      refine Kd.R_append_step (w0 := w20) k50 B (by rfl) _ _ 28 50 _ 176 rfl Try.underlying28 info50 rfl (by decide) (by decide) (.slice A3 P.cl.length n3) P.cl ⟨(P.pr.length : Int), (P.ob.length : Int), e.f3, e.f4, at_, -1, z43⟩ _ (fun b => clr (recol gHS17 w17.drew.heap.size 4) 4 b ∨ w20.heap.size ≤ b) (fun b => clr (recol gHS17 w17.drew.heap.size 4) 4 b ∧ some b ≠ (Value.slice A3 P.cl.length n3).ownBlock) rfl rfl HNC.out (fun b hb => ⟨.inl hb.1, hb.2⟩) (fun b hb => .inr hb) (Kd.R_mono HS20.out.rs.cl (fun b hb => .inl hb)) (Below.refl _ _) HS20.out.rs.sz (by omega) ?_
      intro v8 w8 hR8 hb8 hg8 hat8
      obtain ⟨A8, c8, rfl⟩ := Kd.R_slice hR8
      have hT8 := turn_grown hg8 (fun b eb _ => HS20.out.rs.cl.1 b eb)
      have HS8 := Lib.hid (HS20.out.step hT8 (by decide) (by decide) (HS20.out.rs.cl1 hR8 hT8))
      refine hK.out _ _ ?_ (fun hHeld2 => ?_)
      · exact adS_cells HS8.out
      clear hK K hHeld
      rename _ => hHeld
      try simp only [Act.put, List.setIfInBounds_toArray, List.set_cons_zero, List.set_cons_succ]
      refine runL 13 (v := ?vt113) rfl (by kernel_rfl) (fun _ _ _ h => h) (by assumption) (by rfl) ?yt113 ?rt113
      case yt113 => (intro w hSw; (try dsimp only at hSw); go_simp; try with_reducible rfl)
      try simp only [Act.put, List.setIfInBounds_toArray, List.set_cons_zero, List.set_cons_succ]
      have q2 : w8.cell? ⟨W.heap.size, 2, none⟩ = some (.slice A3 P.cl.length n3) := (blk_cell HS8.out.xp 2).trans rfl
      have fq2 := blk_frozen HS8.out.xp 2
      refine wpAnyLast_ready (rs := [14]) (by kernel_rfl) (by simp) ?_
      refine AllReadyL.cons_last rfl (by decide) (fun K hK => ?_) AllReadyL.nil
      go_simp
      skip
      go_wp2_with fail
      refine hK.out _ _ ?_
      refine wpAnyLast_done (by kernel_rfl) ?_ _
      rw [List.length_append, List.length_singleton] at HS8
      have HS9 := Lib.hid (HS8.out.set 2 (.slice A8 (P.cl.length + 1) c8) (b1' := .slice A12 (P.pr.length + 1) n12) (b2' := .slice A16 (P.ob.length + 1) n16) (b3' := .slice A8 (P.cl.length + 1) c8) (blk_set HS8.out.xp 2 _))
      obtain ⟨w9, hw9⟩ : ∃ w, w = w8.setCell ⟨W.heap.size, 2, none⟩ (.slice A8 (P.cl.length + 1) c8) := ⟨_, rfl⟩
      rw [← hw9]
      rw [← hw9] at HS9
      obtain ⟨g9, hg9⟩ : ∃ g : Nat → Nat, AdS f g B W e A c w9 (.slice A12 (P.pr.length + 1) n12) (.slice A16 (P.ob.length + 1) n16) (.slice A8 (P.cl.length + 1) c8) (.slice A12 (P.pr.length + 1) n12) (.slice A16 (P.ob.length + 1) n16) (.slice A8 (P.cl.length + 1) c8) ⟨(P.pr ++ [e.f1]), (P.ob ++ [e.f2]), P.cl ++ [⟨(P.pr.length : Int), (P.ob.length : Int), e.f3, e.f4, at_, -1, z43⟩]⟩ := ⟨_, HS9.out⟩
      have H9 := Lib.hid hg9
      clear q2 fq2 hw9 hg9 HS8 HS9 HNC hHeld hT8 hR8 hb8 hg8 hat8
      clear p0 p1 p2 y0 y1 y2 y3 y4 y5 y6 y7 y8 hsz
      have p0 : w9.cell? ⟨W.heap.size, 0, none⟩ = some (.slice A12 (P.pr.length + 1) n12) := (blk_cell H9.out.xp 0).trans rfl
      have p1 : w9.cell? ⟨W.heap.size, 1, none⟩ = some (.slice A16 (P.ob.length + 1) n16) := (blk_cell H9.out.xp 1).trans rfl
      have p2 : w9.cell? ⟨W.heap.size, 2, none⟩ = some (.slice A8 (P.cl.length + 1) c8) := (blk_cell H9.out.xp 2).trans rfl
      have y0 : w9.cell? ⟨W.heap.size + 1, 0, none⟩ = some (.int .i64 e.f0) := (blk_cell H9.out.xe 0).trans rfl
      have y1 : w9.cell? ⟨W.heap.size + 1, 1, none⟩ = some (.string e.f1) := (blk_cell H9.out.xe 1).trans rfl
      have y2 : w9.cell? ⟨W.heap.size + 1, 2, none⟩ = some (.string e.f2) := (blk_cell H9.out.xe 2).trans rfl
      have y3 : w9.cell? ⟨W.heap.size + 1, 3, none⟩ = some (.string e.f3) := (blk_cell H9.out.xe 3).trans rfl
      have y4 : w9.cell? ⟨W.heap.size + 1, 4, none⟩ = some (.int .i64 e.f4.f0) := (blk_cell H9.out.xe 4).trans rfl
      have y5 : w9.cell? ⟨W.heap.size + 1, 5, none⟩ = some (.int .i64 e.f4.f1) := (blk_cell H9.out.xe 5).trans rfl
      have y6 : w9.cell? ⟨W.heap.size + 1, 6, none⟩ = some (.int .i64 e.f4.f2) := (blk_cell H9.out.xe 6).trans rfl
      have y7 : w9.cell? ⟨W.heap.size + 1, 7, none⟩ = some (.string e.f4.f3) := (blk_cell H9.out.xe 7).trans rfl
      have y8 : w9.cell? ⟨W.heap.size + 1, 8, none⟩ = some (.slice A e.f4.f4.length c) := (blk_cell H9.out.xe 8).trans rfl
      have hsz : W.heap.size + 2 < w9.heap.size := H9.out.size
      have r0 : w9.cell? ⟨W.heap.size + 2, 0, none⟩ = some (.slice none 0 0) := (blk_cell H9.out.xr 0).trans rfl
      have z0 := blk_frozen H9.out.xr 0
      have r1 : w9.cell? ⟨W.heap.size + 2, 1, none⟩ = some (.slice none 0 0) := (blk_cell H9.out.xr 1).trans rfl
      have z1 := blk_frozen H9.out.xr 1
      have r2 : w9.cell? ⟨W.heap.size + 2, 2, none⟩ = some (.slice none 0 0) := (blk_cell H9.out.xr 2).trans rfl
      have z2 := blk_frozen H9.out.xr 2
      have hP : invP P e at_ = ⟨(P.pr ++ [e.f1]), (P.ob ++ [e.f2]), P.cl ++ [⟨(P.pr.length : Int), (P.ob.length : Int), e.f3, e.f4, at_, -1, z43⟩]⟩ := by unfold invP; rw [hPN.out.1, hPN.out.2, hON.out.1, hON.out.2]
      have HP := Lib.hid hP
      clear hP
      go_wp2
      obtain ⟨Wf, hWf⟩ : ∃ Wf, Wf = set3w (W.heap.size + 2) (.slice A12 (P.pr.length + 1) n12) (.slice A16 (P.ob.length + 1) n16) (.slice A8 (P.cl.length + 1) c8) w9 := ⟨_, rfl⟩
      change bodyPost _ _ _ _ _ (set3w (W.heap.size + 2) (.slice A12 (P.pr.length + 1) n12) (.slice A16 (P.ob.length + 1) n16) (.slice A8 (P.cl.length + 1) c8) w9)
      rw [← hWf]
      have hRf : Wf.heap[W.heap.size + 2]? = some (.cells #[.slice A12 (P.pr.length + 1) n12, .slice A16 (P.ob.length + 1) n16, .slice A8 (P.cl.length + 1) c8] 30 (0, 0)) := by rw [hWf]; exact set3w_at _ _ _ H9.out.xr
      have t0 : Wf.cell? ⟨W.heap.size + 2, 0, none⟩ = some (.slice A12 (P.pr.length + 1) n12) := (blk_cell hRf 0).trans rfl
      have t1 : Wf.cell? ⟨W.heap.size + 2, 1, none⟩ = some (.slice A16 (P.ob.length + 1) n16) := (blk_cell hRf 1).trans rfl
      have t2 : Wf.cell? ⟨W.heap.size + 2, 2, none⟩ = some (.slice A8 (P.cl.length + 1) c8) := (blk_cell hRf 2).trans rfl
      refine bodyPost_ret (v := .tuple #[.agg #[.slice A12 (P.pr.length + 1) n12, .slice A16 (P.ob.length + 1) n16, .slice A8 (P.cl.length + 1) c8], .int .i64 0]) (by simp [results, Try.results59, go_sem, t0, t1, t2]) rfl ⟨_, _, _, g9, rfl, ?_, H9.out.lt, ?_⟩
      · rw [HP.out, hWf]; exact ((H9.out.rs.set H9.out.c2 0 _).set H9.out.c2 1 _).set H9.out.c2 2 _
      · rw [hWf]; exact ((H9.out.tu.set (W.heap.size + 2) 0 _ (fun hl => absurd hl (by omega))).set (W.heap.size + 2) 1 _ (fun hl => absurd hl (by omega))).set (W.heap.size + 2) 2 _ (fun hl => absurd hl (by omega))
    · have hON := Lib.hid (show (if ixFrom e.f2 P.ob 0 < 0 then P.ob ++ [e.f2] else P.ob) = P.ob ∧ (if ixFrom e.f2 P.ob 0 < 0 then (P.ob.length : Int) else ixFrom e.f2 P.ob 0) = oi from by rw [← HOI.out]; exact ⟨if_neg hob0, if_neg hob0⟩)
      have hob1 : 0 ≤ oi := by omega
      clear hob0
      go_upto_region 20 with fail
      refine wp_region_last_drew (ds := [14]) (S := (fun w => w.cell? ⟨W.heap.size, 2, none⟩ = some (.slice A3 P.cl.length n3) ∧ w.cell? ⟨W.heap.size + 1, 3, none⟩ = some (.string e.f3) ∧ w.cell? ⟨W.heap.size + 1, 4, none⟩ = some (.int .i64 e.f4.f0) ∧ w.cell? ⟨W.heap.size + 1, 5, none⟩ = some (.int .i64 e.f4.f1) ∧ w.cell? ⟨W.heap.size + 1, 6, none⟩ = some (.int .i64 e.f4.f2) ∧ w.cell? ⟨W.heap.size + 1, 7, none⟩ = some (.string e.f4.f3) ∧ w.cell? ⟨W.heap.size + 1, 8, none⟩ = some (.slice A e.f4.f4.length c))) (by kernel_rfl) ?_ (fun hHeld => ?_)
      · exact adS_cells HS14.out.drew
      refine runL 0 (v := ?vt20) rfl (by kernel_rfl) (fun _ _ _ h => h) (by assumption) (by rfl) ?yt20 ?rt20
      case yt20 => (intro w hSw; (try dsimp only at hSw); go_simp; try with_reducible rfl)
      try simp only [Act.put, List.setIfInBounds_toArray, List.set_cons_zero, List.set_cons_succ]
      refine runL 1 (v := ?vt21) rfl (by kernel_rfl) (fun _ _ _ h => h) (by assumption) (by rfl) ?yt21 ?rt21
      case yt21 => (intro w hSw; (try dsimp only at hSw); go_simp; try with_reducible rfl)
      try simp only [Act.put, List.setIfInBounds_toArray, List.set_cons_zero, List.set_cons_succ]
      refine runL 2 (v := ?vt22) rfl (by kernel_rfl) (fun _ _ _ h => h) (by assumption) (by rfl) ?yt22 ?rt22
      case yt22 => (intro w hSw; (try dsimp only at hSw); go_simp; try with_reducible rfl)
      try simp only [Act.put, List.setIfInBounds_toArray, List.set_cons_zero, List.set_cons_succ]
      refine runL 3 (v := ?vt23) rfl (by kernel_rfl) (fun _ _ _ h => h) (by assumption) (by rfl) ?yt23 ?rt23
      case yt23 => (intro w hSw; (try dsimp only at hSw); go_simp; try with_reducible rfl)
      try simp only [Act.put, List.setIfInBounds_toArray, List.set_cons_zero, List.set_cons_succ]
      refine runL 4 (v := ?vt24) rfl (by kernel_rfl) (fun _ _ _ h => h) (by assumption) (by rfl) ?yt24 ?rt24
      case yt24 => (intro w hSw; (try dsimp only at hSw); go_simp; try with_reducible rfl)
      try simp only [Act.put, List.setIfInBounds_toArray, List.set_cons_zero, List.set_cons_succ]
      refine runL 5 (v := ?vt25) rfl (by kernel_rfl) (fun _ _ _ h => h) (by assumption) (by rfl) ?yt25 ?rt25
      case yt25 => (intro w hSw; (try dsimp only at hSw); go_simp; try with_reducible rfl)
      try simp only [Act.put, List.setIfInBounds_toArray, List.set_cons_zero, List.set_cons_succ]
      refine runL 6 (v := ?vt26) rfl (by kernel_rfl) (fun _ _ _ h => h) (by assumption) (by rfl) ?yt26 ?rt26
      case yt26 => (intro w hSw; (try dsimp only at hSw); go_simp; try with_reducible rfl)
      try simp only [Act.put, List.setIfInBounds_toArray, List.set_cons_zero, List.set_cons_succ]
      refine runL 7 (v := ?vt27) rfl (by kernel_rfl) (fun _ _ _ h => h) (by assumption) (by rfl) ?yt27 ?rt27
      case yt27 => (intro w hSw; (try dsimp only at hSw); go_simp; try with_reducible rfl)
      try simp only [Act.put, List.setIfInBounds_toArray, List.set_cons_zero, List.set_cons_succ]
      refine runL 9 (v := ?vt29) rfl (by kernel_rfl) (fun _ _ _ h => h) (by assumption) (by rfl) ?yt29 ?rt29
      case yt29 => (intro w hSw; (try dsimp only at hSw); go_simp; try with_reducible rfl)
      try simp only [Act.put, List.setIfInBounds_toArray, List.set_cons_zero, List.set_cons_succ]
      refine wpAnyLast_ready (rs := [8]) (by kernel_rfl) (by simp) ?_
      refine AllReadyL.cons rfl (by decide) (fun K hK => ?_) AllReadyL.nil
      go_simp
      go_at_call 54; refine (hcp w14.drew A c (HF.out w14.drew (fun k hk hlt => HS14.out.tu.block k hlt (fun hc => hc (hlo k hk))))).mono ?_; rintro r w24 ⟨A6, c6, rfl, hR6, l6, hb6⟩; have HD := Lib.hid HS14.out.drew; have HS24 := Lib.hid (HD.out.below4 hb6); have HNC := Lib.hid (rcall_M ((P.pr.length : Int)) (oi) e at_ hR6 HD.out.rs); unfold v43; clear hb6 hR6 l6
      go_wp2_with fail
      refine hK.out _ _ ?_ (fun hHeld2 => ?_)
      · exact adS_cells HS24.out
      clear hK K hHeld
      rename _ => hHeld
      try simp only [Act.put, List.setIfInBounds_toArray, List.set_cons_zero, List.set_cons_succ]
      refine runL 10 (v := ?vt210) rfl (by kernel_rfl) (fun _ _ _ h => h) (by assumption) (by rfl) ?yt210 ?rt210
      case yt210 => (intro w hSw; (try dsimp only at hSw); go_simp; try with_reducible rfl)
      try simp only [Act.put, List.setIfInBounds_toArray, List.set_cons_zero, List.set_cons_succ]
      refine wpAnyLast_ready (rs := [11]) (by kernel_rfl) (by simp) ?_
      refine AllReadyL.cons rfl (by decide) (fun K hK => ?_) AllReadyL.nil
      go_simp
      skip
      go_wp2_with fail
      refine hK.out _ _ ?_ (fun hHeld2 => ?_)
      · exact adS_alloc HS24.out _
      clear hK K hHeld
      rename _ => hHeld
      try simp only [Act.put, List.setIfInBounds_toArray, List.set_cons_zero, List.set_cons_succ]
      refine wpAnyLast_ready (rs := [12]) (by kernel_rfl) (by simp) ?_
      refine AllReadyL.cons (o := ?oot2) ?hit2 (by decide) ?kkt2 AllReadyL.nil
      case hit2 => (simp only [List.getElem?_toArray, List.getElem?_cons_succ, List.getElem?_cons_zero]; exact rfl)
      intro K hK
      refine Kd.R_append_step (w0 := w24) k50 B (by rfl) _ _ 28 50 _ 176 rfl Try.underlying28 info50 rfl (by decide) (by decide) (.slice A3 P.cl.length n3) P.cl ⟨(P.pr.length : Int), oi, e.f3, e.f4, at_, -1, z43⟩ _ (fun b => clr (recol gHS14 w14.drew.heap.size 4) 4 b ∨ w24.heap.size ≤ b) (fun b => clr (recol gHS14 w14.drew.heap.size 4) 4 b ∧ some b ≠ (Value.slice A3 P.cl.length n3).ownBlock) rfl rfl HNC.out (fun b hb => ⟨.inl hb.1, hb.2⟩) (fun b hb => .inr hb) (Kd.R_mono HS24.out.rs.cl (fun b hb => .inl hb)) (Below.refl _ _) HS24.out.rs.sz (by omega) ?_
      intro v8 w8 hR8 hb8 hg8 hat8
      obtain ⟨A8, c8, rfl⟩ := Kd.R_slice hR8
      have hT8 := turn_grown hg8 (fun b eb _ => HS24.out.rs.cl.1 b eb)
      have HS8 := Lib.hid (HS24.out.step hT8 (by decide) (by decide) (HS24.out.rs.cl1 hR8 hT8))
      refine hK.out _ _ ?_ (fun hHeld2 => ?_)
      · exact adS_cells HS8.out
      clear hK K hHeld
      rename _ => hHeld
      try simp only [Act.put, List.setIfInBounds_toArray, List.set_cons_zero, List.set_cons_succ]
      refine runL 13 (v := ?vt213) rfl (by kernel_rfl) (fun _ _ _ h => h) (by assumption) (by rfl) ?yt213 ?rt213
      case yt213 => (intro w hSw; (try dsimp only at hSw); go_simp; try with_reducible rfl)
      try simp only [Act.put, List.setIfInBounds_toArray, List.set_cons_zero, List.set_cons_succ]
      have q2 : w8.cell? ⟨W.heap.size, 2, none⟩ = some (.slice A3 P.cl.length n3) := (blk_cell HS8.out.xp 2).trans rfl
      have fq2 := blk_frozen HS8.out.xp 2
      refine wpAnyLast_ready (rs := [14]) (by kernel_rfl) (by simp) ?_
      refine AllReadyL.cons_last rfl (by decide) (fun K hK => ?_) AllReadyL.nil
      go_simp
      skip
      go_wp2_with fail
      refine hK.out _ _ ?_
      refine wpAnyLast_done (by kernel_rfl) ?_ _
      rw [List.length_append, List.length_singleton] at HS8
      have HS9 := Lib.hid (HS8.out.set 2 (.slice A8 (P.cl.length + 1) c8) (b1' := .slice A12 (P.pr.length + 1) n12) (b2' := .slice A2 P.ob.length n2) (b3' := .slice A8 (P.cl.length + 1) c8) (blk_set HS8.out.xp 2 _))
      obtain ⟨w9, hw9⟩ : ∃ w, w = w8.setCell ⟨W.heap.size, 2, none⟩ (.slice A8 (P.cl.length + 1) c8) := ⟨_, rfl⟩
      rw [← hw9]
      rw [← hw9] at HS9
      obtain ⟨g9, hg9⟩ : ∃ g : Nat → Nat, AdS f g B W e A c w9 (.slice A12 (P.pr.length + 1) n12) (.slice A2 P.ob.length n2) (.slice A8 (P.cl.length + 1) c8) (.slice A12 (P.pr.length + 1) n12) (.slice A2 P.ob.length n2) (.slice A8 (P.cl.length + 1) c8) ⟨(P.pr ++ [e.f1]), P.ob, P.cl ++ [⟨(P.pr.length : Int), oi, e.f3, e.f4, at_, -1, z43⟩]⟩ := ⟨_, HS9.out⟩
      have H9 := Lib.hid hg9
      clear q2 fq2 hw9 hg9 HS8 HS9 HNC hHeld hT8 hR8 hb8 hg8 hat8
      clear p0 p1 p2 y0 y1 y2 y3 y4 y5 y6 y7 y8 hsz
      have p0 : w9.cell? ⟨W.heap.size, 0, none⟩ = some (.slice A12 (P.pr.length + 1) n12) := (blk_cell H9.out.xp 0).trans rfl
      have p1 : w9.cell? ⟨W.heap.size, 1, none⟩ = some (.slice A2 P.ob.length n2) := (blk_cell H9.out.xp 1).trans rfl
      have p2 : w9.cell? ⟨W.heap.size, 2, none⟩ = some (.slice A8 (P.cl.length + 1) c8) := (blk_cell H9.out.xp 2).trans rfl
      have y0 : w9.cell? ⟨W.heap.size + 1, 0, none⟩ = some (.int .i64 e.f0) := (blk_cell H9.out.xe 0).trans rfl
      have y1 : w9.cell? ⟨W.heap.size + 1, 1, none⟩ = some (.string e.f1) := (blk_cell H9.out.xe 1).trans rfl
      have y2 : w9.cell? ⟨W.heap.size + 1, 2, none⟩ = some (.string e.f2) := (blk_cell H9.out.xe 2).trans rfl
      have y3 : w9.cell? ⟨W.heap.size + 1, 3, none⟩ = some (.string e.f3) := (blk_cell H9.out.xe 3).trans rfl
      have y4 : w9.cell? ⟨W.heap.size + 1, 4, none⟩ = some (.int .i64 e.f4.f0) := (blk_cell H9.out.xe 4).trans rfl
      have y5 : w9.cell? ⟨W.heap.size + 1, 5, none⟩ = some (.int .i64 e.f4.f1) := (blk_cell H9.out.xe 5).trans rfl
      have y6 : w9.cell? ⟨W.heap.size + 1, 6, none⟩ = some (.int .i64 e.f4.f2) := (blk_cell H9.out.xe 6).trans rfl
      have y7 : w9.cell? ⟨W.heap.size + 1, 7, none⟩ = some (.string e.f4.f3) := (blk_cell H9.out.xe 7).trans rfl
      have y8 : w9.cell? ⟨W.heap.size + 1, 8, none⟩ = some (.slice A e.f4.f4.length c) := (blk_cell H9.out.xe 8).trans rfl
      have hsz : W.heap.size + 2 < w9.heap.size := H9.out.size
      have r0 : w9.cell? ⟨W.heap.size + 2, 0, none⟩ = some (.slice none 0 0) := (blk_cell H9.out.xr 0).trans rfl
      have z0 := blk_frozen H9.out.xr 0
      have r1 : w9.cell? ⟨W.heap.size + 2, 1, none⟩ = some (.slice none 0 0) := (blk_cell H9.out.xr 1).trans rfl
      have z1 := blk_frozen H9.out.xr 1
      have r2 : w9.cell? ⟨W.heap.size + 2, 2, none⟩ = some (.slice none 0 0) := (blk_cell H9.out.xr 2).trans rfl
      have z2 := blk_frozen H9.out.xr 2
      have hP : invP P e at_ = ⟨(P.pr ++ [e.f1]), P.ob, P.cl ++ [⟨(P.pr.length : Int), oi, e.f3, e.f4, at_, -1, z43⟩]⟩ := by unfold invP; rw [hPN.out.1, hPN.out.2, hON.out.1, hON.out.2]
      have HP := Lib.hid hP
      clear hP
      go_wp2
      obtain ⟨Wf, hWf⟩ : ∃ Wf, Wf = set3w (W.heap.size + 2) (.slice A12 (P.pr.length + 1) n12) (.slice A2 P.ob.length n2) (.slice A8 (P.cl.length + 1) c8) w9 := ⟨_, rfl⟩
      change bodyPost _ _ _ _ _ (set3w (W.heap.size + 2) (.slice A12 (P.pr.length + 1) n12) (.slice A2 P.ob.length n2) (.slice A8 (P.cl.length + 1) c8) w9)
      rw [← hWf]
      have hRf : Wf.heap[W.heap.size + 2]? = some (.cells #[.slice A12 (P.pr.length + 1) n12, .slice A2 P.ob.length n2, .slice A8 (P.cl.length + 1) c8] 30 (0, 0)) := by rw [hWf]; exact set3w_at _ _ _ H9.out.xr
      have t0 : Wf.cell? ⟨W.heap.size + 2, 0, none⟩ = some (.slice A12 (P.pr.length + 1) n12) := (blk_cell hRf 0).trans rfl
      have t1 : Wf.cell? ⟨W.heap.size + 2, 1, none⟩ = some (.slice A2 P.ob.length n2) := (blk_cell hRf 1).trans rfl
      have t2 : Wf.cell? ⟨W.heap.size + 2, 2, none⟩ = some (.slice A8 (P.cl.length + 1) c8) := (blk_cell hRf 2).trans rfl
      refine bodyPost_ret (v := .tuple #[.agg #[.slice A12 (P.pr.length + 1) n12, .slice A2 P.ob.length n2, .slice A8 (P.cl.length + 1) c8], .int .i64 0]) (by simp [results, Try.results59, go_sem, t0, t1, t2]) rfl ⟨_, _, _, g9, rfl, ?_, H9.out.lt, ?_⟩
      · rw [HP.out, hWf]; exact ((H9.out.rs.set H9.out.c2 0 _).set H9.out.c2 1 _).set H9.out.c2 2 _
      · rw [hWf]; exact ((H9.out.tu.set (W.heap.size + 2) 0 _ (fun hl => absurd hl (by omega))).set (W.heap.size + 2) 1 _ (fun hl => absurd hl (by omega))).set (W.heap.size + 2) 2 _ (fun hl => absurd hl (by omega))
  · have hPN := Lib.hid (show (if ixFrom e.f1 P.pr 0 < 0 then P.pr ++ [e.f1] else P.pr) = P.pr ∧ (if ixFrom e.f1 P.pr 0 < 0 then (P.pr.length : Int) else ixFrom e.f1 P.pr 0) = pi from by rw [← HPI.out]; exact ⟨if_neg hp0, if_neg hp0⟩)
    have hp1 : 0 ≤ pi := by omega
    have hon : opnF P.cl pi < 0 := by rcases ho with h | h; exact absurd h hp0; exact h
    clear ho hp0
    go_wp2_with fail
    refine (ropen_any _ _ _ P.cl A3 n3 pi (Kd.R_reads' HS4.out.rs.cl).2.2 rfl rfl).mono ?_
    rintro r w5 ⟨rfl, hw5⟩
    have HS5 := Lib.hid (HS4.out.below hw5)
    obtain ⟨gHS5, hgHS5⟩ : ∃ g, g = recol gHS4 w4.heap.size 9 := ⟨_, rfl⟩
    rw [← hgHS5] at HS5
    clear hgHS5
    clear p0 p1 p2 y0 y1 y2 y3 y4 y5 y6 y7 y8 hsz HS4
    have p0 : w5.cell? ⟨W.heap.size, 0, none⟩ = some (.slice A1 P.pr.length n1) := (blk_cell HS5.out.xp 0).trans rfl
    have p1 : w5.cell? ⟨W.heap.size, 1, none⟩ = some (.slice A2 P.ob.length n2) := (blk_cell HS5.out.xp 1).trans rfl
    have p2 : w5.cell? ⟨W.heap.size, 2, none⟩ = some (.slice A3 P.cl.length n3) := (blk_cell HS5.out.xp 2).trans rfl
    have y0 : w5.cell? ⟨W.heap.size + 1, 0, none⟩ = some (.int .i64 e.f0) := (blk_cell HS5.out.xe 0).trans rfl
    have y1 : w5.cell? ⟨W.heap.size + 1, 1, none⟩ = some (.string e.f1) := (blk_cell HS5.out.xe 1).trans rfl
    have y2 : w5.cell? ⟨W.heap.size + 1, 2, none⟩ = some (.string e.f2) := (blk_cell HS5.out.xe 2).trans rfl
    have y3 : w5.cell? ⟨W.heap.size + 1, 3, none⟩ = some (.string e.f3) := (blk_cell HS5.out.xe 3).trans rfl
    have y4 : w5.cell? ⟨W.heap.size + 1, 4, none⟩ = some (.int .i64 e.f4.f0) := (blk_cell HS5.out.xe 4).trans rfl
    have y5 : w5.cell? ⟨W.heap.size + 1, 5, none⟩ = some (.int .i64 e.f4.f1) := (blk_cell HS5.out.xe 5).trans rfl
    have y6 : w5.cell? ⟨W.heap.size + 1, 6, none⟩ = some (.int .i64 e.f4.f2) := (blk_cell HS5.out.xe 6).trans rfl
    have y7 : w5.cell? ⟨W.heap.size + 1, 7, none⟩ = some (.string e.f4.f3) := (blk_cell HS5.out.xe 7).trans rfl
    have y8 : w5.cell? ⟨W.heap.size + 1, 8, none⟩ = some (.slice A e.f4.f4.length c) := (blk_cell HS5.out.xe 8).trans rfl
    have hsz : W.heap.size + 2 < w5.heap.size := HS5.out.size
    clear hw5
    obtain ⟨on, hon2⟩ : ∃ o, o = opnF P.cl pi := ⟨_, rfl⟩
    rw [← hon2] at hon ⊢
    clear hon2
    go_upto_region 16 with fail
    go_wp2_with fail
    refine (find_any P.ob e.f2 A2 n2 _ (Kd.R_reads' HS5.out.rs.ob).2.2 hl2).mono ?_
    rintro r w26 ⟨rfl, hw26⟩
    have HS26 := Lib.hid (HS5.out.below hw26)
    obtain ⟨gHS26, hgHS26⟩ : ∃ g, g = recol gHS5 w5.heap.size 9 := ⟨_, rfl⟩
    rw [← hgHS26] at HS26
    clear hgHS26
    clear p0 p1 p2 y0 y1 y2 y3 y4 y5 y6 y7 y8 hsz HS5
    have p0 : w26.cell? ⟨W.heap.size, 0, none⟩ = some (.slice A1 P.pr.length n1) := (blk_cell HS26.out.xp 0).trans rfl
    have p1 : w26.cell? ⟨W.heap.size, 1, none⟩ = some (.slice A2 P.ob.length n2) := (blk_cell HS26.out.xp 1).trans rfl
    have p2 : w26.cell? ⟨W.heap.size, 2, none⟩ = some (.slice A3 P.cl.length n3) := (blk_cell HS26.out.xp 2).trans rfl
    have y0 : w26.cell? ⟨W.heap.size + 1, 0, none⟩ = some (.int .i64 e.f0) := (blk_cell HS26.out.xe 0).trans rfl
    have y1 : w26.cell? ⟨W.heap.size + 1, 1, none⟩ = some (.string e.f1) := (blk_cell HS26.out.xe 1).trans rfl
    have y2 : w26.cell? ⟨W.heap.size + 1, 2, none⟩ = some (.string e.f2) := (blk_cell HS26.out.xe 2).trans rfl
    have y3 : w26.cell? ⟨W.heap.size + 1, 3, none⟩ = some (.string e.f3) := (blk_cell HS26.out.xe 3).trans rfl
    have y4 : w26.cell? ⟨W.heap.size + 1, 4, none⟩ = some (.int .i64 e.f4.f0) := (blk_cell HS26.out.xe 4).trans rfl
    have y5 : w26.cell? ⟨W.heap.size + 1, 5, none⟩ = some (.int .i64 e.f4.f1) := (blk_cell HS26.out.xe 5).trans rfl
    have y6 : w26.cell? ⟨W.heap.size + 1, 6, none⟩ = some (.int .i64 e.f4.f2) := (blk_cell HS26.out.xe 6).trans rfl
    have y7 : w26.cell? ⟨W.heap.size + 1, 7, none⟩ = some (.string e.f4.f3) := (blk_cell HS26.out.xe 7).trans rfl
    have y8 : w26.cell? ⟨W.heap.size + 1, 8, none⟩ = some (.slice A e.f4.f4.length c) := (blk_cell HS26.out.xe 8).trans rfl
    have hsz : W.heap.size + 2 < w26.heap.size := HS26.out.size
    clear hw26
    obtain ⟨oi, hoi⟩ : ∃ o, o = ixFrom e.f2 P.ob 0 := ⟨_, rfl⟩
    rw [← hoi]
    have HOI := Lib.hid hoi
    have hob := ixFrom_bound e.f2 P.ob
    rw [← hoi] at hob
    clear hoi
    by_cases hob0 : oi < 0
    · have hON := Lib.hid (show (if ixFrom e.f2 P.ob 0 < 0 then P.ob ++ [e.f2] else P.ob) = P.ob ++ [e.f2] ∧ (if ixFrom e.f2 P.ob 0 < 0 then (P.ob.length : Int) else ixFrom e.f2 P.ob 0) = (P.ob.length : Int) from by rw [← HOI.out]; exact ⟨if_pos hob0, if_pos hob0⟩)
      have fz := blk_frozen HS26.out.xp 1
      go_upto_region 20 with (at_builtin; refine Kd.R_append (w0 := w26) Kd.string B rfl _ _ 27 9 _ 16 rfl Try.underlying27 info9 rfl (by decide) (by decide) (.slice A2 P.ob.length n2) P.ob e.f2 [.string e.f2] (fun b => clr gHS26 2 b ∨ w26.heap.size ≤ b) (fun _ => False) rfl rfl rfl (fun _ h => h.elim) (fun b hb => .inr hb) (Kd.R_mono HS26.out.rs.ob (fun b hb => .inl hb)) (Below.refl B w26) HS26.out.rs.sz (by omega) ?_; intro v28 w28 hR28 hb28 hg28 hat28; obtain ⟨A28, n28, rfl⟩ := Kd.R_slice hR28; have hT28 := turn_grown hg28 (fun b eb _ => HS26.out.rs.ob.1 b eb); have HS28 := Lib.hid (HS26.out.step hT28 (by decide) (by decide) (HS26.out.rs.ob1 hR28 hT28)); rw [List.length_append, List.length_singleton] at HS28; have q28 : w28.cell? ⟨W.heap.size, 1, none⟩ = some (.slice A2 P.ob.length n2) := (blk_cell HS28.out.xp 1).trans rfl; have fq28 := blk_frozen HS28.out.xp 1; clear hR28 hb28 hg28 hat28 hT28)
      have HS29 := Lib.hid (HS28.out.set 1 (.slice A28 (P.ob.length + 1) n28) (b1' := .slice A1 P.pr.length n1) (b2' := .slice A28 (P.ob.length + 1) n28) (b3' := .slice A3 P.cl.length n3) (blk_set HS28.out.xp 1 _))
      obtain ⟨w29, hw29⟩ : ∃ w, w = w28.setCell ⟨W.heap.size, 1, none⟩ (.slice A28 (P.ob.length + 1) n28) := ⟨_, rfl⟩
      rw [← hw29] at HS29 ⊢
      clear p0 p1 p2 y0 y1 y2 y3 y4 y5 y6 y7 y8 hsz fz q28 fq28 hw29
      obtain ⟨gHS29, hg29⟩ : ∃ g, g = recol gHS26 w26.heap.size 2 := ⟨_, rfl⟩
      rw [← hg29] at HS29
      clear hg29 HS28 HS26
      have p0 : w29.cell? ⟨W.heap.size, 0, none⟩ = some (.slice A1 P.pr.length n1) := (blk_cell HS29.out.xp 0).trans rfl
      have p1 : w29.cell? ⟨W.heap.size, 1, none⟩ = some (.slice A28 (P.ob.length + 1) n28) := (blk_cell HS29.out.xp 1).trans rfl
      have p2 : w29.cell? ⟨W.heap.size, 2, none⟩ = some (.slice A3 P.cl.length n3) := (blk_cell HS29.out.xp 2).trans rfl
      have y0 : w29.cell? ⟨W.heap.size + 1, 0, none⟩ = some (.int .i64 e.f0) := (blk_cell HS29.out.xe 0).trans rfl
      have y1 : w29.cell? ⟨W.heap.size + 1, 1, none⟩ = some (.string e.f1) := (blk_cell HS29.out.xe 1).trans rfl
      have y2 : w29.cell? ⟨W.heap.size + 1, 2, none⟩ = some (.string e.f2) := (blk_cell HS29.out.xe 2).trans rfl
      have y3 : w29.cell? ⟨W.heap.size + 1, 3, none⟩ = some (.string e.f3) := (blk_cell HS29.out.xe 3).trans rfl
      have y4 : w29.cell? ⟨W.heap.size + 1, 4, none⟩ = some (.int .i64 e.f4.f0) := (blk_cell HS29.out.xe 4).trans rfl
      have y5 : w29.cell? ⟨W.heap.size + 1, 5, none⟩ = some (.int .i64 e.f4.f1) := (blk_cell HS29.out.xe 5).trans rfl
      have y6 : w29.cell? ⟨W.heap.size + 1, 6, none⟩ = some (.int .i64 e.f4.f2) := (blk_cell HS29.out.xe 6).trans rfl
      have y7 : w29.cell? ⟨W.heap.size + 1, 7, none⟩ = some (.string e.f4.f3) := (blk_cell HS29.out.xe 7).trans rfl
      have y8 : w29.cell? ⟨W.heap.size + 1, 8, none⟩ = some (.slice A e.f4.f4.length c) := (blk_cell HS29.out.xe 8).trans rfl
      have hsz : W.heap.size + 2 < w29.heap.size := HS29.out.size
      clear hob0 hob
      refine wp_region_last_drew (ds := [14]) (S := (fun w => w.cell? ⟨W.heap.size, 2, none⟩ = some (.slice A3 P.cl.length n3) ∧ w.cell? ⟨W.heap.size + 1, 3, none⟩ = some (.string e.f3) ∧ w.cell? ⟨W.heap.size + 1, 4, none⟩ = some (.int .i64 e.f4.f0) ∧ w.cell? ⟨W.heap.size + 1, 5, none⟩ = some (.int .i64 e.f4.f1) ∧ w.cell? ⟨W.heap.size + 1, 6, none⟩ = some (.int .i64 e.f4.f2) ∧ w.cell? ⟨W.heap.size + 1, 7, none⟩ = some (.string e.f4.f3) ∧ w.cell? ⟨W.heap.size + 1, 8, none⟩ = some (.slice A e.f4.f4.length c))) (by kernel_rfl) ?_ (fun hHeld => ?_)
      · exact adS_cells HS29.out.drew
      refine runL 0 (v := ?vt30) rfl (by kernel_rfl) (fun _ _ _ h => h) (by assumption) (by rfl) ?yt30 ?rt30
      case yt30 => (intro w hSw; (try dsimp only at hSw); go_simp; try with_reducible rfl)
      try simp only [Act.put, List.setIfInBounds_toArray, List.set_cons_zero, List.set_cons_succ]
      refine runL 1 (v := ?vt31) rfl (by kernel_rfl) (fun _ _ _ h => h) (by assumption) (by rfl) ?yt31 ?rt31
      case yt31 => (intro w hSw; (try dsimp only at hSw); go_simp; try with_reducible rfl)
      try simp only [Act.put, List.setIfInBounds_toArray, List.set_cons_zero, List.set_cons_succ]
      refine runL 2 (v := ?vt32) rfl (by kernel_rfl) (fun _ _ _ h => h) (by assumption) (by rfl) ?yt32 ?rt32
      case yt32 => (intro w hSw; (try dsimp only at hSw); go_simp; try with_reducible rfl)
      try simp only [Act.put, List.setIfInBounds_toArray, List.set_cons_zero, List.set_cons_succ]
      refine runL 3 (v := ?vt33) rfl (by kernel_rfl) (fun _ _ _ h => h) (by assumption) (by rfl) ?yt33 ?rt33
      case yt33 => (intro w hSw; (try dsimp only at hSw); go_simp; try with_reducible rfl)
      try simp only [Act.put, List.setIfInBounds_toArray, List.set_cons_zero, List.set_cons_succ]
      refine runL 4 (v := ?vt34) rfl (by kernel_rfl) (fun _ _ _ h => h) (by assumption) (by rfl) ?yt34 ?rt34
      case yt34 => (intro w hSw; (try dsimp only at hSw); go_simp; try with_reducible rfl)
      try simp only [Act.put, List.setIfInBounds_toArray, List.set_cons_zero, List.set_cons_succ]
      refine runL 5 (v := ?vt35) rfl (by kernel_rfl) (fun _ _ _ h => h) (by assumption) (by rfl) ?yt35 ?rt35
      case yt35 => (intro w hSw; (try dsimp only at hSw); go_simp; try with_reducible rfl)
      try simp only [Act.put, List.setIfInBounds_toArray, List.set_cons_zero, List.set_cons_succ]
      refine runL 6 (v := ?vt36) rfl (by kernel_rfl) (fun _ _ _ h => h) (by assumption) (by rfl) ?yt36 ?rt36
      case yt36 => (intro w hSw; (try dsimp only at hSw); go_simp; try with_reducible rfl)
      try simp only [Act.put, List.setIfInBounds_toArray, List.set_cons_zero, List.set_cons_succ]
      refine runL 7 (v := ?vt37) rfl (by kernel_rfl) (fun _ _ _ h => h) (by assumption) (by rfl) ?yt37 ?rt37
      case yt37 => (intro w hSw; (try dsimp only at hSw); go_simp; try with_reducible rfl)
      try simp only [Act.put, List.setIfInBounds_toArray, List.set_cons_zero, List.set_cons_succ]
      refine runL 9 (v := ?vt39) rfl (by kernel_rfl) (fun _ _ _ h => h) (by assumption) (by rfl) ?yt39 ?rt39
      case yt39 => (intro w hSw; (try dsimp only at hSw); go_simp; try with_reducible rfl)
      try simp only [Act.put, List.setIfInBounds_toArray, List.set_cons_zero, List.set_cons_succ]
      refine wpAnyLast_ready (rs := [8]) (by kernel_rfl) (by simp) ?_
      refine AllReadyL.cons rfl (by decide) (fun K hK => ?_) AllReadyL.nil
      go_simp
      go_at_call 54; refine (hcp w29.drew A c (HF.out w29.drew (fun k hk hlt => HS29.out.tu.block k hlt (fun hc => hc (hlo k hk))))).mono ?_; rintro r w32 ⟨A6, c6, rfl, hR6, l6, hb6⟩; have HD := Lib.hid HS29.out.drew; have HS32 := Lib.hid (HD.out.below4 hb6); have HNC := Lib.hid (rcall_M (pi) ((P.ob.length : Int)) e at_ hR6 HD.out.rs); unfold v43; clear hb6 hR6 l6
      go_wp2_with fail
      refine hK.out _ _ ?_ (fun hHeld2 => ?_)
      · exact adS_cells HS32.out
      clear hK K hHeld
      rename _ => hHeld
      try simp only [Act.put, List.setIfInBounds_toArray, List.set_cons_zero, List.set_cons_succ]
      refine runL 10 (v := ?vt310) rfl (by kernel_rfl) (fun _ _ _ h => h) (by assumption) (by rfl) ?yt310 ?rt310
      case yt310 => (intro w hSw; (try dsimp only at hSw); go_simp; try with_reducible rfl)
      try simp only [Act.put, List.setIfInBounds_toArray, List.set_cons_zero, List.set_cons_succ]
      refine wpAnyLast_ready (rs := [11]) (by kernel_rfl) (by simp) ?_
      refine AllReadyL.cons rfl (by decide) (fun K hK => ?_) AllReadyL.nil
      go_simp
      skip
      go_wp2_with fail
      refine hK.out _ _ ?_ (fun hHeld2 => ?_)
      · exact adS_alloc HS32.out _
      clear hK K hHeld
      rename _ => hHeld
      try simp only [Act.put, List.setIfInBounds_toArray, List.set_cons_zero, List.set_cons_succ]
      refine wpAnyLast_ready (rs := [12]) (by kernel_rfl) (by simp) ?_
      refine AllReadyL.cons (o := ?oot3) ?hit3 (by decide) ?kkt3 AllReadyL.nil
      case hit3 => (simp only [List.getElem?_toArray, List.getElem?_cons_succ, List.getElem?_cons_zero]; exact rfl)
      intro K hK
      refine Kd.R_append_step (w0 := w32) k50 B (by rfl) _ _ 28 50 _ 176 rfl Try.underlying28 info50 rfl (by decide) (by decide) (.slice A3 P.cl.length n3) P.cl ⟨pi, (P.ob.length : Int), e.f3, e.f4, at_, -1, z43⟩ _ (fun b => clr (recol gHS29 w29.drew.heap.size 4) 4 b ∨ w32.heap.size ≤ b) (fun b => clr (recol gHS29 w29.drew.heap.size 4) 4 b ∧ some b ≠ (Value.slice A3 P.cl.length n3).ownBlock) rfl rfl HNC.out (fun b hb => ⟨.inl hb.1, hb.2⟩) (fun b hb => .inr hb) (Kd.R_mono HS32.out.rs.cl (fun b hb => .inl hb)) (Below.refl _ _) HS32.out.rs.sz (by omega) ?_
      intro v8 w8 hR8 hb8 hg8 hat8
      obtain ⟨A8, c8, rfl⟩ := Kd.R_slice hR8
      have hT8 := turn_grown hg8 (fun b eb _ => HS32.out.rs.cl.1 b eb)
      have HS8 := Lib.hid (HS32.out.step hT8 (by decide) (by decide) (HS32.out.rs.cl1 hR8 hT8))
      refine hK.out _ _ ?_ (fun hHeld2 => ?_)
      · exact adS_cells HS8.out
      clear hK K hHeld
      rename _ => hHeld
      try simp only [Act.put, List.setIfInBounds_toArray, List.set_cons_zero, List.set_cons_succ]
      refine runL 13 (v := ?vt313) rfl (by kernel_rfl) (fun _ _ _ h => h) (by assumption) (by rfl) ?yt313 ?rt313
      case yt313 => (intro w hSw; (try dsimp only at hSw); go_simp; try with_reducible rfl)
      try simp only [Act.put, List.setIfInBounds_toArray, List.set_cons_zero, List.set_cons_succ]
      have q2 : w8.cell? ⟨W.heap.size, 2, none⟩ = some (.slice A3 P.cl.length n3) := (blk_cell HS8.out.xp 2).trans rfl
      have fq2 := blk_frozen HS8.out.xp 2
      refine wpAnyLast_ready (rs := [14]) (by kernel_rfl) (by simp) ?_
      refine AllReadyL.cons_last rfl (by decide) (fun K hK => ?_) AllReadyL.nil
      go_simp
      skip
      go_wp2_with fail
      refine hK.out _ _ ?_
      refine wpAnyLast_done (by kernel_rfl) ?_ _
      rw [List.length_append, List.length_singleton] at HS8
      have HS9 := Lib.hid (HS8.out.set 2 (.slice A8 (P.cl.length + 1) c8) (b1' := .slice A1 P.pr.length n1) (b2' := .slice A28 (P.ob.length + 1) n28) (b3' := .slice A8 (P.cl.length + 1) c8) (blk_set HS8.out.xp 2 _))
      obtain ⟨w9, hw9⟩ : ∃ w, w = w8.setCell ⟨W.heap.size, 2, none⟩ (.slice A8 (P.cl.length + 1) c8) := ⟨_, rfl⟩
      rw [← hw9]
      rw [← hw9] at HS9
      obtain ⟨g9, hg9⟩ : ∃ g : Nat → Nat, AdS f g B W e A c w9 (.slice A1 P.pr.length n1) (.slice A28 (P.ob.length + 1) n28) (.slice A8 (P.cl.length + 1) c8) (.slice A1 P.pr.length n1) (.slice A28 (P.ob.length + 1) n28) (.slice A8 (P.cl.length + 1) c8) ⟨P.pr, (P.ob ++ [e.f2]), P.cl ++ [⟨pi, (P.ob.length : Int), e.f3, e.f4, at_, -1, z43⟩]⟩ := ⟨_, HS9.out⟩
      have H9 := Lib.hid hg9
      clear q2 fq2 hw9 hg9 HS8 HS9 HNC hHeld hT8 hR8 hb8 hg8 hat8
      clear p0 p1 p2 y0 y1 y2 y3 y4 y5 y6 y7 y8 hsz
      have p0 : w9.cell? ⟨W.heap.size, 0, none⟩ = some (.slice A1 P.pr.length n1) := (blk_cell H9.out.xp 0).trans rfl
      have p1 : w9.cell? ⟨W.heap.size, 1, none⟩ = some (.slice A28 (P.ob.length + 1) n28) := (blk_cell H9.out.xp 1).trans rfl
      have p2 : w9.cell? ⟨W.heap.size, 2, none⟩ = some (.slice A8 (P.cl.length + 1) c8) := (blk_cell H9.out.xp 2).trans rfl
      have y0 : w9.cell? ⟨W.heap.size + 1, 0, none⟩ = some (.int .i64 e.f0) := (blk_cell H9.out.xe 0).trans rfl
      have y1 : w9.cell? ⟨W.heap.size + 1, 1, none⟩ = some (.string e.f1) := (blk_cell H9.out.xe 1).trans rfl
      have y2 : w9.cell? ⟨W.heap.size + 1, 2, none⟩ = some (.string e.f2) := (blk_cell H9.out.xe 2).trans rfl
      have y3 : w9.cell? ⟨W.heap.size + 1, 3, none⟩ = some (.string e.f3) := (blk_cell H9.out.xe 3).trans rfl
      have y4 : w9.cell? ⟨W.heap.size + 1, 4, none⟩ = some (.int .i64 e.f4.f0) := (blk_cell H9.out.xe 4).trans rfl
      have y5 : w9.cell? ⟨W.heap.size + 1, 5, none⟩ = some (.int .i64 e.f4.f1) := (blk_cell H9.out.xe 5).trans rfl
      have y6 : w9.cell? ⟨W.heap.size + 1, 6, none⟩ = some (.int .i64 e.f4.f2) := (blk_cell H9.out.xe 6).trans rfl
      have y7 : w9.cell? ⟨W.heap.size + 1, 7, none⟩ = some (.string e.f4.f3) := (blk_cell H9.out.xe 7).trans rfl
      have y8 : w9.cell? ⟨W.heap.size + 1, 8, none⟩ = some (.slice A e.f4.f4.length c) := (blk_cell H9.out.xe 8).trans rfl
      have hsz : W.heap.size + 2 < w9.heap.size := H9.out.size
      have r0 : w9.cell? ⟨W.heap.size + 2, 0, none⟩ = some (.slice none 0 0) := (blk_cell H9.out.xr 0).trans rfl
      have z0 := blk_frozen H9.out.xr 0
      have r1 : w9.cell? ⟨W.heap.size + 2, 1, none⟩ = some (.slice none 0 0) := (blk_cell H9.out.xr 1).trans rfl
      have z1 := blk_frozen H9.out.xr 1
      have r2 : w9.cell? ⟨W.heap.size + 2, 2, none⟩ = some (.slice none 0 0) := (blk_cell H9.out.xr 2).trans rfl
      have z2 := blk_frozen H9.out.xr 2
      have hP : invP P e at_ = ⟨P.pr, (P.ob ++ [e.f2]), P.cl ++ [⟨pi, (P.ob.length : Int), e.f3, e.f4, at_, -1, z43⟩]⟩ := by unfold invP; rw [hPN.out.1, hPN.out.2, hON.out.1, hON.out.2]
      have HP := Lib.hid hP
      clear hP
      go_wp2
      obtain ⟨Wf, hWf⟩ : ∃ Wf, Wf = set3w (W.heap.size + 2) (.slice A1 P.pr.length n1) (.slice A28 (P.ob.length + 1) n28) (.slice A8 (P.cl.length + 1) c8) w9 := ⟨_, rfl⟩
      change bodyPost _ _ _ _ _ (set3w (W.heap.size + 2) (.slice A1 P.pr.length n1) (.slice A28 (P.ob.length + 1) n28) (.slice A8 (P.cl.length + 1) c8) w9)
      rw [← hWf]
      have hRf : Wf.heap[W.heap.size + 2]? = some (.cells #[.slice A1 P.pr.length n1, .slice A28 (P.ob.length + 1) n28, .slice A8 (P.cl.length + 1) c8] 30 (0, 0)) := by rw [hWf]; exact set3w_at _ _ _ H9.out.xr
      have t0 : Wf.cell? ⟨W.heap.size + 2, 0, none⟩ = some (.slice A1 P.pr.length n1) := (blk_cell hRf 0).trans rfl
      have t1 : Wf.cell? ⟨W.heap.size + 2, 1, none⟩ = some (.slice A28 (P.ob.length + 1) n28) := (blk_cell hRf 1).trans rfl
      have t2 : Wf.cell? ⟨W.heap.size + 2, 2, none⟩ = some (.slice A8 (P.cl.length + 1) c8) := (blk_cell hRf 2).trans rfl
      refine bodyPost_ret (v := .tuple #[.agg #[.slice A1 P.pr.length n1, .slice A28 (P.ob.length + 1) n28, .slice A8 (P.cl.length + 1) c8], .int .i64 0]) (by simp [results, Try.results59, go_sem, t0, t1, t2]) rfl ⟨_, _, _, g9, rfl, ?_, H9.out.lt, ?_⟩
      · rw [HP.out, hWf]; exact ((H9.out.rs.set H9.out.c2 0 _).set H9.out.c2 1 _).set H9.out.c2 2 _
      · rw [hWf]; exact ((H9.out.tu.set (W.heap.size + 2) 0 _ (fun hl => absurd hl (by omega))).set (W.heap.size + 2) 1 _ (fun hl => absurd hl (by omega))).set (W.heap.size + 2) 2 _ (fun hl => absurd hl (by omega))
    · have hON := Lib.hid (show (if ixFrom e.f2 P.ob 0 < 0 then P.ob ++ [e.f2] else P.ob) = P.ob ∧ (if ixFrom e.f2 P.ob 0 < 0 then (P.ob.length : Int) else ixFrom e.f2 P.ob 0) = oi from by rw [← HOI.out]; exact ⟨if_neg hob0, if_neg hob0⟩)
      have hob1 : 0 ≤ oi := by omega
      clear hob0
      go_upto_region 20 with fail
      refine wp_region_last_drew (ds := [14]) (S := (fun w => w.cell? ⟨W.heap.size, 2, none⟩ = some (.slice A3 P.cl.length n3) ∧ w.cell? ⟨W.heap.size + 1, 3, none⟩ = some (.string e.f3) ∧ w.cell? ⟨W.heap.size + 1, 4, none⟩ = some (.int .i64 e.f4.f0) ∧ w.cell? ⟨W.heap.size + 1, 5, none⟩ = some (.int .i64 e.f4.f1) ∧ w.cell? ⟨W.heap.size + 1, 6, none⟩ = some (.int .i64 e.f4.f2) ∧ w.cell? ⟨W.heap.size + 1, 7, none⟩ = some (.string e.f4.f3) ∧ w.cell? ⟨W.heap.size + 1, 8, none⟩ = some (.slice A e.f4.f4.length c))) (by kernel_rfl) ?_ (fun hHeld => ?_)
      · exact adS_cells HS26.out.drew
      refine runL 0 (v := ?vt40) rfl (by kernel_rfl) (fun _ _ _ h => h) (by assumption) (by rfl) ?yt40 ?rt40
      case yt40 => (intro w hSw; (try dsimp only at hSw); go_simp; try with_reducible rfl)
      try simp only [Act.put, List.setIfInBounds_toArray, List.set_cons_zero, List.set_cons_succ]
      refine runL 1 (v := ?vt41) rfl (by kernel_rfl) (fun _ _ _ h => h) (by assumption) (by rfl) ?yt41 ?rt41
      case yt41 => (intro w hSw; (try dsimp only at hSw); go_simp; try with_reducible rfl)
      try simp only [Act.put, List.setIfInBounds_toArray, List.set_cons_zero, List.set_cons_succ]
      refine runL 2 (v := ?vt42) rfl (by kernel_rfl) (fun _ _ _ h => h) (by assumption) (by rfl) ?yt42 ?rt42
      case yt42 => (intro w hSw; (try dsimp only at hSw); go_simp; try with_reducible rfl)
      try simp only [Act.put, List.setIfInBounds_toArray, List.set_cons_zero, List.set_cons_succ]
      refine runL 3 (v := ?vt43) rfl (by kernel_rfl) (fun _ _ _ h => h) (by assumption) (by rfl) ?yt43 ?rt43
      case yt43 => (intro w hSw; (try dsimp only at hSw); go_simp; try with_reducible rfl)
      try simp only [Act.put, List.setIfInBounds_toArray, List.set_cons_zero, List.set_cons_succ]
      refine runL 4 (v := ?vt44) rfl (by kernel_rfl) (fun _ _ _ h => h) (by assumption) (by rfl) ?yt44 ?rt44
      case yt44 => (intro w hSw; (try dsimp only at hSw); go_simp; try with_reducible rfl)
      try simp only [Act.put, List.setIfInBounds_toArray, List.set_cons_zero, List.set_cons_succ]
      refine runL 5 (v := ?vt45) rfl (by kernel_rfl) (fun _ _ _ h => h) (by assumption) (by rfl) ?yt45 ?rt45
      case yt45 => (intro w hSw; (try dsimp only at hSw); go_simp; try with_reducible rfl)
      try simp only [Act.put, List.setIfInBounds_toArray, List.set_cons_zero, List.set_cons_succ]
      refine runL 6 (v := ?vt46) rfl (by kernel_rfl) (fun _ _ _ h => h) (by assumption) (by rfl) ?yt46 ?rt46
      case yt46 => (intro w hSw; (try dsimp only at hSw); go_simp; try with_reducible rfl)
      try simp only [Act.put, List.setIfInBounds_toArray, List.set_cons_zero, List.set_cons_succ]
      refine runL 7 (v := ?vt47) rfl (by kernel_rfl) (fun _ _ _ h => h) (by assumption) (by rfl) ?yt47 ?rt47
      case yt47 => (intro w hSw; (try dsimp only at hSw); go_simp; try with_reducible rfl)
      try simp only [Act.put, List.setIfInBounds_toArray, List.set_cons_zero, List.set_cons_succ]
      refine runL 9 (v := ?vt49) rfl (by kernel_rfl) (fun _ _ _ h => h) (by assumption) (by rfl) ?yt49 ?rt49
      case yt49 => (intro w hSw; (try dsimp only at hSw); go_simp; try with_reducible rfl)
      try simp only [Act.put, List.setIfInBounds_toArray, List.set_cons_zero, List.set_cons_succ]
      refine wpAnyLast_ready (rs := [8]) (by kernel_rfl) (by simp) ?_
      refine AllReadyL.cons rfl (by decide) (fun K hK => ?_) AllReadyL.nil
      go_simp
      go_at_call 54; refine (hcp w26.drew A c (HF.out w26.drew (fun k hk hlt => HS26.out.tu.block k hlt (fun hc => hc (hlo k hk))))).mono ?_; rintro r w36 ⟨A6, c6, rfl, hR6, l6, hb6⟩; have HD := Lib.hid HS26.out.drew; have HS36 := Lib.hid (HD.out.below4 hb6); have HNC := Lib.hid (rcall_M (pi) (oi) e at_ hR6 HD.out.rs); unfold v43; clear hb6 hR6 l6
      go_wp2_with fail
      refine hK.out _ _ ?_ (fun hHeld2 => ?_)
      · exact adS_cells HS36.out
      clear hK K hHeld
      rename _ => hHeld
      try simp only [Act.put, List.setIfInBounds_toArray, List.set_cons_zero, List.set_cons_succ]
      refine runL 10 (v := ?vt410) rfl (by kernel_rfl) (fun _ _ _ h => h) (by assumption) (by rfl) ?yt410 ?rt410
      case yt410 => (intro w hSw; (try dsimp only at hSw); go_simp; try with_reducible rfl)
      try simp only [Act.put, List.setIfInBounds_toArray, List.set_cons_zero, List.set_cons_succ]
      refine wpAnyLast_ready (rs := [11]) (by kernel_rfl) (by simp) ?_
      refine AllReadyL.cons rfl (by decide) (fun K hK => ?_) AllReadyL.nil
      go_simp
      skip
      go_wp2_with fail
      refine hK.out _ _ ?_ (fun hHeld2 => ?_)
      · exact adS_alloc HS36.out _
      clear hK K hHeld
      rename _ => hHeld
      try simp only [Act.put, List.setIfInBounds_toArray, List.set_cons_zero, List.set_cons_succ]
      refine wpAnyLast_ready (rs := [12]) (by kernel_rfl) (by simp) ?_
      refine AllReadyL.cons (o := ?oot4) ?hit4 (by decide) ?kkt4 AllReadyL.nil
      case hit4 => (simp only [List.getElem?_toArray, List.getElem?_cons_succ, List.getElem?_cons_zero]; exact rfl)
      intro K hK
      refine Kd.R_append_step (w0 := w36) k50 B (by rfl) _ _ 28 50 _ 176 rfl Try.underlying28 info50 rfl (by decide) (by decide) (.slice A3 P.cl.length n3) P.cl ⟨pi, oi, e.f3, e.f4, at_, -1, z43⟩ _ (fun b => clr (recol gHS26 w26.drew.heap.size 4) 4 b ∨ w36.heap.size ≤ b) (fun b => clr (recol gHS26 w26.drew.heap.size 4) 4 b ∧ some b ≠ (Value.slice A3 P.cl.length n3).ownBlock) rfl rfl HNC.out (fun b hb => ⟨.inl hb.1, hb.2⟩) (fun b hb => .inr hb) (Kd.R_mono HS36.out.rs.cl (fun b hb => .inl hb)) (Below.refl _ _) HS36.out.rs.sz (by omega) ?_
      intro v8 w8 hR8 hb8 hg8 hat8
      obtain ⟨A8, c8, rfl⟩ := Kd.R_slice hR8
      have hT8 := turn_grown hg8 (fun b eb _ => HS36.out.rs.cl.1 b eb)
      have HS8 := Lib.hid (HS36.out.step hT8 (by decide) (by decide) (HS36.out.rs.cl1 hR8 hT8))
      refine hK.out _ _ ?_ (fun hHeld2 => ?_)
      · exact adS_cells HS8.out
      clear hK K hHeld
      rename _ => hHeld
      try simp only [Act.put, List.setIfInBounds_toArray, List.set_cons_zero, List.set_cons_succ]
      refine runL 13 (v := ?vt413) rfl (by kernel_rfl) (fun _ _ _ h => h) (by assumption) (by rfl) ?yt413 ?rt413
      case yt413 => (intro w hSw; (try dsimp only at hSw); go_simp; try with_reducible rfl)
      try simp only [Act.put, List.setIfInBounds_toArray, List.set_cons_zero, List.set_cons_succ]
      have q2 : w8.cell? ⟨W.heap.size, 2, none⟩ = some (.slice A3 P.cl.length n3) := (blk_cell HS8.out.xp 2).trans rfl
      have fq2 := blk_frozen HS8.out.xp 2
      refine wpAnyLast_ready (rs := [14]) (by kernel_rfl) (by simp) ?_
      refine AllReadyL.cons_last rfl (by decide) (fun K hK => ?_) AllReadyL.nil
      go_simp
      skip
      go_wp2_with fail
      refine hK.out _ _ ?_
      refine wpAnyLast_done (by kernel_rfl) ?_ _
      rw [List.length_append, List.length_singleton] at HS8
      have HS9 := Lib.hid (HS8.out.set 2 (.slice A8 (P.cl.length + 1) c8) (b1' := .slice A1 P.pr.length n1) (b2' := .slice A2 P.ob.length n2) (b3' := .slice A8 (P.cl.length + 1) c8) (blk_set HS8.out.xp 2 _))
      obtain ⟨w9, hw9⟩ : ∃ w, w = w8.setCell ⟨W.heap.size, 2, none⟩ (.slice A8 (P.cl.length + 1) c8) := ⟨_, rfl⟩
      rw [← hw9]
      rw [← hw9] at HS9
      obtain ⟨g9, hg9⟩ : ∃ g : Nat → Nat, AdS f g B W e A c w9 (.slice A1 P.pr.length n1) (.slice A2 P.ob.length n2) (.slice A8 (P.cl.length + 1) c8) (.slice A1 P.pr.length n1) (.slice A2 P.ob.length n2) (.slice A8 (P.cl.length + 1) c8) ⟨P.pr, P.ob, P.cl ++ [⟨pi, oi, e.f3, e.f4, at_, -1, z43⟩]⟩ := ⟨_, HS9.out⟩
      have H9 := Lib.hid hg9
      clear q2 fq2 hw9 hg9 HS8 HS9 HNC hHeld hT8 hR8 hb8 hg8 hat8
      clear p0 p1 p2 y0 y1 y2 y3 y4 y5 y6 y7 y8 hsz
      have p0 : w9.cell? ⟨W.heap.size, 0, none⟩ = some (.slice A1 P.pr.length n1) := (blk_cell H9.out.xp 0).trans rfl
      have p1 : w9.cell? ⟨W.heap.size, 1, none⟩ = some (.slice A2 P.ob.length n2) := (blk_cell H9.out.xp 1).trans rfl
      have p2 : w9.cell? ⟨W.heap.size, 2, none⟩ = some (.slice A8 (P.cl.length + 1) c8) := (blk_cell H9.out.xp 2).trans rfl
      have y0 : w9.cell? ⟨W.heap.size + 1, 0, none⟩ = some (.int .i64 e.f0) := (blk_cell H9.out.xe 0).trans rfl
      have y1 : w9.cell? ⟨W.heap.size + 1, 1, none⟩ = some (.string e.f1) := (blk_cell H9.out.xe 1).trans rfl
      have y2 : w9.cell? ⟨W.heap.size + 1, 2, none⟩ = some (.string e.f2) := (blk_cell H9.out.xe 2).trans rfl
      have y3 : w9.cell? ⟨W.heap.size + 1, 3, none⟩ = some (.string e.f3) := (blk_cell H9.out.xe 3).trans rfl
      have y4 : w9.cell? ⟨W.heap.size + 1, 4, none⟩ = some (.int .i64 e.f4.f0) := (blk_cell H9.out.xe 4).trans rfl
      have y5 : w9.cell? ⟨W.heap.size + 1, 5, none⟩ = some (.int .i64 e.f4.f1) := (blk_cell H9.out.xe 5).trans rfl
      have y6 : w9.cell? ⟨W.heap.size + 1, 6, none⟩ = some (.int .i64 e.f4.f2) := (blk_cell H9.out.xe 6).trans rfl
      have y7 : w9.cell? ⟨W.heap.size + 1, 7, none⟩ = some (.string e.f4.f3) := (blk_cell H9.out.xe 7).trans rfl
      have y8 : w9.cell? ⟨W.heap.size + 1, 8, none⟩ = some (.slice A e.f4.f4.length c) := (blk_cell H9.out.xe 8).trans rfl
      have hsz : W.heap.size + 2 < w9.heap.size := H9.out.size
      have r0 : w9.cell? ⟨W.heap.size + 2, 0, none⟩ = some (.slice none 0 0) := (blk_cell H9.out.xr 0).trans rfl
      have z0 := blk_frozen H9.out.xr 0
      have r1 : w9.cell? ⟨W.heap.size + 2, 1, none⟩ = some (.slice none 0 0) := (blk_cell H9.out.xr 1).trans rfl
      have z1 := blk_frozen H9.out.xr 1
      have r2 : w9.cell? ⟨W.heap.size + 2, 2, none⟩ = some (.slice none 0 0) := (blk_cell H9.out.xr 2).trans rfl
      have z2 := blk_frozen H9.out.xr 2
      have hP : invP P e at_ = ⟨P.pr, P.ob, P.cl ++ [⟨pi, oi, e.f3, e.f4, at_, -1, z43⟩]⟩ := by unfold invP; rw [hPN.out.1, hPN.out.2, hON.out.1, hON.out.2]
      have HP := Lib.hid hP
      clear hP
      go_wp2
      obtain ⟨Wf, hWf⟩ : ∃ Wf, Wf = set3w (W.heap.size + 2) (.slice A1 P.pr.length n1) (.slice A2 P.ob.length n2) (.slice A8 (P.cl.length + 1) c8) w9 := ⟨_, rfl⟩
      change bodyPost _ _ _ _ _ (set3w (W.heap.size + 2) (.slice A1 P.pr.length n1) (.slice A2 P.ob.length n2) (.slice A8 (P.cl.length + 1) c8) w9)
      rw [← hWf]
      have hRf : Wf.heap[W.heap.size + 2]? = some (.cells #[.slice A1 P.pr.length n1, .slice A2 P.ob.length n2, .slice A8 (P.cl.length + 1) c8] 30 (0, 0)) := by rw [hWf]; exact set3w_at _ _ _ H9.out.xr
      have t0 : Wf.cell? ⟨W.heap.size + 2, 0, none⟩ = some (.slice A1 P.pr.length n1) := (blk_cell hRf 0).trans rfl
      have t1 : Wf.cell? ⟨W.heap.size + 2, 1, none⟩ = some (.slice A2 P.ob.length n2) := (blk_cell hRf 1).trans rfl
      have t2 : Wf.cell? ⟨W.heap.size + 2, 2, none⟩ = some (.slice A8 (P.cl.length + 1) c8) := (blk_cell hRf 2).trans rfl
      refine bodyPost_ret (v := .tuple #[.agg #[.slice A1 P.pr.length n1, .slice A2 P.ob.length n2, .slice A8 (P.cl.length + 1) c8], .int .i64 0]) (by simp [results, Try.results59, go_sem, t0, t1, t2]) rfl ⟨_, _, _, g9, rfl, ?_, H9.out.lt, ?_⟩
      · rw [HP.out, hWf]; exact ((H9.out.rs.set H9.out.c2 0 _).set H9.out.c2 1 _).set H9.out.c2 2 _
      · rw [hWf]; exact ((H9.out.tu.set (W.heap.size + 2) 0 _ (fun hl => absurd hl (by omega))).set (W.heap.size + 2) 1 _ (fun hl => absurd hl (by omega))).set (W.heap.size + 2) 2 _ (fun hl => absurd hl (by omega))
end Go.Proofs.Ytofinglgnkdflaa
end
section
namespace Go.Proofs.Ytofinglgnkdflaa
open Go.RowKit
open Go.Proofs.Ytofinglgnkdflaa.PHistoryChecks Go.Proofs.YtofinglgnkdflaaW.PrintWords Go.Proofs.YtofinglgnkdflaaW.PrintLast Go.Proofs.YtofinglgnkdflaaW.PrintMore
set_option linter.unusedVariables false
set_option linter.unusedSimpArgs false
theorem chunk_set1 {sz i : Nat} {cur : Array Value} {c : List Value} (hc : Chunk sz cur i c) (o : Nat) (u : Value) (ho : o < sz) (h : i * sz + sz ≤ cur.size) : Chunk sz (cur.setIfInBounds (i * sz + o) u) i (c.set o u) := by
  refine ⟨by rw [List.length_set]; exact hc.1, fun k x hx => ?_⟩
  have hk : k < sz := by
    have := (List.getElem?_eq_some_iff.1 hx).1
    rw [List.length_set, hc.1] at this; exact this
  rw [Array.getElem?_setIfInBounds]
  rw [List.getElem?_set] at hx
  by_cases e : o = k
  · subst e
    rw [if_pos rfl, if_pos (by rw [hc.1]; exact ho)] at hx
    rw [if_pos rfl, if_pos (by omega)]; exact hx
  · rw [if_neg e] at hx
    rw [if_neg (by omega)]; exact hc.2 k x hx
def setF5 (l : List S50) (c at_ : Int) : List S50 := l.set c.toNat { rd_T50 l c with f5 := at_ }
def setF6 (l : List S50) (c : Int) (v : S43) : List S50 := l.set c.toNat { rd_T50 l c with f6 := v }
theorem setF6_F5 (l : List S50) (c at_ : Int) (v : S43) (h0 : 0 ≤ c) (h1 : c < (l.length : Int)) : setF6 (setF5 l c at_) c v = setRes l c at_ v := by
  have hr : rd_T50 (setF5 l c at_) c = { rd_T50 l c with f5 := at_ } := by
    have e : ∀ m : List S50, rd_T50 m c = m.getD c.toNat z50 := fun _ => rfl
    rw [e, List.getD_eq_getElem?_getD]
    unfold setF5
    rw [List.getElem?_set, if_pos rfl, if_pos (by omega)]; rfl
  unfold setF6
  rw [hr]
  unfold setF5 setRes
  rw [List.set_set]
theorem rdx50 {l : List S50} {c : Int} {x : S50} (hx : l[c.toNat]? = some x) : rd_T50 l c = x := by unfold rd_T50; rw [List.getD_eq_getElem?_getD, hx]; rfl
theorem call_f5 {w : World} {base g cap : Nat} {ok : Nat → Prop} {l : List S50} {c at_ : Int} (h0 : 0 ≤ c) (h1 : c < (l.length : Int)) (h : k50.R 50 w base ok (.slice (some ⟨g, 0, none⟩) l.length cap) l) :
    k50.R 50 (w.setCell ⟨g, c.toNat * 15 + 9, none⟩ (.int .i64 at_)) base ok (.slice (some ⟨g, 0, none⟩) l.length cap) (setF5 l c at_) := by
  obtain ⟨_, hb, hg, hB⟩ := blk_of_R h
  refine R_of_blk ?_ (by unfold setF5; rw [List.length_set]) hb hg
  have far : ∀ k, (ok k ∧ k ≠ g) → k < w.heap.size → (w.setCell ⟨g, c.toNat * 15 + 9, none⟩ (.int .i64 at_)).heap[k]? = w.heap[k]? := fun k hk _ => Below.heap_setCell _ _ _ _ hk.2
  refine hB.store (i := c.toNat) (fun cur => cur.setIfInBounds (c.toNat * 15 + 9) (.int .i64 at_)) (fun cur hc => blk_set hc _ _) (fun cur => Array.size_setIfInBounds ..) (fun cur k hk => ?_) ?_ ?_
  · rw [Array.getElem?_setIfInBounds, if_neg]
    have e : k50.sz = 15 := rfl
    rw [e] at hk; omega
  · intro cur cs hi2 hsz2 hcc ⟨x, hx, hM⟩
    obtain ⟨v7, v14, rfl, g7, g14⟩ := k50_openM hM
    refine ⟨_, chunk_set1 (sz := 15) hcc 9 (.int .i64 at_) (by decide) hsz2, { x with f5 := at_ }, ?_, k50_mkM _ _ _ { x with f5 := at_ } (Kd.R_step g7 far) (Kd.R_step g14 far)⟩
    unfold setF5
    rw [List.getElem?_set, if_pos rfl, if_pos (by omega), rdx50 hx]
  · intro j cs hj hne ⟨x, hx, hM⟩
    exact ⟨x, by unfold setF5; rw [List.getElem?_set, if_neg (fun e => hne e.symm)]; exact hx, Kd.M_step hM far⟩
theorem call_f6 {w : World} {base g cap : Nat} {ok : Nat → Prop} {l : List S50} {c : Int} {v : S43} {A6 : Option Addr} {c6 : Nat} (h0 : 0 ≤ c) (h1 : c < (l.length : Int)) (h : k50.R 50 w base ok (.slice (some ⟨g, 0, none⟩) l.length cap) l)
    (hv : k43.R 43 w base (fun k => ok k ∧ k ≠ g) (.slice A6 v.f4.length c6) v.f4) :
    k50.R 50 (set5w g (c.toNat * 15 + 10) (.int .i64 v.f0) (.int .i64 v.f1) (.int .i64 v.f2) (.string v.f3) (.slice A6 v.f4.length c6) w) base ok (.slice (some ⟨g, 0, none⟩) l.length cap) (setF6 l c v) := by
  obtain ⟨_, hb, hg, hB⟩ := blk_of_R h
  refine R_of_blk ?_ (by unfold setF6; rw [List.length_set]) hb hg
  have far : ∀ k, (ok k ∧ k ≠ g) → k < w.heap.size → (set5w g (c.toNat * 15 + 10) (.int .i64 v.f0) (.int .i64 v.f1) (.int .i64 v.f2) (.string v.f3) (.slice A6 v.f4.length c6) w).heap[k]? = w.heap[k]? := fun k hk _ => set5w_far _ _ _ _ _ _ _ _ _ hk.2
  refine hB.store (i := c.toNat) (set5 (c.toNat * 15 + 10) (.int .i64 v.f0) (.int .i64 v.f1) (.int .i64 v.f2) (.string v.f3) (.slice A6 v.f4.length c6)) (fun cur hc => set5w_at _ _ _ _ _ _ _ _ _ _ hc) (fun cur => set5_size _ _ _ _ _ _ _) (fun cur k hk => set5_far _ _ _ _ _ _ _ _ (by
    have e : k50.sz = 15 := rfl
    rw [e] at hk; omega)) ?_ ?_
  · intro cur cs hi2 hsz2 hcc ⟨x, hx, hM⟩
    obtain ⟨v7, v14, rfl, g7, g14⟩ := k50_openM hM
    have c1 := chunk_set1 (sz := 15) hcc 10 (.int .i64 v.f0) (by decide) hsz2
    have c2 := chunk_set1 (sz := 15) c1 11 (.int .i64 v.f1) (by decide) (by rw [Array.size_setIfInBounds]; exact hsz2)
    have c3 := chunk_set1 (sz := 15) c2 12 (.int .i64 v.f2) (by decide) (by simp only [Array.size_setIfInBounds]; exact hsz2)
    have c4 := chunk_set1 (sz := 15) c3 13 (.string v.f3) (by decide) (by simp only [Array.size_setIfInBounds]; exact hsz2)
    have c5 := chunk_set1 (sz := 15) c4 14 (.slice A6 v.f4.length c6) (by decide) (by simp only [Array.size_setIfInBounds]; exact hsz2)
    refine ⟨_, c5, { x with f6 := v }, ?_, k50_mkM _ _ _ { x with f6 := v } (Kd.R_step g7 far) (Kd.R_step hv far)⟩
    unfold setF6
    rw [List.getElem?_set, if_pos rfl, if_pos (by omega), rdx50 hx]
  · intro j cs hj hne ⟨x, hx, hM⟩
    exact ⟨x, by unfold setF6; rw [List.getElem?_set, if_neg (fun e => hne e.symm)]; exact hx, Kd.M_step hM far⟩
theorem opnTo_lt (l : List S50) (p : Int) : ∀ k, k ≤ l.length → opnTo l p k < (l.length : Int)
  | 0, _ => by unfold opnTo; omega
  | k + 1, h => by
    have := opnTo_lt l p k (by omega)
    unfold opnTo
    split
    · split <;> omega
    · exact this
def resP (P : PastL) (e : S47) (at_ : Int) : PastL := ⟨P.pr, P.ob, setRes P.cl (opnF P.cl (ixFrom e.f1 P.pr 0)) at_ e.f4⟩
section
variable {f f' : Nat → Nat} {B : Nat} {W w : World} {e : S47} {A : Option Addr} {c : Nat} {b1 b2 b3 s1 s2 cv : Value} {P : PastL}
theorem adS_cells' (h : AdS f f' B W e A c w b1 b2 b3 s1 s2 cv P) : w.cell? ⟨W.heap.size, 2, none⟩ = some b3 ∧ w.cell? ⟨W.heap.size + 1, 4, none⟩ = some (.int .i64 e.f4.f0) ∧ w.cell? ⟨W.heap.size + 1, 5, none⟩ = some (.int .i64 e.f4.f1) ∧ w.cell? ⟨W.heap.size + 1, 6, none⟩ = some (.int .i64 e.f4.f2) ∧ w.cell? ⟨W.heap.size + 1, 7, none⟩ = some (.string e.f4.f3) ∧ w.cell? ⟨W.heap.size + 1, 8, none⟩ = some (.slice A e.f4.f4.length c) :=
  ⟨(blk_cell h.xp 2).trans rfl, (blk_cell h.xe 4).trans rfl, (blk_cell h.xe 5).trans rfl, (blk_cell h.xe 6).trans rfl, (blk_cell h.xe 7).trans rfl, (blk_cell h.xe 8).trans rfl⟩
end
set_option maxHeartbeats 8000000 in
set_option maxRecDepth 100000 in
theorem add_res (W : World) (f : Nat → Nat) (B : Nat) (s1 s2 cv : Value) (P : PastL) (e : S47) (A : Option Addr) (c : Nat) (at_ : Int) (h : RsF f B W s1 s2 cv P) (hlo : ∀ k, k < B → f k = 0)
    (hcl : P.cl.length ≤ 1000000) (h2 : e.f0 = 2) (hp1 : 0 ≤ ixFrom e.f1 P.pr 0) (ho : 0 ≤ opnF P.cl (ixFrom e.f1 P.pr 0))
    (hF : Kd.F k43 W (fun k => k < B) A e.f4.f4.length e.f4.f4) (hcp : ∀ W1 A c, Kd.C k43 W1 A e.f4.f4.length e.f4.f4 → Calls Try.prog 54 #[v43 e.f4 A c] W1 (OwnP e.f4 W1)) :
    Calls Try.prog 59 #[.agg #[s1, s2, cv], .agg (c47 e A c), .int .i64 at_] W (AddP f B W (resP P e at_) 0) := by
  have hol : opnF P.cl (ixFrom e.f1 P.pr 0) < (P.cl.length : Int) := opnTo_lt _ _ _ (Nat.le_refl _)
  obtain ⟨A1, n1, hv1, hl1, _⟩ := Kd.R_reads h.pr
  obtain ⟨A2, n2, hv2, hl2, _⟩ := Kd.R_reads h.ob
  obtain ⟨gc, n3, hv3, _⟩ := Kd.R_form h.cl (by omega)
  subst hv1 hv2 hv3
  have HS3 := Lib.hid (add_start (e := e) (A := A) (c := c) h)
  obtain ⟨gHS3, hg3⟩ : ∃ g, g = recol f W.heap.size 7 := ⟨_, rfl⟩
  rw [← hg3] at HS3
  have HF := Lib.hid hF
  have h1' : (e.f0 == 2) = true := by rw [h2]; decide
  obtain ⟨RP, hRP⟩ : ∃ q, q = resP P e at_ := ⟨_, rfl⟩
  have HRP := Lib.hid (show RP = ⟨P.pr, P.ob, setRes P.cl (opnF P.cl (ixFrom e.f1 P.pr 0)) at_ e.f4⟩ from hRP)
  rw [← hRP]
  clear hg3 h hF h2 hRP
  go_enter Try.func59, Try.ntmps59
  unfold c47
  go_upto_region 1 with fail
  obtain ⟨w3, hw3⟩ : ∃ w3, w3 = ((W.alloc (.cells #[.slice A1 P.pr.length n1, .slice A2 P.ob.length n2, .slice (some ⟨gc, 0, none⟩) P.cl.length n3] 30)).alloc (.cells (c47 e A c) 47)).alloc (.cells #[.slice none 0 0, .slice none 0 0, .slice none 0 0] 30) := ⟨_, rfl⟩
  rw [← hw3] at HS3
  unfold c47 at hw3
  rw [← hw3, show W.heap.size + 1 + 1 = W.heap.size + 2 from rfl]
  clear hw3
  have p0 : w3.cell? ⟨W.heap.size, 0, none⟩ = some (.slice A1 P.pr.length n1) := (blk_cell HS3.out.xp 0).trans rfl
  have p1 : w3.cell? ⟨W.heap.size, 1, none⟩ = some (.slice A2 P.ob.length n2) := (blk_cell HS3.out.xp 1).trans rfl
  have p2 : w3.cell? ⟨W.heap.size, 2, none⟩ = some (.slice (some ⟨gc, 0, none⟩) P.cl.length n3) := (blk_cell HS3.out.xp 2).trans rfl
  have y0 : w3.cell? ⟨W.heap.size + 1, 0, none⟩ = some (.int .i64 e.f0) := (blk_cell HS3.out.xe 0).trans rfl
  have y1 : w3.cell? ⟨W.heap.size + 1, 1, none⟩ = some (.string e.f1) := (blk_cell HS3.out.xe 1).trans rfl
  have y2 : w3.cell? ⟨W.heap.size + 1, 2, none⟩ = some (.string e.f2) := (blk_cell HS3.out.xe 2).trans rfl
  have y3 : w3.cell? ⟨W.heap.size + 1, 3, none⟩ = some (.string e.f3) := (blk_cell HS3.out.xe 3).trans rfl
  have y4 : w3.cell? ⟨W.heap.size + 1, 4, none⟩ = some (.int .i64 e.f4.f0) := (blk_cell HS3.out.xe 4).trans rfl
  have y5 : w3.cell? ⟨W.heap.size + 1, 5, none⟩ = some (.int .i64 e.f4.f1) := (blk_cell HS3.out.xe 5).trans rfl
  have y6 : w3.cell? ⟨W.heap.size + 1, 6, none⟩ = some (.int .i64 e.f4.f2) := (blk_cell HS3.out.xe 6).trans rfl
  have y7 : w3.cell? ⟨W.heap.size + 1, 7, none⟩ = some (.string e.f4.f3) := (blk_cell HS3.out.xe 7).trans rfl
  have y8 : w3.cell? ⟨W.heap.size + 1, 8, none⟩ = some (.slice A e.f4.f4.length c) := (blk_cell HS3.out.xe 8).trans rfl
  have hsz : W.heap.size + 2 < w3.heap.size := HS3.out.size
  go_wp2_with fail
  refine (find_any P.pr e.f1 A1 n1 _ (Kd.R_reads' HS3.out.rs.pr).2.2 hl1).mono ?_
  rintro r w4 ⟨rfl, hw4⟩
  have HS4 := Lib.hid (HS3.out.below hw4)
  obtain ⟨gHS4, hgHS4⟩ : ∃ g, g = recol gHS3 w3.heap.size 9 := ⟨_, rfl⟩
  rw [← hgHS4] at HS4
  clear hgHS4
  clear p0 p1 p2 y0 y1 y2 y3 y4 y5 y6 y7 y8 hsz HS3
  have p0 : w4.cell? ⟨W.heap.size, 0, none⟩ = some (.slice A1 P.pr.length n1) := (blk_cell HS4.out.xp 0).trans rfl
  have p1 : w4.cell? ⟨W.heap.size, 1, none⟩ = some (.slice A2 P.ob.length n2) := (blk_cell HS4.out.xp 1).trans rfl
  have p2 : w4.cell? ⟨W.heap.size, 2, none⟩ = some (.slice (some ⟨gc, 0, none⟩) P.cl.length n3) := (blk_cell HS4.out.xp 2).trans rfl
  have y0 : w4.cell? ⟨W.heap.size + 1, 0, none⟩ = some (.int .i64 e.f0) := (blk_cell HS4.out.xe 0).trans rfl
  have y1 : w4.cell? ⟨W.heap.size + 1, 1, none⟩ = some (.string e.f1) := (blk_cell HS4.out.xe 1).trans rfl
  have y2 : w4.cell? ⟨W.heap.size + 1, 2, none⟩ = some (.string e.f2) := (blk_cell HS4.out.xe 2).trans rfl
  have y3 : w4.cell? ⟨W.heap.size + 1, 3, none⟩ = some (.string e.f3) := (blk_cell HS4.out.xe 3).trans rfl
  have y4 : w4.cell? ⟨W.heap.size + 1, 4, none⟩ = some (.int .i64 e.f4.f0) := (blk_cell HS4.out.xe 4).trans rfl
  have y5 : w4.cell? ⟨W.heap.size + 1, 5, none⟩ = some (.int .i64 e.f4.f1) := (blk_cell HS4.out.xe 5).trans rfl
  have y6 : w4.cell? ⟨W.heap.size + 1, 6, none⟩ = some (.int .i64 e.f4.f2) := (blk_cell HS4.out.xe 6).trans rfl
  have y7 : w4.cell? ⟨W.heap.size + 1, 7, none⟩ = some (.string e.f4.f3) := (blk_cell HS4.out.xe 7).trans rfl
  have y8 : w4.cell? ⟨W.heap.size + 1, 8, none⟩ = some (.slice A e.f4.f4.length c) := (blk_cell HS4.out.xe 8).trans rfl
  have hsz : W.heap.size + 2 < w4.heap.size := HS4.out.size
  clear hw4
  obtain ⟨pi, hpi⟩ : ∃ o, o = ixFrom e.f1 P.pr 0 := ⟨_, rfl⟩
  rw [← hpi] at hp1 ho hol HRP ⊢
  clear hpi
  go_wp2_with fail
  refine (ropen_any _ _ _ P.cl (some ⟨gc, 0, none⟩) n3 pi (Kd.R_reads' HS4.out.rs.cl).2.2 rfl rfl).mono ?_
  rintro r w5 ⟨rfl, hw5⟩
  have HS5 := Lib.hid (HS4.out.below hw5)
  obtain ⟨gHS5, hgHS5⟩ : ∃ g, g = recol gHS4 w4.heap.size 9 := ⟨_, rfl⟩
  rw [← hgHS5] at HS5
  clear hgHS5
  clear p0 p1 p2 y0 y1 y2 y3 y4 y5 y6 y7 y8 hsz HS4
  have p0 : w5.cell? ⟨W.heap.size, 0, none⟩ = some (.slice A1 P.pr.length n1) := (blk_cell HS5.out.xp 0).trans rfl
  have p1 : w5.cell? ⟨W.heap.size, 1, none⟩ = some (.slice A2 P.ob.length n2) := (blk_cell HS5.out.xp 1).trans rfl
  have p2 : w5.cell? ⟨W.heap.size, 2, none⟩ = some (.slice (some ⟨gc, 0, none⟩) P.cl.length n3) := (blk_cell HS5.out.xp 2).trans rfl
  have y0 : w5.cell? ⟨W.heap.size + 1, 0, none⟩ = some (.int .i64 e.f0) := (blk_cell HS5.out.xe 0).trans rfl
  have y1 : w5.cell? ⟨W.heap.size + 1, 1, none⟩ = some (.string e.f1) := (blk_cell HS5.out.xe 1).trans rfl
  have y2 : w5.cell? ⟨W.heap.size + 1, 2, none⟩ = some (.string e.f2) := (blk_cell HS5.out.xe 2).trans rfl
  have y3 : w5.cell? ⟨W.heap.size + 1, 3, none⟩ = some (.string e.f3) := (blk_cell HS5.out.xe 3).trans rfl
  have y4 : w5.cell? ⟨W.heap.size + 1, 4, none⟩ = some (.int .i64 e.f4.f0) := (blk_cell HS5.out.xe 4).trans rfl
  have y5 : w5.cell? ⟨W.heap.size + 1, 5, none⟩ = some (.int .i64 e.f4.f1) := (blk_cell HS5.out.xe 5).trans rfl
  have y6 : w5.cell? ⟨W.heap.size + 1, 6, none⟩ = some (.int .i64 e.f4.f2) := (blk_cell HS5.out.xe 6).trans rfl
  have y7 : w5.cell? ⟨W.heap.size + 1, 7, none⟩ = some (.string e.f4.f3) := (blk_cell HS5.out.xe 7).trans rfl
  have y8 : w5.cell? ⟨W.heap.size + 1, 8, none⟩ = some (.slice A e.f4.f4.length c) := (blk_cell HS5.out.xe 8).trans rfl
  have hsz : W.heap.size + 2 < w5.heap.size := HS5.out.size
  clear hw5
  obtain ⟨on, hon2⟩ : ∃ o, o = opnF P.cl pi := ⟨_, rfl⟩
  rw [← hon2] at ho hol HRP ⊢
  clear hon2
  obtain ⟨_, hgb, hgk, hBk⟩ := blk_of_R HS5.out.rs.cl
  obtain ⟨ce, hclen, hce, x, hx, hM⟩ := hBk.at on.toNat (by omega)
  obtain ⟨v7, v14, rfl, g7, g14⟩ := k50_openM hM
  have d9 : w5.cell? ⟨gc, on.toNat * 15 + 9, none⟩ = some (.int .i64 x.f5) := hce 9 _ rfl
  have n9 := hBk.frozen (on.toNat * 15 + 9)
  have hgl := hBk.lt
  have HGK := Lib.hid hgk
  clear hce hx hM g7 g14 hclen hBk hgb
  go_upto_region 9 with fail
  have hT6 : Turn (clr gHS5 4) w5 (w5.setCell ⟨gc, on.toNat * 15 + 9, none⟩ (.int .i64 at_)) := (Turn.refl _ w5).set gc _ _ (fun _ => HGK.out)
  have HS6 := Lib.hid (HS5.out.step hT6 (by decide) (by decide) (HS5.out.rs.cl1 (Kd.R_mono (call_f5 ho hol (at_ := at_) HS5.out.rs.cl) (fun b hb => .inl hb)) hT6))
  obtain ⟨w6, hw6⟩ : ∃ w, w = w5.setCell ⟨gc, on.toNat * 15 + 9, none⟩ (.int .i64 at_) := ⟨_, rfl⟩
  rw [← hw6] at HS6 ⊢
  obtain ⟨gHS6, hg6⟩ : ∃ g, g = recol gHS5 w5.heap.size 4 := ⟨_, rfl⟩
  rw [← hg6] at HS6
  have HGK6 := Lib.hid (show gHS6 gc = 4 from by rw [hg6]; exact (recol_lt hgl).trans HGK.out)
  clear hw6 hg6 hT6 d9 n9 hgl HS5 HGK
  clear p0 p1 p2 y0 y1 y2 y3 y4 y5 y6 y7 y8 hsz
  refine wp_region_last_drew (ds := [8]) (S := (fun w => w.cell? ⟨W.heap.size, 2, none⟩ = some (.slice (some ⟨gc, 0, none⟩) P.cl.length n3) ∧ w.cell? ⟨W.heap.size + 1, 4, none⟩ = some (.int .i64 e.f4.f0) ∧ w.cell? ⟨W.heap.size + 1, 5, none⟩ = some (.int .i64 e.f4.f1) ∧ w.cell? ⟨W.heap.size + 1, 6, none⟩ = some (.int .i64 e.f4.f2) ∧ w.cell? ⟨W.heap.size + 1, 7, none⟩ = some (.string e.f4.f3) ∧ w.cell? ⟨W.heap.size + 1, 8, none⟩ = some (.slice A e.f4.f4.length c))) (by kernel_rfl) ?_ (fun hHeld => ?_)
  · exact adS_cells' HS6.out.drew
  refine runL 0 (v := ?vu0) rfl (by kernel_rfl) (fun _ _ _ h => h) (by assumption) (by rfl) ?yu0 ?ru0
  case yu0 => (intro w hSw; (try dsimp only at hSw); go_simp; try with_reducible rfl)
  try simp only [Act.put, List.setIfInBounds_toArray, List.set_cons_zero, List.set_cons_succ]
  refine runL 1 (v := ?vu1) rfl (by kernel_rfl) (fun _ _ _ h => h) (by assumption) (by rfl) ?yu1 ?ru1
  case yu1 => (intro w hSw; (try dsimp only at hSw); go_simp; try with_reducible rfl)
  try simp only [Act.put, List.setIfInBounds_toArray, List.set_cons_zero, List.set_cons_succ]
  refine runL 2 (v := ?vu2) rfl (by kernel_rfl) (fun _ _ _ h => h) (by assumption) (by rfl) ?yu2 ?ru2
  case yu2 => (intro w hSw; (try dsimp only at hSw); go_simp; try with_reducible rfl)
  try simp only [Act.put, List.setIfInBounds_toArray, List.set_cons_zero, List.set_cons_succ]
  refine runL 3 (v := ?vu3) rfl (by kernel_rfl) (fun _ _ _ h => h) (by assumption) (by rfl) ?yu3 ?ru3
  case yu3 => (intro w hSw; (try dsimp only at hSw); go_simp; try with_reducible rfl)
  try simp only [Act.put, List.setIfInBounds_toArray, List.set_cons_zero, List.set_cons_succ]
  refine runL 4 (v := ?vu4) rfl (by kernel_rfl) (fun _ _ _ h => h) (by assumption) (by rfl) ?yu4 ?ru4
  case yu4 => (intro w hSw; (try dsimp only at hSw); go_simp; try with_reducible rfl)
  try simp only [Act.put, List.setIfInBounds_toArray, List.set_cons_zero, List.set_cons_succ]
  refine wpAnyLast_ready (rs := [5]) (by kernel_rfl) (by simp) ?_
  refine AllReadyL.cons rfl (by decide) (fun K hK => ?_) AllReadyL.nil
  go_simp
  go_at_call 54; refine (hcp w6.drew A c (HF.out w6.drew (fun k hk hlt => HS6.out.tu.block k hlt (fun hc => hc (hlo k hk))))).mono ?_; rintro r w7 ⟨A6, c6, rfl, hR7, l7, hb7⟩; have HD := Lib.hid HS6.out.drew; have HS7 := Lib.hid (HD.out.below4 hb7); have HR7 := Lib.hid (Kd.R_lower (Kd.R_mono (Kd.R_bound hR7) (fun b hb => (⟨recol_ge hb.2.1, fun e2 => by have h3 := (Kd.R_bound HD.out.rs.cl).1 gc rfl; have h4 := h3.2.2.1; omega⟩ : clr (recol gHS6 w6.drew.heap.size 4) 4 b ∧ b ≠ gc))) HD.out.rs.sz); unfold v43; clear hb7 hR7 l7
  go_wp2_with fail
  refine hK.out _ _ ?_ (fun hHeld2 => ?_)
  · exact adS_cells' HS7.out
  clear hK K hHeld
  rename _ => hHeld
  try simp only [Act.put, List.setIfInBounds_toArray, List.set_cons_zero, List.set_cons_succ]
  refine runL 6 (v := ?vv6) rfl (by kernel_rfl) (fun _ _ _ h => h) (by assumption) (by rfl) ?yv6 ?rv6
  case yv6 => (intro w hSw; (try dsimp only at hSw); go_simp; try with_reducible rfl)
  try simp only [Act.put, List.setIfInBounds_toArray, List.set_cons_zero, List.set_cons_succ]
  refine runL 7 (v := ?vv7) rfl (by kernel_rfl) (fun _ _ _ h => h) (by assumption) (by rfl) ?yv7 ?rv7
  case yv7 => (intro w hSw; (try dsimp only at hSw); go_simp; try with_reducible rfl)
  try simp only [Act.put, List.setIfInBounds_toArray, List.set_cons_zero, List.set_cons_succ]
  have hlen5 : (setF5 P.cl on at_).length = P.cl.length := by unfold setF5; rw [List.length_set]
  have hRc := HS7.out.rs.cl
  have hol5 : on < ((setF5 P.cl on at_).length : Int) := by omega
  obtain ⟨hq, hgb, hgk, hBk⟩ := blk_of_R hRc
  clear hq
  obtain ⟨ce, hclen, hce, x7, hx, hM⟩ := hBk.at on.toNat (by omega)
  obtain ⟨v77, v714, rfl, g7, g14⟩ := k50_openM hM
  have d10 : w7.cell? ⟨gc, on.toNat * 15 + 10, none⟩ = some (.int .i64 x7.f6.f0) := hce 10 _ rfl
  have n10 := hBk.frozen (on.toNat * 15 + 10)
  have d11 : w7.cell? ⟨gc, on.toNat * 15 + 11, none⟩ = some (.int .i64 x7.f6.f1) := hce 11 _ rfl
  have n11 := hBk.frozen (on.toNat * 15 + 11)
  have d12 : w7.cell? ⟨gc, on.toNat * 15 + 12, none⟩ = some (.int .i64 x7.f6.f2) := hce 12 _ rfl
  have n12 := hBk.frozen (on.toNat * 15 + 12)
  have d13 : w7.cell? ⟨gc, on.toNat * 15 + 13, none⟩ = some (.string x7.f6.f3) := hce 13 _ rfl
  have n13 := hBk.frozen (on.toNat * 15 + 13)
  have d14 : w7.cell? ⟨gc, on.toNat * 15 + 14, none⟩ = some (v714) := hce 14 _ rfl
  have n14 := hBk.frozen (on.toNat * 15 + 14)
  have HGK7 := Lib.hid hgk
  have HRC := Lib.hid (show k50.R 50 w7 B (clr (recol gHS6 w6.drew.heap.size 4) 4) (.slice (some ⟨gc, 0, none⟩) (setF5 P.cl on at_).length n3) (setF5 P.cl on at_) from by rw [hlen5]; exact hRc)
  have HL5 := Lib.hid hlen5
  have HO5 := Lib.hid hol5
  clear hRc hgb hgk hBk hce hx hM g7 g14 hclen hlen5 hol5
  refine wpAnyLast_ready (rs := [8]) (by kernel_rfl) (by simp) ?_
  refine AllReadyL.cons_last rfl (by decide) (fun K hK => ?_) AllReadyL.nil
  go_simp
  skip
  go_wp2_with fail
  refine hK.out _ _ ?_
  refine wpAnyLast_done (by kernel_rfl) ?_ _
  have hT8 : Turn (clr (recol gHS6 w6.drew.heap.size 4) 4) w7 (set5w gc (on.toNat * 15 + 10) (.int .i64 e.f4.f0) (.int .i64 e.f4.f1) (.int .i64 e.f4.f2) (.string e.f4.f3) (.slice A6 e.f4.f4.length c6) w7) := (((((Turn.refl _ w7).set gc _ _ (fun _ => HGK7.out)).set gc _ _ (fun _ => HGK7.out)).set gc _ _ (fun _ => HGK7.out)).set gc _ _ (fun _ => HGK7.out)).set gc _ _ (fun _ => HGK7.out)
  have hR8 : k50.R 50 (set5w gc (on.toNat * 15 + 10) (.int .i64 e.f4.f0) (.int .i64 e.f4.f1) (.int .i64 e.f4.f2) (.string e.f4.f3) (.slice A6 e.f4.f4.length c6) w7) B (clr (recol gHS6 w6.drew.heap.size 4) 4) (.slice (some ⟨gc, 0, none⟩) P.cl.length n3) (setRes P.cl on at_ e.f4) := by
    have h8 := call_f6 ho HO5.out HRC.out HR7.out
    rw [setF6_F5 _ _ _ _ ho hol, HL5.out] at h8; exact h8
  have HS8 := HS7.out.step hT8 (by decide) (by decide) (HS7.out.rs.cl1 (Kd.R_mono hR8 (fun b hb => .inl hb)) hT8)
  obtain ⟨w9, hw9⟩ : ∃ w, w = set5w gc (on.toNat * 15 + 10) (.int .i64 e.f4.f0) (.int .i64 e.f4.f1) (.int .i64 e.f4.f2) (.string e.f4.f3) (.slice A6 e.f4.f4.length c6) w7 := ⟨_, rfl⟩
  rw [← hw9] at HS8
  unfold set5w at hw9
  rw [← hw9]
  obtain ⟨g9, hg9⟩ : ∃ g : Nat → Nat, AdS f g B W e A c w9 (.slice A1 P.pr.length n1) (.slice A2 P.ob.length n2) (.slice (some ⟨gc, 0, none⟩) P.cl.length n3) (.slice A1 P.pr.length n1) (.slice A2 P.ob.length n2) (.slice (some ⟨gc, 0, none⟩) P.cl.length n3) ⟨P.pr, P.ob, setRes P.cl on at_ e.f4⟩ := ⟨_, HS8⟩
  have H9 := Lib.hid hg9
  clear hw9 hg9 HS8 hR8 hT8 HRC HR7 HS7 hHeld d10 d11 d12 d13 d14 n10 n11 n12 n13 n14
  have p0 : w9.cell? ⟨W.heap.size, 0, none⟩ = some (.slice A1 P.pr.length n1) := (blk_cell H9.out.xp 0).trans rfl
  have p1 : w9.cell? ⟨W.heap.size, 1, none⟩ = some (.slice A2 P.ob.length n2) := (blk_cell H9.out.xp 1).trans rfl
  have p2 : w9.cell? ⟨W.heap.size, 2, none⟩ = some (.slice (some ⟨gc, 0, none⟩) P.cl.length n3) := (blk_cell H9.out.xp 2).trans rfl
  have y0 : w9.cell? ⟨W.heap.size + 1, 0, none⟩ = some (.int .i64 e.f0) := (blk_cell H9.out.xe 0).trans rfl
  have y1 : w9.cell? ⟨W.heap.size + 1, 1, none⟩ = some (.string e.f1) := (blk_cell H9.out.xe 1).trans rfl
  have y2 : w9.cell? ⟨W.heap.size + 1, 2, none⟩ = some (.string e.f2) := (blk_cell H9.out.xe 2).trans rfl
  have y3 : w9.cell? ⟨W.heap.size + 1, 3, none⟩ = some (.string e.f3) := (blk_cell H9.out.xe 3).trans rfl
  have y4 : w9.cell? ⟨W.heap.size + 1, 4, none⟩ = some (.int .i64 e.f4.f0) := (blk_cell H9.out.xe 4).trans rfl
  have y5 : w9.cell? ⟨W.heap.size + 1, 5, none⟩ = some (.int .i64 e.f4.f1) := (blk_cell H9.out.xe 5).trans rfl
  have y6 : w9.cell? ⟨W.heap.size + 1, 6, none⟩ = some (.int .i64 e.f4.f2) := (blk_cell H9.out.xe 6).trans rfl
  have y7 : w9.cell? ⟨W.heap.size + 1, 7, none⟩ = some (.string e.f4.f3) := (blk_cell H9.out.xe 7).trans rfl
  have y8 : w9.cell? ⟨W.heap.size + 1, 8, none⟩ = some (.slice A e.f4.f4.length c) := (blk_cell H9.out.xe 8).trans rfl
  have hsz : W.heap.size + 2 < w9.heap.size := H9.out.size
  have r0 : w9.cell? ⟨W.heap.size + 2, 0, none⟩ = some (.slice none 0 0) := (blk_cell H9.out.xr 0).trans rfl
  have r1 : w9.cell? ⟨W.heap.size + 2, 1, none⟩ = some (.slice none 0 0) := (blk_cell H9.out.xr 1).trans rfl
  have r2 : w9.cell? ⟨W.heap.size + 2, 2, none⟩ = some (.slice none 0 0) := (blk_cell H9.out.xr 2).trans rfl
  have z0 := blk_frozen H9.out.xr 0
  have z1 := blk_frozen H9.out.xr 1
  have z2 := blk_frozen H9.out.xr 2
  go_wp2
  obtain ⟨Wf, hWf⟩ : ∃ Wf, Wf = set3w (W.heap.size + 2) (.slice A1 P.pr.length n1) (.slice A2 P.ob.length n2) (.slice (some ⟨gc, 0, none⟩) P.cl.length n3) w9 := ⟨_, rfl⟩
  change bodyPost _ _ _ _ _ (set3w (W.heap.size + 2) (.slice A1 P.pr.length n1) (.slice A2 P.ob.length n2) (.slice (some ⟨gc, 0, none⟩) P.cl.length n3) w9)
  rw [← hWf]
  have hRf : Wf.heap[W.heap.size + 2]? = some (.cells #[.slice A1 P.pr.length n1, .slice A2 P.ob.length n2, .slice (some ⟨gc, 0, none⟩) P.cl.length n3] 30 (0, 0)) := by rw [hWf]; exact set3w_at _ _ _ H9.out.xr
  have t0 : Wf.cell? ⟨W.heap.size + 2, 0, none⟩ = some (.slice A1 P.pr.length n1) := (blk_cell hRf 0).trans rfl
  have t1 : Wf.cell? ⟨W.heap.size + 2, 1, none⟩ = some (.slice A2 P.ob.length n2) := (blk_cell hRf 1).trans rfl
  have t2 : Wf.cell? ⟨W.heap.size + 2, 2, none⟩ = some (.slice (some ⟨gc, 0, none⟩) P.cl.length n3) := (blk_cell hRf 2).trans rfl
  refine bodyPost_ret (v := .tuple #[.agg #[.slice A1 P.pr.length n1, .slice A2 P.ob.length n2, .slice (some ⟨gc, 0, none⟩) P.cl.length n3], .int .i64 0]) (by simp [results, Try.results59, go_sem, t0, t1, t2]) rfl ⟨_, _, _, g9, rfl, ?_, H9.out.lt, ?_⟩
  · rw [HRP.out, hWf]; exact ((H9.out.rs.set H9.out.c2 0 _).set H9.out.c2 1 _).set H9.out.c2 2 _
  · rw [hWf]; exact ((H9.out.tu.set (W.heap.size + 2) 0 _ (fun hl => absurd hl (by omega))).set (W.heap.size + 2) 1 _ (fun hl => absurd hl (by omega))).set (W.heap.size + 2) 2 _ (fun hl => absurd hl (by omega))
end Go.Proofs.Ytofinglgnkdflaa
end
