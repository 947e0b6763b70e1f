/- BitsPlay: the law returns true for every two rooms and script of bulk at most 1048576; its arguments read as before: the card of the second form. -/
import Derived.Test.YthfapneifbjlmaaDoorMH
import Derived.Test.YthfapneifbjlmaaDoorMF
import Derived.Deep.CutRange
import Derived.Deep.DeepCutAuto
import Derived.Test.YthfapneifbjlmaaDoorCards
import Derived.Test.YthfapneifbjlmaaDoorTie
import Derived.Deep.Slices
import Derived.Deep.Fields
import Derived.ChangeSame
import Derived.WalkKit
import Derived.ProofKit
import Derived.OpenShut
import Derived.Deep.DeepHandedRow
import Derived.Lib.LaidTab
import Derived.JoinedCond
section
namespace Go.Proofs.YthfapneifbjlmaaDoor
open Go.RowKit Go.Shelf
open Go.Proofs.YthfapneifbjlmaaDoor.PBitsOf Go.Proofs.YthfapneifbjlmaaDoorW.PrintWords
attribute [local go_sem] Oper.semAt_some
set_option linter.unusedVariables false
set_option linter.unusedSimpArgs false

def zeroW (n : Int) : List Nat := List.replicate ((n.toNat + 63) / 64) 0
/-- What New comes to, in one. -/
def NewSaid (W : World) (n : Int) (E : Int) (ok : Bool) (e : Ending) (w' : World) : Prop :=
  ∃ P, e = .returned (.tuple #[.pointer P, .int .i64 E]) ∧ Below W.heap.size W w' ∧ ((ok = false ∧ P = none ∧ E = 30) ∨ (ok = true ∧ ∃ g h, P = some ⟨g, 0, none⟩ ∧ E = 0 ∧ IsSet w' g h n.toNat (zeroW n) ∧ W.heap.size ≤ g ∧ W.heap.size ≤ h))
def RNewSaid (W : World) (n : Int) (E : Int) (ok : Bool) (e : Ending) (w' : World) : Prop :=
  ∃ M A m c In, e = .returned (.tuple #[.agg #[.bool M, .slice A m c], .int .i64 E]) ∧ Below W.heap.size W w' ∧ (ok = true → M = true ∧ m = In.length ∧ In = inOf n.toNat (zeroW n) ∧ n.toNat ≤ 4096 ∧ Kd.R Kd.bool 4 w' W.heap.size (fun _ => True) (.slice A m c) In)
theorem New_pack (n : Int) : ∃ E ok, (∀ W, Calls Tryd.prog 15 #[.int .i64 n] W (NewSaid W n E ok)) ∧ (∀ W, Calls Tryd.prog 25 #[.int .i64 n] W (RNewSaid W n E ok)) ∧ (ok = true → E = 0) ∧ (ok = false → E = 30) := by
  by_cases hb : n < 0 ∨ 4096 < n
  · have hf : sextantref03_New.f n = some (false, [], 30) := by
      unfold sextantref03_New.f
      by_cases h0 : n < 0
      · rw [if_pos h0]
      · rw [if_neg h0, if_pos (by omega)]
    refine ⟨30, false, fun W => (New_bad W n hb).mono fun e w' ⟨a, b⟩ => ⟨none, a, b ▸ Below.refl _ _, .inl ⟨rfl, rfl, rfl⟩⟩, fun W => (sextantref03_New.calls n false [] 30 W hf).mono ?_, (fun h => by cases h), fun _ => rfl⟩
    rintro e w' ⟨v, rfl, hR, hB⟩
    obtain ⟨A, c, rfl, -, -⟩ := Kd.R_reads hR
    exact ⟨false, A, _, c, [], rfl, hB, fun h => by cases h⟩
  · obtain ⟨n, rfl⟩ := Int.eq_ofNat_of_zero_le (a := n) (by omega)
    have hn : n ≤ 4096 := by omega
    refine ⟨0, true, fun W => (New_ok W n hn).mono fun e w' ⟨g, h, a, b, c, d, f⟩ => ⟨_, a, f, .inr ⟨rfl, g, h, rfl, rfl, b, c, d⟩⟩, fun W => (sextantref03_New.calls n true (List.replicate n false) 0 W (New_pure n hn)).mono ?_, fun _ => rfl, (fun h => by cases h)⟩
    rintro e w' ⟨v, rfl, hR, hB⟩
    obtain ⟨A, c, rfl, -, -⟩ := Kd.R_reads hR
    exact ⟨true, A, _, c, _, rfl, hB, fun _ => ⟨rfl, rfl, by simp [zeroW, inOf_zero], hn, hR⟩⟩

/-- A script that came in. -/
def Scr (W : World) (A : Option Addr) (sc : List (Int × Int × Int × Bool)) : Prop := ∀ i, i < sc.length → ∃ ad x, A = some ad ∧ sc[i]? = some x ∧
  W.cell? (ad.add (i * 4 + 0)) = some (.int .i64 x.1) ∧ W.cell? (ad.add (i * 4 + 1)) = some (.int .i64 x.2.1) ∧ W.cell? (ad.add (i * 4 + 2)) = some (.int .i64 x.2.2.1) ∧ W.cell? (ad.add (i * 4 + 3)) = some (.bool x.2.2.2)
theorem add_step (ad : Addr) (a j : Nat) (hj : 0 < j) : ad.add (a + j) = ⟨(ad.add a).block, (ad.add a).off + j, none⟩ := by
  unfold Addr.add
  by_cases h : a = 0
  · subst h; simp [show j ≠ 0 by omega]
  · simp [h, show ¬ (a = 0 ∧ j = 0) by omega, Nat.add_assoc]
set_option maxHeartbeats 8000000 in
set_option maxRecDepth 100000 in
theorem BitsPlay_walk (W : World) (hT : Tab W) (n m : Int) (A : Option Addr) (c : Nat) (sc : List (Int × Int × Int × Bool)) (hS : Scr W A sc) (hlen : sc.length ≤ 1048576) :
    Calls Tryd.prog 7 #[.int .i64 n, .int .i64 m, .slice A sc.length c] W fun e w' => e = .returned (.bool true) ∧ Below W.heap.size W w' := by
  obtain ⟨E1, o1, ha1, hr1, hz1, hf1⟩ := New_pack n
  obtain ⟨E2, o2, ha2, hr2, hz2, hf2⟩ := New_pack m
  have HT := Lib.hid hT
  have HSc := Lib.hid hS
  have HA1 := Lib.hid ha1
  have HA2 := Lib.hid ha2
  have HR1 := Lib.hid hr1
  have HR2 := Lib.hid hr2
  have HZ1 := Lib.hid hz1
  have HZ2 := Lib.hid hz2
  have HN1 := Lib.hid hf1
  have HN2 := Lib.hid hf2
  have hT0 : 0 < W.heap.size := by simpa using World.block_lt_of_cell? W _ (hT 0 (by omega))
  clear hT hS ha1 ha2 hr1 hr2 hz1 hz2 hf1 hf2
  go_enter Tryd.func7, Tryd.ntmps7
  go_wp2_with fail
  go_at_call 15
  refine (HA1.out _).mono ?_
  rintro e w1 ⟨P1, rfl, hb1, hs1⟩
  have HB1 := Lib.hid hb1
  have HS1 := Lib.hid hs1
  clear hb1 hs1
  go_wp2_with fail
  go_at_call 15
  refine (HA2.out _).mono ?_
  rintro e w2 ⟨P2, rfl, hb2, hs2⟩
  have HB2 := Lib.hid hb2
  have HS2 := Lib.hid hs2
  clear hb2 hs2
  go_wp2_with fail
  go_at_call 25
  refine (HR1.out _).mono ?_
  rintro e w3 ⟨M1, A1, m1, c1, In1, rfl, hb3, hs3⟩
  have HB3 := Lib.hid hb3
  have HS3 := Lib.hid hs3
  clear hb3 hs3
  go_wp2_with fail
  go_at_call 25
  refine (HR2.out _).mono ?_
  rintro e w5 ⟨M2, A2, m2, c2, In2, rfl, hb5, hs5⟩
  have HB5 := Lib.hid hb5
  have HS5 := Lib.hid hs5
  clear hb5 hs5
  obtain ⟨w4, hw4⟩ : ∃ w4, w4 = w3.alloc (.cells #[.bool M1, .slice A1 m1 c1] 39) := ⟨_, rfl⟩
  rw [← hw4] at HB5 HS5
  have hb34 : Below w3.heap.size w3 w4 := by rw [hw4]; exact (Below.refl _ _).alloc (Nat.le_refl _) _
  have hg4 : w4.heap[w3.heap.size]? = some (.cells #[.bool M1, .slice A1 m1 c1] 39 (0, 0)) := by rw [hw4]; exact heap_alloc_new w3 _
  have hz4 : w4.heap.size = w3.heap.size + 1 := by rw [hw4]; simp
  have HB34 := Lib.hid hb34
  have HG4 := Lib.hid hg4
  clear hw4 hb34 hg4
  have hB5 : Below W.heap.size W (w5.alloc (.cells #[.bool M2, .slice A2 m2 c2] 39)) := by
    have h1 := HB1.out
    have h2 := h1.trans (HB2.out.mono h1.size)
    have h3 := h2.trans (HB3.out.mono h2.size)
    have h4 := h3.trans (HB34.out.mono h3.size)
    have h5 := h4.trans (HB5.out.mono h4.size)
    exact h5.alloc h5.size _
  have hH := Lib.hid (heads_any _ (HT.out.kept (M := fun _ => False) (.of_below hB5) id))
  have HBB5 := Lib.hid hB5
  clear hB5
  rcases HS1.out with ⟨ho1, hP1, hE1⟩ | ⟨ho1, g1, h1, hP1, hE1, hset1, hg1, hh1⟩
  · subst hP1 hE1
    rcases HS2.out with ⟨ho2, hP2, hE2⟩ | ⟨ho2, g2, h2, hP2, hE2, hset2, hg2, hh2⟩
    all_goals
      subst hP2 hE2
      go_wp2_with fail
      refine hH.out.mono ?_
      rintro e w6 ⟨rfl, hb6⟩
      go_wp2
      go_ret
      exact ⟨rfl, HBB5.out.trans (hb6.mono HBB5.out.size)⟩
  · rcases HS2.out with ⟨ho2, hP2, hE2⟩ | ⟨ho2, g2, h2, hP2, hE2, hset2, hg2, hh2⟩
    · subst hP1 hE1 hP2 hE2
      clear hset1
      go_wp2_with fail
      refine hH.out.mono ?_
      rintro e w6 ⟨rfl, hb6⟩
      go_wp2
      go_ret
      exact ⟨rfl, HBB5.out.trans (hb6.mono HBB5.out.size)⟩
    · subst hP1 hE1 hP2 hE2
      go_wp2_with fail
      refine hH.out.mono ?_
      rintro e w6 ⟨rfl, hb6⟩
      obtain ⟨w7, hw7⟩ : ∃ w7, w7 = (w6.alloc (.cells #[.pointer (some ⟨g1, 0, none⟩), .pointer (some ⟨g2, 0, none⟩)] 33)).alloc (.cells #[.pointer (some ⟨w3.heap.size, 0, none⟩), .pointer (some ⟨w5.heap.size, 0, none⟩)] 44) := ⟨_, rfl⟩
      have hpi : PInv W.heap.size w6.heap.size (w6.heap.size + 1) { g := fun i => if i = 0 then g1 else g2, h := fun i => if i = 0 then h1 else h2, n := fun i => if i = 0 then n.toNat else m.toNat, ws := fun i => if i = 0 then zeroW n else zeroW m, gp := fun i => if i = 0 then w3.heap.size else w5.heap.size, A := fun i => if i = 0 then A1 else A2 } w7 := by
        obtain ⟨rfl, e1, e2, e3, e4⟩ := HS3.out ho1
        obtain ⟨rfl, f1, f2, f3, f4⟩ := HS5.out ho2
        subst e1 f1
        have b56 : Below w5.heap.size w5 w6 := ((Below.refl _ _).alloc (Nat.le_refl _) _).trans (hb6.mono (by simp))
        have b67 : Below w6.heap.size w6 w7 := by rw [hw7]; exact ((Below.refl _ _).alloc (Nat.le_refl _) _).alloc (by simp) _
        have b57 := b56.trans (b67.mono b56.size)
        have b47 := HB5.out.trans (b57.mono HB5.out.size)
        have b37 := HB34.out.trans (b47.mono HB34.out.size)
        have b27 := HB3.out.trans (b37.mono HB3.out.size)
        have b17 := HB2.out.trans (b27.mono HB2.out.size)
        have z1 := HB1.out.size
        have z2 := HB2.out.size
        have z3 := HB3.out.size
        have z5 := HB5.out.size
        have z6 := b56.size
        have q1 : w7.heap[w3.heap.size]? = some (.cells #[.bool true, .slice A1 In1.length c1] 39 (0, 0)) := (b47.block _ (by omega)).trans HG4.out
        have q2 : w7.heap[w5.heap.size]? = some (.cells #[.bool true, .slice A2 In2.length c2] 39 (0, 0)) := by
          have h1 := heap_alloc_new w5 (.cells #[.bool true, .slice A2 In2.length c2] 39)
          have h2 := (hb6.block w5.heap.size (by simp)).trans h1
          exact (b67.block _ (by have := hb6.size; simp at this; omega)).trans h2
        obtain ⟨r1, r2⟩ := ris_of e4 rfl (by rw [e2, inOf_length]; exact e3) (fun k hk => b37.block k hk) q1
        obtain ⟨r3, r4⟩ := ris_of f4 rfl (by rw [f2, inOf_length]; exact f3) (fun k hk => b57.block k hk) q2
        rw [e2] at r1
        rw [f2] at r3
        have l1 := hset1.lt
        have l2 := hset2.lt
        have y1 := hset1.below b17 l1.1 l1.2.1
        have y2 := hset2.below b27 l2.1 l2.2.1
        have u1 : w7.heap[w6.heap.size]? = some (.cells #[.pointer (some ⟨g1, 0, none⟩), .pointer (some ⟨g2, 0, none⟩)] 33 (0, 0)) := by
          rw [hw7]; exact (Below.heap_alloc _ _ _ (by simp)).trans (heap_alloc_new w6 _)
        have u2 : w7.heap[w6.heap.size + 1]? = some (.cells #[.pointer (some ⟨w3.heap.size, 0, none⟩), .pointer (some ⟨w5.heap.size, 0, none⟩)] 44 (0, 0)) := by
          rw [hw7]
          have := heap_alloc_new (w6.alloc (.cells #[.pointer (some ⟨g1, 0, none⟩), .pointer (some ⟨g2, 0, none⟩)] 33)) (.cells #[.pointer (some ⟨w3.heap.size, 0, none⟩), .pointer (some ⟨w5.heap.size, 0, none⟩)] 44)
          rwa [World.size_alloc] at this
        refine ⟨fun k hk => ?_, fun k hk => ?_, fun k hk => ?_, fun k hk => ?_, ?_, ?_, ?_, ?_, u1, u2, ?_⟩
        · rcases two hk with rfl | rfl
          · exact y1
          · exact y2
        · rcases two hk with rfl | rfl
          · exact nohigh_zero _ _
          · exact nohigh_zero _ _
        · rcases two hk with rfl | rfl
          · exact r1
          · exact r3
        · rcases two hk with rfl | rfl
          · refine ⟨hg1, hh1, ?_, fun rb h => ?_⟩
            · show W.heap.size ≤ w3.heap.size; omega
            · have := (r2 rb h).1; omega
          · refine ⟨?_, ?_, ?_, fun rb h => ?_⟩
            · show W.heap.size ≤ g2; omega
            · show W.heap.size ≤ h2; omega
            · show W.heap.size ≤ w5.heap.size; omega
            · have := (r4 rb h).1; omega
        · show g1 ≠ g2; omega
        · show h1 ≠ h2; omega
        · show w3.heap.size ≠ w5.heap.size; omega
        · intro rb x y
          have h1 := (r2 rb x.1).2
          have h2 := (r4 rb y.1).1
          omega
        · omega
      have hb7 : Below W.heap.size W w7 := by
        rw [hw7]
        have h6 := HBB5.out.trans (hb6.mono HBB5.out.size)
        exact (h6.alloc h6.size _).alloc (by simp; have := h6.size; omega) _
      have HPI := Lib.hid hpi
      have HB7 := Lib.hid hb7
      have HW7 := Lib.hid hw7
      clear hpi hb7 hset1 hset2 hg1 hh1 hg2 hh2
      go_wp2_with fail
      rw [← hw7]
      clear hw7
      go_loopw [17] (fun i wr => ∃ (k : Nat) (s : PSt), k ≤ sc.length ∧ i = .int .i64 k ∧ PInv W.heap.size w6.heap.size (w6.heap.size + 1) s wr ∧ Below W.heap.size W wr) (fun i _ => sc.length - (intOf i).toNat)
      case atStart => exact ⟨0, _, Nat.zero_le _, rfl, HPI.out, HB7.out⟩
      case round =>
        obtain ⟨k, s, hk, rfl, hpi, hbw⟩ := hrel
        by_cases hlt : k < sc.length
        · obtain ⟨ad, ⟨kind, on, num, oth⟩, rfl, hsx, hx0, hx1, hx2, hx3⟩ := HSc.out k hlt
          have HP := Lib.hid hpi
          have HBW := Lib.hid hbw
          have c0 := (hbw.cell (World.block_lt_of_cell? W _ hx0)).trans hx0
          have c1 := (hbw.cell (World.block_lt_of_cell? W _ hx1)).trans hx1
          have c2 := (hbw.cell (World.block_lt_of_cell? W _ hx2)).trans hx2
          have c3 := (hbw.cell (World.block_lt_of_cell? W _ hx3)).trans hx3
          rw [Nat.add_zero] at c0
          rw [add_step _ _ _ (by omega)] at c1 c2 c3
          simp only at c0 c1 c2 c3
          obtain ⟨wx, hwx⟩ : ∃ wx, wx = wr.alloc (.cells #[.int .i64 kind, .int .i64 on, .int .i64 num, .bool oth] 62) := ⟨_, rfl⟩
          have HWX := Lib.hid hwx
          clear hwx
          clear hpi hbw hsx hx0 hx1 hx2 hx3
          go_upto_if 90 with (fail)
          go_cut [19] from 78 to 180 (fun s19 w' => ∃ kk : Nat, kk < 2 ∧ s19 = .int .i64 kk ∧ w' = wr.alloc (.cells #[.int .i64 kind, .int .i64 on, .int .i64 num, .bool oth] 62))
          case first =>
            go_wp2
            all_goals go_meet
            case rel => exact ⟨1, by omega, rfl, rfl⟩
            case rel => exact ⟨0, by omega, rfl, rfl⟩
          case rest =>
            obtain ⟨kk, hkk, rfl, rfl⟩ := hcut
            have hkk0 : (0 : Int) ≤ (kk : Int) := by omega
            have hkk1 : (kk : Int) < 2 := by omega
            go_upto_if 93 with (fail)
            go_cut [20] from 78 to 180 (fun s20 w' => ∃ oo : Nat, oo < 2 ∧ s20 = .int .i64 oo ∧ w' = wr.alloc (.cells #[.int .i64 kind, .int .i64 on, .int .i64 num, .bool oth] 62))
            case first =>
              cases oth
              · go_wp2
                all_goals go_meet
                exact ⟨kk, by omega, rfl, rfl⟩
              · go_wp2
                all_goals go_meet
                exact ⟨1 - kk, by omega, by congr 1; omega, rfl⟩
            case rest =>
              obtain ⟨oo, hoo, rfl, rfl⟩ := hcut
              have hoo0 : (0 : Int) ≤ (oo : Int) := by omega
              have hoo1 : (oo : Int) < 2 := by omega
              have hbx : Below wr.heap.size wr (wr.alloc (.cells #[.int .i64 kind, .int .i64 on, .int .i64 num, .bool oth] 62)) := (Below.refl _ _).alloc (Nat.le_refl _) _
              have hxb := heap_alloc_new wr (.cells #[.int .i64 kind, .int .i64 on, .int .i64 num, .bool oth] 62)
              have hPx := HP.out.below hbx
              have HBX := Lib.hid hbx
              have HXB := Lib.hid hxb
              have HD := Lib.hid (does_any hPx hkk hoo kind on num oth)
              clear hbx hxb hPx
              go_wp2_with fail
              go_at_call 26
              refine HD.out.mono ?_
              rintro e w8 ⟨rfl, ⟨s8, hP8⟩, hB8, hK8⟩
              have hx8 := (hK8 _ ⟨_, HXB.out⟩).trans HXB.out
              have HP8 := Lib.hid hP8
              have HB8 := Lib.hid hB8
              have HX8 := Lib.hid hx8
              clear hP8 hB8 hK8 hx8
              have hTl := Lib.hid (fun (w : World) (hp : PInv W.heap.size w6.heap.size (w6.heap.size + 1) s8 w) (hb : Below W.heap.size W w) (i : Nat) (hi : i < 2) =>
                tells_any w (HT.out.kept (M := fun _ => False) (.of_below hb) id) (hp.set i hi) (hp.high i hi) (hp.ris i hi) (by have := (hp.low i hi).1; omega) (by have := (hp.low i hi).2.1; omega) num)
              have hWi := Lib.hid (fun (w : World) (hp : PInv W.heap.size w6.heap.size (w6.heap.size + 1) s8 w) (n : Nat) => show Calls Tryd.prog 23 #[.pointer (some ⟨s8.g kk, 0, none⟩), .pointer (some ⟨s8.g oo, 0, none⟩)] (w.drewN n) (fun e w' => e = .returned (.bool (wcs s8 kk oo)) ∧ ∃ m, (w.drewN n).drewN m = w') from by
                unfold wcs; exact Within_any ((hp.set kk hkk).drewN n) ((hp.set oo hoo).drewN n) (hp.high kk hkk))
              have hR1 := Lib.hid (fun (w : World) (hp : PInv W.heap.size w6.heap.size (w6.heap.size + 1) s8 w) (n : Nat) => show Calls Tryd.prog 27 #[.pointer (some ⟨s8.gp kk, 0, none⟩), .pointer (some ⟨s8.gp oo, 0, none⟩)] (w.drewN n) (fun e w' => e = .returned (.bool (wcs s8 kk oo)) ∧ ∃ m, (w.drewN n).drewN m = w') from by
                unfold wcs; exact rWithin_any ((hp.ris kk hkk).drewN n) ((hp.ris oo hoo).drewN n))
              have hR2 := Lib.hid (fun (w : World) (hp : PInv W.heap.size w6.heap.size (w6.heap.size + 1) s8 w) (n : Nat) => show Calls Tryd.prog 27 #[.pointer (some ⟨s8.gp oo, 0, none⟩), .pointer (some ⟨s8.gp kk, 0, none⟩)] (w.drewN n) (fun e w' => e = .returned (.bool (wcs s8 oo kk)) ∧ ∃ m, (w.drewN n).drewN m = w') from by
                unfold wcs; exact rWithin_any ((hp.ris oo hoo).drewN n) ((hp.ris kk hkk).drewN n))
              have hSa := Lib.hid (fun (w : World) (hp : PInv W.heap.size w6.heap.size (w6.heap.size + 1) s8 w) (n : Nat) => show Calls Tryd.prog 22 #[.pointer (some ⟨s8.g kk, 0, none⟩), .pointer (some ⟨s8.g oo, 0, none⟩)] (w.drewN n) (fun e w' => e = .returned (.bool (wcs s8 kk oo && wcs s8 oo kk)) ∧ ∃ m, (w.drewN n).drewN m = w') from by
                unfold wcs; exact Same_any ((hp.set kk hkk).drewN n) ((hp.set oo hoo).drewN n) (hp.high kk hkk) (hp.high oo hoo))
              have hB8' := Lib.hid ((HBW.out.trans (HBX.out.mono HBW.out.size)).trans HB8.out)
              have HS8 := Lib.hid ((HP8.out.drewN 1).heldP (k := kk) (o := oo) hkk hoo (xb := wr.heap.size) (num := num) HX8.out rfl)
              go_wp2_with fail
              simp only [List.append]
              clear HA1 HA2 HR1 HR2 HZ1 HZ2 HN1 HN2 HS1 HS2 HS3 HS5 HB1 HB2 HB3 HB5 HPI HB7 HW7 HSc HD HP HB34 HG4 hH HBB5
              cases hb1 : wcs s8 kk oo
              · -- the second is not asked
                refine wp_region_held_drew (S := (fun w => w.cell? ⟨w6.heap.size, 0, none⟩ = some (.pointer (some ⟨s8.g 0, 0, none⟩)) ∧ w.cell? ⟨w6.heap.size, 1, none⟩ = some (.pointer (some ⟨s8.g 1, 0, none⟩)) ∧ w.cell? ⟨w6.heap.size + 1, 0, none⟩ = some (.pointer (some ⟨s8.gp 0, 0, none⟩)) ∧ w.cell? ⟨w6.heap.size + 1, 1, none⟩ = some (.pointer (some ⟨s8.gp 1, 0, none⟩)) ∧ w.cell? ⟨w6.heap.size, kk, none⟩ = some (.pointer (some ⟨s8.g kk, 0, none⟩)) ∧ w.cell? ⟨w6.heap.size, oo, none⟩ = some (.pointer (some ⟨s8.g oo, 0, none⟩)) ∧ w.cell? ⟨w6.heap.size + 1, kk, none⟩ = some (.pointer (some ⟨s8.gp kk, 0, none⟩)) ∧ w.cell? ⟨w6.heap.size + 1, oo, none⟩ = some (.pointer (some ⟨s8.gp oo, 0, none⟩)) ∧ w.cell? ⟨wr.heap.size, 2, none⟩ = some (.int .i64 num))) (by kernel_rfl) ?_ (fun hHeld => ?_)
                · exact HS8.out
                refine wpAnyH_take (i := 0) (oi := ?oo0) (v := ?vv0) ?hi0 (by kernel_rfl) (by kernel_rfl) (by kernel_rfl) ?hq0 ?hy0 (by assumption) ?rest0
                case hi0 => (simp only [List.getElem?_toArray, List.getElem?_cons_succ, List.getElem?_cons_zero]; exact rfl)
                case hy0 => (refine Or.inl ⟨by rfl, ?_⟩; intro w hSw; (try dsimp only at hSw); go_simp; try with_reducible rfl)
                case hq0 => exact fun _ _ _ h => h
                try simp only [Act.put, List.setIfInBounds_toArray, List.set_cons_zero, List.set_cons_succ]
                refine wpAnyH_take (i := 1) (oi := ?oo1) (v := ?vv1) ?hi1 (by kernel_rfl) (by kernel_rfl) (by kernel_rfl) ?hq1 ?hy1 (by assumption) ?rest1
                case hi1 => (simp only [List.getElem?_toArray, List.getElem?_cons_succ, List.getElem?_cons_zero]; exact rfl)
                case hy1 => (refine Or.inl ⟨by rfl, ?_⟩; intro w hSw; (try dsimp only at hSw); go_simp; try with_reducible rfl)
                case hq1 => exact fun _ _ _ h => h
                try simp only [Act.put, List.setIfInBounds_toArray, List.set_cons_zero, List.set_cons_succ]
                refine wpAnyH_take (i := 2) (oi := ?oo2) (v := ?vv2) ?hi2 (by kernel_rfl) (by kernel_rfl) (by kernel_rfl) ?hq2 ?hy2 (by assumption) ?rest2
                case hi2 => (simp only [List.getElem?_toArray, List.getElem?_cons_succ, List.getElem?_cons_zero]; exact rfl)
                case hy2 => (refine Or.inl ⟨by rfl, ?_⟩; intro w hSw; (try dsimp only at hSw); go_simp; try with_reducible rfl)
                case hq2 => exact fun _ _ _ h => h
                try simp only [Act.put, List.setIfInBounds_toArray, List.set_cons_zero, List.set_cons_succ]
                refine wpAnyH_take (i := 3) (oi := ?oo3) (v := ?vv3) ?hi3 (by kernel_rfl) (by kernel_rfl) (by kernel_rfl) ?hq3 ?hy3 (by assumption) ?rest3
                case hi3 => (simp only [List.getElem?_toArray, List.getElem?_cons_succ, List.getElem?_cons_zero]; exact rfl)
                case hy3 => (refine Or.inl ⟨by rfl, ?_⟩; intro w hSw; (try dsimp only at hSw); go_simp; try with_reducible rfl)
                case hq3 => exact fun _ _ _ h => h
                try simp only [Act.put, List.setIfInBounds_toArray, List.set_cons_zero, List.set_cons_succ]
                refine wpAnyH_take (i := 4) (oi := ?oo4) (v := ?vv4) ?hi4 (by kernel_rfl) (by kernel_rfl) (by kernel_rfl) ?hq4 ?hy4 (by assumption) ?rest4
                case hi4 => (simp only [List.getElem?_toArray, List.getElem?_cons_succ, List.getElem?_cons_zero]; exact rfl)
                case hy4 => (refine Or.inl ⟨by rfl, ?_⟩; intro w hSw; (try dsimp only at hSw); go_simp; try with_reducible rfl)
                case hq4 => exact fun _ _ _ h => h
                try simp only [Act.put, List.setIfInBounds_toArray, List.set_cons_zero, List.set_cons_succ]
                refine wpAnyH_take (i := 5) (oi := ?oo5) (v := ?vv5) ?hi5 (by kernel_rfl) (by kernel_rfl) (by kernel_rfl) ?hq5 ?hy5 (by assumption) ?rest5
                case hi5 => (simp only [List.getElem?_toArray, List.getElem?_cons_succ, List.getElem?_cons_zero]; exact rfl)
                case hy5 => (refine Or.inl ⟨by rfl, ?_⟩; intro w hSw; (try dsimp only at hSw); go_simp; try with_reducible rfl)
                case hq5 => exact fun _ _ _ h => h
                try simp only [Act.put, List.setIfInBounds_toArray, List.set_cons_zero, List.set_cons_succ]
                refine wpAnyH_take (i := 6) (oi := ?oo6) (v := ?vv6) ?hi6 (by kernel_rfl) (by kernel_rfl) (by kernel_rfl) ?hq6 ?hy6 (by assumption) ?rest6
                case hi6 => (simp only [List.getElem?_toArray, List.getElem?_cons_succ, List.getElem?_cons_zero]; exact rfl)
                case hy6 => (refine Or.inl ⟨by rfl, ?_⟩; intro w hSw; (try dsimp only at hSw); go_simp; try with_reducible rfl)
                case hq6 => exact fun _ _ _ h => h
                try simp only [Act.put, List.setIfInBounds_toArray, List.set_cons_zero, List.set_cons_succ]
                refine wpAnyH_take (i := 7) (oi := ?oo7) (v := ?vv7) ?hi7 (by kernel_rfl) (by kernel_rfl) (by kernel_rfl) ?hq7 ?hy7 (by assumption) ?rest7
                case hi7 => (simp only [List.getElem?_toArray, List.getElem?_cons_succ, List.getElem?_cons_zero]; exact rfl)
                case hy7 => (refine Or.inl ⟨by rfl, ?_⟩; intro w hSw; (try dsimp only at hSw); go_simp; try with_reducible rfl)
                case hq7 => exact fun _ _ _ h => h
                try simp only [Act.put, List.setIfInBounds_toArray, List.set_cons_zero, List.set_cons_succ]
                refine wpAnyH_take (i := 8) (oi := ?oo8) (v := ?vv8) ?hi8 (by kernel_rfl) (by kernel_rfl) (by kernel_rfl) ?hq8 ?hy8 (by assumption) ?rest8
                case hi8 => (simp only [List.getElem?_toArray, List.getElem?_cons_succ, List.getElem?_cons_zero]; exact rfl)
                case hy8 => (refine Or.inl ⟨by rfl, ?_⟩; intro w hSw; (try dsimp only at hSw); go_simp; try with_reducible rfl)
                case hq8 => exact fun _ _ _ h => h
                try simp only [Act.put, List.setIfInBounds_toArray, List.set_cons_zero, List.set_cons_succ]
                refine wpAnyH_take (i := 9) (oi := ?oo9) (v := ?vv9) ?hi9 (by kernel_rfl) (by kernel_rfl) (by kernel_rfl) ?hq9 ?hy9 (by assumption) ?rest9
                case hi9 => (simp only [List.getElem?_toArray, List.getElem?_cons_succ, List.getElem?_cons_zero]; exact rfl)
                case hy9 => (refine Or.inl ⟨by rfl, ?_⟩; intro w hSw; (try dsimp only at hSw); go_simp; try with_reducible rfl)
                case hq9 => exact fun _ _ _ h => h
                try simp only [Act.put, List.setIfInBounds_toArray, List.set_cons_zero, List.set_cons_succ]
                refine wpAnyH_take (i := 10) (oi := ?oo10) (v := ?vv10) ?hi10 (by kernel_rfl) (by kernel_rfl) (by kernel_rfl) ?hq10 ?hy10 (by assumption) ?rest10
                case hi10 => (simp only [List.getElem?_toArray, List.getElem?_cons_succ, List.getElem?_cons_zero]; exact rfl)
                case hy10 => (refine Or.inl ⟨by rfl, ?_⟩; intro w hSw; (try dsimp only at hSw); go_simp; try with_reducible rfl)
                case hq10 => exact fun _ _ _ h => h
                try simp only [Act.put, List.setIfInBounds_toArray, List.set_cons_zero, List.set_cons_succ]
                refine wpAnyH_ready (rs := [11]) (by kernel_rfl) (by simp) ?_
                refine AllReadyH.cons (o := ?ooc1) ?hic1 (fun K hK => ?restc1) AllReadyH.nil
                case hic1 => (simp only [List.getElem?_toArray, List.getElem?_cons_succ, List.getElem?_cons_zero]; exact rfl)
                go_simp
                go_at_call_of 14 (Value.pointer (some ⟨s8.g 0, 0, none⟩)); refine (hTl.out w8.drew (HP8.out.drewN 1) (below_drewN hB8'.out 1) 0 (by omega)).mono ?_; rintro e w9 ⟨rfl, hS9, hF9⟩; have HT9 := Lib.hid ((HP8.out.drewN 1).told (by omega) hS9 hF9); have HX9 := Lib.hid ((HT9.out.2.2 _ ⟨_, HX8.out⟩).trans HX8.out); have HS9 := Lib.hid (HT9.out.1.heldP (k := kk) (o := oo) hkk hoo (xb := wr.heap.size) (num := num) HX9.out rfl); clear hS9 hF9
                go_wp2_with fail
                refine hK.out _ _ ?_ (fun hHeld2 => ?_)
                · exact HS9.out
                clear hK K hHeld
                rename _ => hHeld
                try simp only [Act.put, List.setIfInBounds_toArray, List.set_cons_zero, List.set_cons_succ]
                refine wpAnyH_take (i := 12) (oi := ?oo12) (v := ?vv12) ?hi12 (by kernel_rfl) (by kernel_rfl) (by kernel_rfl) ?hq12 ?hy12 (by assumption) ?rest12
                case hi12 => (simp only [List.getElem?_toArray, List.getElem?_cons_succ, List.getElem?_cons_zero]; exact rfl)
                case hy12 => (refine Or.inl ⟨by rfl, ?_⟩; intro w hSw; (try dsimp only at hSw); go_simp; try with_reducible rfl)
                case hq12 => exact fun _ _ _ h => h
                try simp only [Act.put, List.setIfInBounds_toArray, List.set_cons_zero, List.set_cons_succ]
                refine wpAnyH_take (i := 13) (oi := ?oo13) (v := ?vv13) ?hi13 (by kernel_rfl) (by kernel_rfl) (by kernel_rfl) ?hq13 ?hy13 (by assumption) ?rest13
                case hi13 => (simp only [List.getElem?_toArray, List.getElem?_cons_succ, List.getElem?_cons_zero]; exact rfl)
                case hy13 => (refine Or.inl ⟨by rfl, ?_⟩; intro w hSw; (try dsimp only at hSw); go_simp; try with_reducible rfl)
                case hq13 => exact fun _ _ _ h => h
                try simp only [Act.put, List.setIfInBounds_toArray, List.set_cons_zero, List.set_cons_succ]
                refine wpAnyH_take (i := 14) (oi := ?oo14) (v := ?vv14) ?hi14 (by kernel_rfl) (by kernel_rfl) (by kernel_rfl) ?hq14 ?hy14 (by assumption) ?rest14
                case hi14 => (simp only [List.getElem?_toArray, List.getElem?_cons_succ, List.getElem?_cons_zero]; exact rfl)
                case hy14 => (refine Or.inl ⟨by rfl, ?_⟩; intro w hSw; (try dsimp only at hSw); go_simp; try with_reducible rfl)
                case hq14 => exact fun _ _ _ h => h
                try simp only [Act.put, List.setIfInBounds_toArray, List.set_cons_zero, List.set_cons_succ]
                refine wpAnyH_take (i := 15) (oi := ?oo15) (v := ?vv15) ?hi15 (by kernel_rfl) (by kernel_rfl) (by kernel_rfl) ?hq15 ?hy15 (by assumption) ?rest15
                case hi15 => (simp only [List.getElem?_toArray, List.getElem?_cons_succ, List.getElem?_cons_zero]; exact rfl)
                case hy15 => (refine Or.inl ⟨by rfl, ?_⟩; intro w hSw; (try dsimp only at hSw); go_simp; try with_reducible rfl)
                case hq15 => exact fun _ _ _ h => h
                try simp only [Act.put, List.setIfInBounds_toArray, List.set_cons_zero, List.set_cons_succ]
                refine wpAnyH_take (i := 16) (oi := ?oo16) (v := ?vv16) ?hi16 (by kernel_rfl) (by kernel_rfl) (by kernel_rfl) ?hq16 ?hy16 (by assumption) ?rest16
                case hi16 => (simp only [List.getElem?_toArray, List.getElem?_cons_succ, List.getElem?_cons_zero]; exact rfl)
                case hy16 => (refine Or.inl ⟨by rfl, ?_⟩; intro w hSw; (try dsimp only at hSw); go_simp; try with_reducible rfl)
                case hq16 => exact fun _ _ _ h => h
                try simp only [Act.put, List.setIfInBounds_toArray, List.set_cons_zero, List.set_cons_succ]
                refine wpAnyH_take (i := 17) (oi := ?oo17) (v := ?vv17) ?hi17 (by kernel_rfl) (by kernel_rfl) (by kernel_rfl) ?hq17 ?hy17 (by assumption) ?rest17
                case hi17 => (simp only [List.getElem?_toArray, List.getElem?_cons_succ, List.getElem?_cons_zero]; exact rfl)
                case hy17 => (refine Or.inl ⟨by rfl, ?_⟩; intro w hSw; (try dsimp only at hSw); go_simp; try with_reducible rfl)
                case hq17 => exact fun _ _ _ h => h
                try simp only [Act.put, List.setIfInBounds_toArray, List.set_cons_zero, List.set_cons_succ]
                refine wpAnyH_take (i := 18) (oi := ?oo18) (v := ?vv18) ?hi18 (by kernel_rfl) (by kernel_rfl) (by kernel_rfl) ?hq18 ?hy18 (by assumption) ?rest18
                case hi18 => (simp only [List.getElem?_toArray, List.getElem?_cons_succ, List.getElem?_cons_zero]; exact rfl)
                case hy18 => (refine Or.inl ⟨by rfl, ?_⟩; intro w hSw; (try dsimp only at hSw); go_simp; try with_reducible rfl)
                case hq18 => exact fun _ _ _ h => h
                try simp only [Act.put, List.setIfInBounds_toArray, List.set_cons_zero, List.set_cons_succ]
                refine wpAnyH_take (i := 19) (oi := ?oo19) (v := ?vv19) ?hi19 (by kernel_rfl) (by kernel_rfl) (by kernel_rfl) ?hq19 ?hy19 (by assumption) ?rest19
                case hi19 => (simp only [List.getElem?_toArray, List.getElem?_cons_succ, List.getElem?_cons_zero]; exact rfl)
                case hy19 => (refine Or.inl ⟨by rfl, ?_⟩; intro w hSw; (try dsimp only at hSw); go_simp; try with_reducible rfl)
                case hq19 => exact fun _ _ _ h => h
                try simp only [Act.put, List.setIfInBounds_toArray, List.set_cons_zero, List.set_cons_succ]
                refine wpAnyH_take (i := 20) (oi := ?oo20) (v := ?vv20) ?hi20 (by kernel_rfl) (by kernel_rfl) (by kernel_rfl) ?hq20 ?hy20 (by assumption) ?rest20
                case hi20 => (simp only [List.getElem?_toArray, List.getElem?_cons_succ, List.getElem?_cons_zero]; exact rfl)
                case hy20 => (refine Or.inl ⟨by rfl, ?_⟩; intro w hSw; (try dsimp only at hSw); go_simp; try with_reducible rfl)
                case hq20 => exact fun _ _ _ h => h
                try simp only [Act.put, List.setIfInBounds_toArray, List.set_cons_zero, List.set_cons_succ]
                refine wpAnyH_take (i := 21) (oi := ?oo21) (v := ?vv21) ?hi21 (by kernel_rfl) (by kernel_rfl) (by kernel_rfl) ?hq21 ?hy21 (by assumption) ?rest21
                case hi21 => (simp only [List.getElem?_toArray, List.getElem?_cons_succ, List.getElem?_cons_zero]; exact rfl)
                case hy21 => (refine Or.inl ⟨by rfl, ?_⟩; intro w hSw; (try dsimp only at hSw); go_simp; try with_reducible rfl)
                case hq21 => exact fun _ _ _ h => h
                try simp only [Act.put, List.setIfInBounds_toArray, List.set_cons_zero, List.set_cons_succ]
                refine wpAnyH_take (i := 22) (oi := ?oo22) (v := ?vv22) ?hi22 (by kernel_rfl) (by kernel_rfl) (by kernel_rfl) ?hq22 ?hy22 (by assumption) ?rest22
                case hi22 => (simp only [List.getElem?_toArray, List.getElem?_cons_succ, List.getElem?_cons_zero]; exact rfl)
                case hy22 => (refine Or.inl ⟨by rfl, ?_⟩; intro w hSw; (try dsimp only at hSw); go_simp; try with_reducible rfl)
                case hq22 => exact fun _ _ _ h => h
                try simp only [Act.put, List.setIfInBounds_toArray, List.set_cons_zero, List.set_cons_succ]
                refine wpAnyH_ready (rs := [23]) (by kernel_rfl) (by simp) ?_
                refine AllReadyH.cons (o := ?ooc2) ?hic2 (fun K hK => ?restc2) AllReadyH.nil
                case hic2 => (simp only [List.getElem?_toArray, List.getElem?_cons_succ, List.getElem?_cons_zero]; exact rfl)
                go_simp
                go_at_call_of 14 (Value.pointer (some ⟨s8.g 1, 0, none⟩)); refine (hTl.out w9 HT9.out.1 ((below_drewN hB8'.out 1).trans HT9.out.2.1) 1 (by omega)).mono ?_; rintro e w10 ⟨rfl, hS10, hF10⟩; have HT10 := Lib.hid (HT9.out.1.told (by omega) hS10 hF10); have HX10 := Lib.hid ((HT10.out.2.2 _ ⟨_, HX9.out⟩).trans HX9.out); have HS10 := Lib.hid (HT10.out.1.heldP (k := kk) (o := oo) hkk hoo (xb := wr.heap.size) (num := num) HX10.out rfl); clear hS10 hF10
                go_wp2_with fail
                refine hK.out _ _ ?_ (fun hHeld2 => ?_)
                · exact HS10.out
                clear hK K hHeld
                rename _ => hHeld
                try simp only [Act.put, List.setIfInBounds_toArray, List.set_cons_zero, List.set_cons_succ]
                refine wpAnyH_take (i := 24) (oi := ?oo24) (v := ?vv24) ?hi24 (by kernel_rfl) (by kernel_rfl) (by kernel_rfl) ?hq24 ?hy24 (by assumption) ?rest24
                case hi24 => (simp only [List.getElem?_toArray, List.getElem?_cons_succ, List.getElem?_cons_zero]; exact rfl)
                case hy24 => (refine Or.inl ⟨by rfl, ?_⟩; intro w hSw; (try dsimp only at hSw); go_simp; try with_reducible rfl)
                case hq24 => exact fun _ _ _ h => h
                try simp only [Act.put, List.setIfInBounds_toArray, List.set_cons_zero, List.set_cons_succ]
                refine wpAnyH_take (i := 25) (oi := ?oo25) (v := ?vv25) ?hi25 (by kernel_rfl) (by kernel_rfl) (by kernel_rfl) ?hq25 ?hy25 (by assumption) ?rest25
                case hi25 => (simp only [List.getElem?_toArray, List.getElem?_cons_succ, List.getElem?_cons_zero]; exact rfl)
                case hy25 => (refine Or.inl ⟨by rfl, ?_⟩; intro w hSw; (try dsimp only at hSw); go_simp; try with_reducible rfl)
                case hq25 => exact fun _ _ _ h => h
                try simp only [Act.put, List.setIfInBounds_toArray, List.set_cons_zero, List.set_cons_succ]
                refine wpAnyH_take (i := 26) (oi := ?oo26) (v := ?vv26) ?hi26 (by kernel_rfl) (by kernel_rfl) (by kernel_rfl) ?hq26 ?hy26 (by assumption) ?rest26
                case hi26 => (simp only [List.getElem?_toArray, List.getElem?_cons_succ, List.getElem?_cons_zero]; exact rfl)
                case hy26 => (refine Or.inl ⟨by rfl, ?_⟩; intro w hSw; (try dsimp only at hSw); go_simp; try with_reducible rfl)
                case hq26 => exact fun _ _ _ h => h
                try simp only [Act.put, List.setIfInBounds_toArray, List.set_cons_zero, List.set_cons_succ]
                refine wpAnyH_take (i := 27) (oi := ?oo27) (v := ?vv27) ?hi27 (by kernel_rfl) (by kernel_rfl) (by kernel_rfl) ?hq27 ?hy27 (by assumption) ?rest27
                case hi27 => (simp only [List.getElem?_toArray, List.getElem?_cons_succ, List.getElem?_cons_zero]; exact rfl)
                case hy27 => (refine Or.inl ⟨by rfl, ?_⟩; intro w hSw; (try dsimp only at hSw); go_simp; try with_reducible rfl)
                case hq27 => exact fun _ _ _ h => h
                try simp only [Act.put, List.setIfInBounds_toArray, List.set_cons_zero, List.set_cons_succ]
                refine wpAnyH_take (i := 28) (oi := ?oo28) (v := ?vv28) ?hi28 (by kernel_rfl) (by kernel_rfl) (by kernel_rfl) ?hq28 ?hy28 (by assumption) ?rest28
                case hi28 => (simp only [List.getElem?_toArray, List.getElem?_cons_succ, List.getElem?_cons_zero]; exact rfl)
                case hy28 => (refine Or.inl ⟨by rfl, ?_⟩; intro w hSw; (try dsimp only at hSw); go_simp; try with_reducible rfl)
                case hq28 => exact fun _ _ _ h => h
                try simp only [Act.put, List.setIfInBounds_toArray, List.set_cons_zero, List.set_cons_succ]
                refine wpAnyH_take (i := 29) (oi := ?oo29) (v := ?vv29) ?hi29 (by kernel_rfl) (by kernel_rfl) (by kernel_rfl) ?hq29 ?hy29 (by assumption) ?rest29
                case hi29 => (simp only [List.getElem?_toArray, List.getElem?_cons_succ, List.getElem?_cons_zero]; exact rfl)
                case hy29 => (refine Or.inl ⟨by rfl, ?_⟩; intro w hSw; (try dsimp only at hSw); go_simp; try with_reducible rfl)
                case hq29 => exact fun _ _ _ h => h
                try simp only [Act.put, List.setIfInBounds_toArray, List.set_cons_zero, List.set_cons_succ]
                refine wpAnyH_take (i := 30) (oi := ?oo30) (v := ?vv30) ?hi30 (by kernel_rfl) (by kernel_rfl) (by kernel_rfl) ?hq30 ?hy30 (by assumption) ?rest30
                case hi30 => (simp only [List.getElem?_toArray, List.getElem?_cons_succ, List.getElem?_cons_zero]; exact rfl)
                case hy30 => (refine Or.inl ⟨by rfl, ?_⟩; intro w hSw; (try dsimp only at hSw); go_simp; try with_reducible rfl)
                case hq30 => exact fun _ _ _ h => h
                try simp only [Act.put, List.setIfInBounds_toArray, List.set_cons_zero, List.set_cons_succ]
                refine wpAnyH_take (i := 31) (oi := ?oo31) (v := ?vv31) ?hi31 (by kernel_rfl) (by kernel_rfl) (by kernel_rfl) ?hq31 ?hy31 (by assumption) ?rest31
                case hi31 => (simp only [List.getElem?_toArray, List.getElem?_cons_succ, List.getElem?_cons_zero]; exact rfl)
                case hy31 => (refine Or.inl ⟨by rfl, ?_⟩; intro w hSw; (try dsimp only at hSw); go_simp; try with_reducible rfl)
                case hq31 => exact fun _ _ _ h => h
                try simp only [Act.put, List.setIfInBounds_toArray, List.set_cons_zero, List.set_cons_succ]
                refine wpAnyH_take (i := 32) (oi := ?oo32) (v := ?vv32) ?hi32 (by kernel_rfl) (by kernel_rfl) (by kernel_rfl) ?hq32 ?hy32 (by assumption) ?rest32
                case hi32 => (simp only [List.getElem?_toArray, List.getElem?_cons_succ, List.getElem?_cons_zero]; exact rfl)
                case hy32 => (refine Or.inl ⟨by rfl, ?_⟩; intro w hSw; (try dsimp only at hSw); go_simp; try with_reducible rfl)
                case hq32 => exact fun _ _ _ h => h
                try simp only [Act.put, List.setIfInBounds_toArray, List.set_cons_zero, List.set_cons_succ]
                refine wpAnyH_take (i := 33) (oi := ?oo33) (v := ?vv33) ?hi33 (by kernel_rfl) (by kernel_rfl) (by kernel_rfl) ?hq33 ?hy33 (by assumption) ?rest33
                case hi33 => (simp only [List.getElem?_toArray, List.getElem?_cons_succ, List.getElem?_cons_zero]; exact rfl)
                case hy33 => (refine Or.inl ⟨by rfl, ?_⟩; intro w hSw; (try dsimp only at hSw); go_simp; try with_reducible rfl)
                case hq33 => exact fun _ _ _ h => h
                try simp only [Act.put, List.setIfInBounds_toArray, List.set_cons_zero, List.set_cons_succ]
                refine wpAnyH_take (i := 34) (oi := ?oo34) (v := ?vv34) ?hi34 (by kernel_rfl) (by kernel_rfl) (by kernel_rfl) ?hq34 ?hy34 (by assumption) ?rest34
                case hi34 => (simp only [List.getElem?_toArray, List.getElem?_cons_succ, List.getElem?_cons_zero]; exact rfl)
                case hy34 => (refine Or.inl ⟨by rfl, ?_⟩; intro w hSw; (try dsimp only at hSw); go_simp; try with_reducible rfl)
                case hq34 => exact fun _ _ _ h => h
                try simp only [Act.put, List.setIfInBounds_toArray, List.set_cons_zero, List.set_cons_succ]
                refine wpAnyH_take (i := 36) (oi := ?oo36) (v := ?vv36) ?hi36 (by kernel_rfl) (by kernel_rfl) (by kernel_rfl) ?hq36 ?hy36 (by assumption) ?rest36
                case hi36 => (simp only [List.getElem?_toArray, List.getElem?_cons_succ, List.getElem?_cons_zero]; exact rfl)
                case hy36 => (refine Or.inl ⟨by rfl, ?_⟩; intro w hSw; (try dsimp only at hSw); go_simp; try with_reducible rfl)
                case hq36 => exact fun _ _ _ h => h
                try simp only [Act.put, List.setIfInBounds_toArray, List.set_cons_zero, List.set_cons_succ]
                refine wpAnyH_take (i := 37) (oi := ?oo37) (v := ?vv37) ?hi37 (by kernel_rfl) (by kernel_rfl) (by kernel_rfl) ?hq37 ?hy37 (by assumption) ?rest37
                case hi37 => (simp only [List.getElem?_toArray, List.getElem?_cons_succ, List.getElem?_cons_zero]; exact rfl)
                case hy37 => (refine Or.inl ⟨by rfl, ?_⟩; intro w hSw; (try dsimp only at hSw); go_simp; try with_reducible rfl)
                case hq37 => exact fun _ _ _ h => h
                try simp only [Act.put, List.setIfInBounds_toArray, List.set_cons_zero, List.set_cons_succ]
                refine wpAnyH_take (i := 38) (oi := ?oo38) (v := ?vv38) ?hi38 (by kernel_rfl) (by kernel_rfl) (by kernel_rfl) ?hq38 ?hy38 (by assumption) ?rest38
                case hi38 => (simp only [List.getElem?_toArray, List.getElem?_cons_succ, List.getElem?_cons_zero]; exact rfl)
                case hy38 => (refine Or.inl ⟨by rfl, ?_⟩; intro w hSw; (try dsimp only at hSw); go_simp; try with_reducible rfl)
                case hq38 => exact fun _ _ _ h => h
                try simp only [Act.put, List.setIfInBounds_toArray, List.set_cons_zero, List.set_cons_succ]
                refine wpAnyH_take (i := 39) (oi := ?oo39) (v := ?vv39) ?hi39 (by kernel_rfl) (by kernel_rfl) (by kernel_rfl) ?hq39 ?hy39 (by assumption) ?rest39
                case hi39 => (simp only [List.getElem?_toArray, List.getElem?_cons_succ, List.getElem?_cons_zero]; exact rfl)
                case hy39 => (refine Or.inl ⟨by rfl, ?_⟩; intro w hSw; (try dsimp only at hSw); go_simp; try with_reducible rfl)
                case hq39 => exact fun _ _ _ h => h
                try simp only [Act.put, List.setIfInBounds_toArray, List.set_cons_zero, List.set_cons_succ]
                refine wpAnyH_take (i := 40) (oi := ?oo40) (v := ?vv40) ?hi40 (by kernel_rfl) (by kernel_rfl) (by kernel_rfl) ?hq40 ?hy40 (by assumption) ?rest40
                case hi40 => (simp only [List.getElem?_toArray, List.getElem?_cons_succ, List.getElem?_cons_zero]; exact rfl)
                case hy40 => (refine Or.inl ⟨by rfl, ?_⟩; intro w hSw; (try dsimp only at hSw); go_simp; try with_reducible rfl)
                case hq40 => exact fun _ _ _ h => h
                try simp only [Act.put, List.setIfInBounds_toArray, List.set_cons_zero, List.set_cons_succ]
                refine wpAnyH_take (i := 41) (oi := ?oo41) (v := ?vv41) ?hi41 (by kernel_rfl) (by kernel_rfl) (by kernel_rfl) ?hq41 ?hy41 (by assumption) ?rest41
                case hi41 => (simp only [List.getElem?_toArray, List.getElem?_cons_succ, List.getElem?_cons_zero]; exact rfl)
                case hy41 => (refine Or.inl ⟨by rfl, ?_⟩; intro w hSw; (try dsimp only at hSw); go_simp; try with_reducible rfl)
                case hq41 => exact fun _ _ _ h => h
                try simp only [Act.put, List.setIfInBounds_toArray, List.set_cons_zero, List.set_cons_succ]
                refine wpAnyH_take (i := 42) (oi := ?oo42) (v := ?vv42) ?hi42 (by kernel_rfl) (by kernel_rfl) (by kernel_rfl) ?hq42 ?hy42 (by assumption) ?rest42
                case hi42 => (simp only [List.getElem?_toArray, List.getElem?_cons_succ, List.getElem?_cons_zero]; exact rfl)
                case hy42 => (refine Or.inl ⟨by rfl, ?_⟩; intro w hSw; (try dsimp only at hSw); go_simp; try with_reducible rfl)
                case hq42 => exact fun _ _ _ h => h
                try simp only [Act.put, List.setIfInBounds_toArray, List.set_cons_zero, List.set_cons_succ]
                refine wpAnyH_take (i := 43) (oi := ?oo43) (v := ?vv43) ?hi43 (by kernel_rfl) (by kernel_rfl) (by kernel_rfl) ?hq43 ?hy43 (by assumption) ?rest43
                case hi43 => (simp only [List.getElem?_toArray, List.getElem?_cons_succ, List.getElem?_cons_zero]; exact rfl)
                case hy43 => (refine Or.inl ⟨by rfl, ?_⟩; intro w hSw; (try dsimp only at hSw); go_simp; try with_reducible rfl)
                case hq43 => exact fun _ _ _ h => h
                try simp only [Act.put, List.setIfInBounds_toArray, List.set_cons_zero, List.set_cons_succ]
                refine wpAnyH_ready (rs := [35]) (by kernel_rfl) (by simp) ?_
                refine AllReadyH.cons (o := ?ooc3) ?hic3 (fun K hK => ?restc3) AllReadyH.nil
                case hic3 => (simp only [List.getElem?_toArray, List.getElem?_cons_succ, List.getElem?_cons_zero]; exact rfl)
                go_simp
                go_at_call 23; refine (hWi.out w10 HT10.out.1 0).mono ?_; rintro e w11 ⟨rfl, n11, rfl⟩
                go_wp2_with fail
                refine hK.out _ _ ?_ (fun hHeld2 => ?_)
                · exact HS10.out
                clear hK K hHeld
                rename _ => hHeld
                try simp only [Act.put, List.setIfInBounds_toArray, List.set_cons_zero, List.set_cons_succ]
                refine wpAnyH_ready (rs := [44]) (by kernel_rfl) (by simp) ?_
                refine AllReadyH.cons (o := ?ooc4) ?hic4 (fun K hK => ?restc4) AllReadyH.nil
                case hic4 => (simp only [List.getElem?_toArray, List.getElem?_cons_succ, List.getElem?_cons_zero]; exact rfl)
                go_simp
                go_at_call 27; refine (hR1.out w10 HT10.out.1 _).mono ?_; rintro e w11 ⟨rfl, n15, rfl⟩
                go_wp2_with fail
                refine hK.out _ _ ?_ (fun hHeld2 => ?_)
                · exact HS10.out
                clear hK K hHeld
                rename _ => hHeld
                try simp only [Act.put, List.setIfInBounds_toArray, List.set_cons_zero, List.set_cons_succ]
                refine wpAnyH_take (i := 45) (oi := ?oo45) (v := ?vv45) ?hi45 (by kernel_rfl) (by kernel_rfl) (by kernel_rfl) ?hq45 ?hy45 (by assumption) ?rest45
                case hi45 => (simp only [List.getElem?_toArray, List.getElem?_cons_succ, List.getElem?_cons_zero]; exact rfl)
                case hy45 => (refine Or.inl ⟨by rfl, ?_⟩; intro w hSw; (try dsimp only at hSw); go_simp; try with_reducible rfl)
                case hq45 => exact fun _ _ _ h => h
                try simp only [Act.put, List.setIfInBounds_toArray, List.set_cons_zero, List.set_cons_succ]
                refine wpAnyH_take (i := 46) (oi := ?oo46) (v := ?vv46) ?hi46 (by kernel_rfl) (by kernel_rfl) (by kernel_rfl) ?hq46 ?hy46 (by assumption) ?rest46
                case hi46 => (simp only [List.getElem?_toArray, List.getElem?_cons_succ, List.getElem?_cons_zero]; exact rfl)
                case hy46 => (refine Or.inl ⟨by rfl, ?_⟩; intro w hSw; (try dsimp only at hSw); go_simp; try with_reducible rfl)
                case hq46 => exact fun _ _ _ h => h
                try simp only [Act.put, List.setIfInBounds_toArray, List.set_cons_zero, List.set_cons_succ]
                refine wpAnyH_take (i := 47) (oi := ?oo47) (v := ?vv47) ?hi47 (by kernel_rfl) (by kernel_rfl) (by kernel_rfl) ?hq47 ?hy47 (by assumption) ?rest47
                case hi47 => (simp only [List.getElem?_toArray, List.getElem?_cons_succ, List.getElem?_cons_zero]; exact rfl)
                case hy47 => (refine Or.inl ⟨by rfl, ?_⟩; intro w hSw; (try dsimp only at hSw); go_simp; try with_reducible rfl)
                case hq47 => exact fun _ _ _ h => h
                try simp only [Act.put, List.setIfInBounds_toArray, List.set_cons_zero, List.set_cons_succ]
                refine wpAnyH_take (i := 48) (oi := ?oo48) (v := ?vv48) ?hi48 (by kernel_rfl) (by kernel_rfl) (by kernel_rfl) ?hq48 ?hy48 (by assumption) ?rest48
                case hi48 => (simp only [List.getElem?_toArray, List.getElem?_cons_succ, List.getElem?_cons_zero]; exact rfl)
                case hy48 => (refine Or.inl ⟨by rfl, ?_⟩; intro w hSw; (try dsimp only at hSw); go_simp; try with_reducible rfl)
                case hq48 => exact fun _ _ _ h => h
                try simp only [Act.put, List.setIfInBounds_toArray, List.set_cons_zero, List.set_cons_succ]
                refine wpAnyH_take (i := 49) (oi := ?oo49) (v := ?vv49) ?hi49 (by kernel_rfl) (by kernel_rfl) (by kernel_rfl) ?hq49 ?hy49 (by assumption) ?rest49
                case hi49 => (simp only [List.getElem?_toArray, List.getElem?_cons_succ, List.getElem?_cons_zero]; exact rfl)
                case hy49 => (refine Or.inl ⟨by rfl, ?_⟩; intro w hSw; (try dsimp only at hSw); go_simp; try with_reducible rfl)
                case hq49 => exact fun _ _ _ h => h
                try simp only [Act.put, List.setIfInBounds_toArray, List.set_cons_zero, List.set_cons_succ]
                refine wpAnyH_take (i := 50) (oi := ?oo50) (v := ?vv50) ?hi50 (by kernel_rfl) (by kernel_rfl) (by kernel_rfl) ?hq50 ?hy50 (by assumption) ?rest50
                case hi50 => (simp only [List.getElem?_toArray, List.getElem?_cons_succ, List.getElem?_cons_zero]; exact rfl)
                case hy50 => (refine Or.inl ⟨by rfl, ?_⟩; intro w hSw; (try dsimp only at hSw); go_simp; try with_reducible rfl)
                case hq50 => exact fun _ _ _ h => h
                try simp only [Act.put, List.setIfInBounds_toArray, List.set_cons_zero, List.set_cons_succ]
                refine wpAnyH_take (i := 51) (oi := ?oo51) (v := ?vv51) ?hi51 (by kernel_rfl) (by kernel_rfl) (by kernel_rfl) ?hq51 ?hy51 (by assumption) ?rest51
                case hi51 => (simp only [List.getElem?_toArray, List.getElem?_cons_succ, List.getElem?_cons_zero]; exact rfl)
                case hy51 => (refine Or.inl ⟨by rfl, ?_⟩; intro w hSw; (try dsimp only at hSw); go_simp; try with_reducible rfl)
                case hq51 => exact fun _ _ _ h => h
                try simp only [Act.put, List.setIfInBounds_toArray, List.set_cons_zero, List.set_cons_succ]
                refine wpAnyH_take (i := 52) (oi := ?oo52) (v := ?vv52) ?hi52 (by kernel_rfl) (by kernel_rfl) (by kernel_rfl) ?hq52 ?hy52 (by assumption) ?rest52
                case hi52 => (simp only [List.getElem?_toArray, List.getElem?_cons_succ, List.getElem?_cons_zero]; exact rfl)
                case hy52 => (refine Or.inl ⟨by rfl, ?_⟩; intro w hSw; (try dsimp only at hSw); go_simp; try with_reducible rfl)
                case hq52 => exact fun _ _ _ h => h
                try simp only [Act.put, List.setIfInBounds_toArray, List.set_cons_zero, List.set_cons_succ]
                refine wpAnyH_take (i := 53) (oi := ?oo53) (v := ?vv53) ?hi53 (by kernel_rfl) (by kernel_rfl) (by kernel_rfl) ?hq53 ?hy53 (by assumption) ?rest53
                case hi53 => (simp only [List.getElem?_toArray, List.getElem?_cons_succ, List.getElem?_cons_zero]; exact rfl)
                case hy53 => (refine Or.inl ⟨by rfl, ?_⟩; intro w hSw; (try dsimp only at hSw); go_simp; try with_reducible rfl)
                case hq53 => exact fun _ _ _ h => h
                try simp only [Act.put, List.setIfInBounds_toArray, List.set_cons_zero, List.set_cons_succ]
                refine wpAnyH_take (i := 54) (oi := ?oo54) (v := ?vv54) ?hi54 (by kernel_rfl) (by kernel_rfl) (by kernel_rfl) ?hq54 ?hy54 (by assumption) ?rest54
                case hi54 => (simp only [List.getElem?_toArray, List.getElem?_cons_succ, List.getElem?_cons_zero]; exact rfl)
                case hy54 => (refine Or.inl ⟨by rfl, ?_⟩; intro w hSw; (try dsimp only at hSw); go_simp; try with_reducible rfl)
                case hq54 => exact fun _ _ _ h => h
                try simp only [Act.put, List.setIfInBounds_toArray, List.set_cons_zero, List.set_cons_succ]
                refine wpAnyH_take (i := 55) (oi := ?oo55) (v := ?vv55) ?hi55 (by kernel_rfl) (by kernel_rfl) (by kernel_rfl) ?hq55 ?hy55 (by assumption) ?rest55
                case hi55 => (simp only [List.getElem?_toArray, List.getElem?_cons_succ, List.getElem?_cons_zero]; exact rfl)
                case hy55 => (refine Or.inl ⟨by rfl, ?_⟩; intro w hSw; (try dsimp only at hSw); go_simp; try with_reducible rfl)
                case hq55 => exact fun _ _ _ h => h
                try simp only [Act.put, List.setIfInBounds_toArray, List.set_cons_zero, List.set_cons_succ]
                refine wpAnyH_take (i := 57) (oi := ?oo57) (v := ?vv57) ?hi57 (by kernel_rfl) (by kernel_rfl) (by kernel_rfl) ?hq57 ?hy57 (by assumption) ?rest57
                case hi57 => (simp only [List.getElem?_toArray, List.getElem?_cons_succ, List.getElem?_cons_zero]; exact rfl)
                case hy57 => (refine Or.inl ⟨by rfl, ?_⟩; intro w hSw; (try dsimp only at hSw); go_simp; try with_reducible rfl)
                case hq57 => exact fun _ _ _ h => h
                try simp only [Act.put, List.setIfInBounds_toArray, List.set_cons_zero, List.set_cons_succ]
                refine wpAnyH_take (i := 58) (oi := ?oo58) (v := ?vv58) ?hi58 (by kernel_rfl) (by kernel_rfl) (by kernel_rfl) ?hq58 ?hy58 (by assumption) ?rest58
                case hi58 => (simp only [List.getElem?_toArray, List.getElem?_cons_succ, List.getElem?_cons_zero]; exact rfl)
                case hy58 => (refine Or.inl ⟨by rfl, ?_⟩; intro w hSw; (try dsimp only at hSw); go_simp; try with_reducible rfl)
                case hq58 => exact fun _ _ _ h => h
                try simp only [Act.put, List.setIfInBounds_toArray, List.set_cons_zero, List.set_cons_succ]
                refine wpAnyH_take (i := 59) (oi := ?oo59) (v := ?vv59) ?hi59 (by kernel_rfl) (by kernel_rfl) (by kernel_rfl) ?hq59 ?hy59 (by assumption) ?rest59
                case hi59 => (simp only [List.getElem?_toArray, List.getElem?_cons_succ, List.getElem?_cons_zero]; exact rfl)
                case hy59 => (refine Or.inl ⟨by rfl, ?_⟩; intro w hSw; (try dsimp only at hSw); go_simp; try with_reducible rfl)
                case hq59 => exact fun _ _ _ h => h
                try simp only [Act.put, List.setIfInBounds_toArray, List.set_cons_zero, List.set_cons_succ]
                refine wpAnyH_take (i := 60) (oi := ?oo60) (v := ?vv60) ?hi60 (by kernel_rfl) (by kernel_rfl) (by kernel_rfl) ?hq60 ?hy60 (by assumption) ?rest60
                case hi60 => (simp only [List.getElem?_toArray, List.getElem?_cons_succ, List.getElem?_cons_zero]; exact rfl)
                case hy60 => (refine Or.inl ⟨by rfl, ?_⟩; intro w hSw; (try dsimp only at hSw); go_simp; try with_reducible rfl)
                case hq60 => exact fun _ _ _ h => h
                try simp only [Act.put, List.setIfInBounds_toArray, List.set_cons_zero, List.set_cons_succ]
                refine wpAnyH_take (i := 61) (oi := ?oo61) (v := ?vv61) ?hi61 (by kernel_rfl) (by kernel_rfl) (by kernel_rfl) ?hq61 ?hy61 (by assumption) ?rest61
                case hi61 => (simp only [List.getElem?_toArray, List.getElem?_cons_succ, List.getElem?_cons_zero]; exact rfl)
                case hy61 => (refine Or.inl ⟨by rfl, ?_⟩; intro w hSw; (try dsimp only at hSw); go_simp; try with_reducible rfl)
                case hq61 => exact fun _ _ _ h => h
                try simp only [Act.put, List.setIfInBounds_toArray, List.set_cons_zero, List.set_cons_succ]
                refine wpAnyH_take (i := 62) (oi := ?oo62) (v := ?vv62) ?hi62 (by kernel_rfl) (by kernel_rfl) (by kernel_rfl) ?hq62 ?hy62 (by assumption) ?rest62
                case hi62 => (simp only [List.getElem?_toArray, List.getElem?_cons_succ, List.getElem?_cons_zero]; exact rfl)
                case hy62 => (refine Or.inl ⟨by rfl, ?_⟩; intro w hSw; (try dsimp only at hSw); go_simp; try with_reducible rfl)
                case hq62 => exact fun _ _ _ h => h
                try simp only [Act.put, List.setIfInBounds_toArray, List.set_cons_zero, List.set_cons_succ]
                refine wpAnyH_take (i := 63) (oi := ?oo63) (v := ?vv63) ?hi63 (by kernel_rfl) (by kernel_rfl) (by kernel_rfl) ?hq63 ?hy63 (by assumption) ?rest63
                case hi63 => (simp only [List.getElem?_toArray, List.getElem?_cons_succ, List.getElem?_cons_zero]; exact rfl)
                case hy63 => (refine Or.inl ⟨by rfl, ?_⟩; intro w hSw; (try dsimp only at hSw); go_simp; try with_reducible rfl)
                case hq63 => exact fun _ _ _ h => h
                try simp only [Act.put, List.setIfInBounds_toArray, List.set_cons_zero, List.set_cons_succ]
                refine wpAnyH_take (i := 64) (oi := ?oo64) (v := ?vv64) ?hi64 (by kernel_rfl) (by kernel_rfl) (by kernel_rfl) ?hq64 ?hy64 (by assumption) ?rest64
                case hi64 => (simp only [List.getElem?_toArray, List.getElem?_cons_succ, List.getElem?_cons_zero]; exact rfl)
                case hy64 => (refine Or.inl ⟨by rfl, ?_⟩; intro w hSw; (try dsimp only at hSw); go_simp; try with_reducible rfl)
                case hq64 => exact fun _ _ _ h => h
                try simp only [Act.put, List.setIfInBounds_toArray, List.set_cons_zero, List.set_cons_succ]
                refine wpAnyH_ready (rs := [56]) (by kernel_rfl) (by simp) ?_
                refine AllReadyH.cons (o := ?ooc5) ?hic5 (fun K hK => ?restc5) AllReadyH.nil
                case hic5 => (simp only [List.getElem?_toArray, List.getElem?_cons_succ, List.getElem?_cons_zero]; exact rfl)
                go_simp
                go_at_call 22; refine (hSa.out w10 HT10.out.1 _).mono ?_; rintro e w11 ⟨rfl, n12, rfl⟩
                go_wp2_with fail
                refine hK.out _ _ ?_ (fun hHeld2 => ?_)
                · exact HS10.out
                clear hK K hHeld
                rename _ => hHeld
                try simp only [Act.put, List.setIfInBounds_toArray, List.set_cons_zero, List.set_cons_succ]
                refine wpAnyH_ready (rs := [65]) (by kernel_rfl) (by simp) ?_
                refine AllReadyH.cons (o := ?ooc6) ?hic6 (fun K hK => ?restc6) AllReadyH.nil
                case hic6 => (simp only [List.getElem?_toArray, List.getElem?_cons_succ, List.getElem?_cons_zero]; exact rfl)
                go_simp
                go_at_call 27; refine (hR1.out w10 HT10.out.1 _).mono ?_; rintro e w11 ⟨rfl, n13, rfl⟩
                go_wp2_with fail
                refine hK.out _ _ ?_ (fun hHeld2 => ?_)
                · exact HS10.out
                clear hK K hHeld
                rename _ => hHeld
                try simp only [Act.put, List.setIfInBounds_toArray, List.set_cons_zero, List.set_cons_succ]
                refine wpAnyH_take (i := 66) (oi := ?oo66) (v := ?vv66) ?hi66 (by kernel_rfl) (by kernel_rfl) (by kernel_rfl) ?hq66 ?hy66 (by assumption) ?rest66
                case hi66 => (simp only [List.getElem?_toArray, List.getElem?_cons_succ, List.getElem?_cons_zero]; exact rfl)
                case hy66 => (refine Or.inl ⟨by rfl, ?_⟩; intro w hSw; (try dsimp only at hSw); go_simp; try with_reducible rfl)
                case hq66 => exact fun _ _ _ h => h
                try simp only [Act.put, List.setIfInBounds_toArray, List.set_cons_zero, List.set_cons_succ]
                refine wpAnyH_take (i := 67) (oi := ?oo67) (v := undef) ?hi67 (by kernel_rfl) (by kernel_rfl) (by kernel_rfl) ?hq67 ?hy67 (by assumption) ?rest67
                case hi67 => (simp only [List.getElem?_toArray, List.getElem?_cons_succ, List.getElem?_cons_zero]; exact rfl)
                case hy67 => exact Or.inr ⟨by rfl, rfl⟩
                case hq67 => exact fun _ _ _ h => h
                try simp only [Act.put, List.setIfInBounds_toArray, List.set_cons_zero, List.set_cons_succ]
                refine wpAnyH_take (i := 68) (oi := ?oo68) (v := undef) ?hi68 (by kernel_rfl) (by kernel_rfl) (by kernel_rfl) ?hq68 ?hy68 (by assumption) ?rest68
                case hi68 => (simp only [List.getElem?_toArray, List.getElem?_cons_succ, List.getElem?_cons_zero]; exact rfl)
                case hy68 => exact Or.inr ⟨by rfl, rfl⟩
                case hq68 => exact fun _ _ _ h => h
                try simp only [Act.put, List.setIfInBounds_toArray, List.set_cons_zero, List.set_cons_succ]
                refine wpAnyH_take (i := 69) (oi := ?oo69) (v := undef) ?hi69 (by kernel_rfl) (by kernel_rfl) (by kernel_rfl) ?hq69 ?hy69 (by assumption) ?rest69
                case hi69 => (simp only [List.getElem?_toArray, List.getElem?_cons_succ, List.getElem?_cons_zero]; exact rfl)
                case hy69 => exact Or.inr ⟨by rfl, rfl⟩
                case hq69 => exact fun _ _ _ h => h
                try simp only [Act.put, List.setIfInBounds_toArray, List.set_cons_zero, List.set_cons_succ]
                refine wpAnyH_take (i := 70) (oi := ?oo70) (v := undef) ?hi70 (by kernel_rfl) (by kernel_rfl) (by kernel_rfl) ?hq70 ?hy70 (by assumption) ?rest70
                case hi70 => (simp only [List.getElem?_toArray, List.getElem?_cons_succ, List.getElem?_cons_zero]; exact rfl)
                case hy70 => exact Or.inr ⟨by rfl, rfl⟩
                case hq70 => exact fun _ _ _ h => h
                try simp only [Act.put, List.setIfInBounds_toArray, List.set_cons_zero, List.set_cons_succ]
                refine wpAnyH_take (i := 71) (oi := ?oo71) (v := undef) ?hi71 (by kernel_rfl) (by kernel_rfl) (by kernel_rfl) ?hq71 ?hy71 (by assumption) ?rest71
                case hi71 => (simp only [List.getElem?_toArray, List.getElem?_cons_succ, List.getElem?_cons_zero]; exact rfl)
                case hy71 => exact Or.inr ⟨by rfl, rfl⟩
                case hq71 => exact fun _ _ _ h => h
                try simp only [Act.put, List.setIfInBounds_toArray, List.set_cons_zero, List.set_cons_succ]
                refine wpAnyH_take (i := 72) (oi := ?oo72) (v := undef) ?hi72 (by kernel_rfl) (by kernel_rfl) (by kernel_rfl) ?hq72 ?hy72 (by assumption) ?rest72
                case hi72 => (simp only [List.getElem?_toArray, List.getElem?_cons_succ, List.getElem?_cons_zero]; exact rfl)
                case hy72 => exact Or.inr ⟨by rfl, rfl⟩
                case hq72 => exact fun _ _ _ h => h
                try simp only [Act.put, List.setIfInBounds_toArray, List.set_cons_zero, List.set_cons_succ]
                refine wpAnyH_take (i := 73) (oi := ?oo73) (v := undef) ?hi73 (by kernel_rfl) (by kernel_rfl) (by kernel_rfl) ?hq73 ?hy73 (by assumption) ?rest73
                case hi73 => (simp only [List.getElem?_toArray, List.getElem?_cons_succ, List.getElem?_cons_zero]; exact rfl)
                case hy73 => exact Or.inr ⟨by rfl, rfl⟩
                case hq73 => exact fun _ _ _ h => h
                try simp only [Act.put, List.setIfInBounds_toArray, List.set_cons_zero, List.set_cons_succ]
                refine wpAnyH_take (i := 74) (oi := ?oo74) (v := undef) ?hi74 (by kernel_rfl) (by kernel_rfl) (by kernel_rfl) ?hq74 ?hy74 (by assumption) ?rest74
                case hi74 => (simp only [List.getElem?_toArray, List.getElem?_cons_succ, List.getElem?_cons_zero]; exact rfl)
                case hy74 => exact Or.inr ⟨by rfl, rfl⟩
                case hq74 => exact fun _ _ _ h => h
                try simp only [Act.put, List.setIfInBounds_toArray, List.set_cons_zero, List.set_cons_succ]
                refine wpAnyH_take (i := 75) (oi := ?oo75) (v := undef) ?hi75 (by kernel_rfl) (by kernel_rfl) (by kernel_rfl) ?hq75 ?hy75 (by assumption) ?rest75
                case hi75 => (simp only [List.getElem?_toArray, List.getElem?_cons_succ, List.getElem?_cons_zero]; exact rfl)
                case hy75 => exact Or.inr ⟨by rfl, rfl⟩
                case hq75 => exact fun _ _ _ h => h
                try simp only [Act.put, List.setIfInBounds_toArray, List.set_cons_zero, List.set_cons_succ]
                refine wpAnyH_take (i := 76) (oi := ?oo76) (v := ?vv76) ?hi76 (by kernel_rfl) (by kernel_rfl) (by kernel_rfl) ?hq76 ?hy76 (by assumption) ?rest76
                case hi76 => (simp only [List.getElem?_toArray, List.getElem?_cons_succ, List.getElem?_cons_zero]; exact rfl)
                case hy76 => (refine Or.inl ⟨by rfl, ?_⟩; intro w hSw; (try dsimp only at hSw); go_simp; try with_reducible rfl)
                case hq76 => exact fun _ _ _ h => h
                try simp only [Act.put, List.setIfInBounds_toArray, List.set_cons_zero, List.set_cons_succ]
                refine wpAnyH_take (i := 77) (oi := ?oo77) (v := ?vv77) ?hi77 (by kernel_rfl) (by kernel_rfl) (by kernel_rfl) ?hq77 ?hy77 (by assumption) ?rest77
                case hi77 => (simp only [List.getElem?_toArray, List.getElem?_cons_succ, List.getElem?_cons_zero]; exact rfl)
                case hy77 => (refine Or.inl ⟨by rfl, ?_⟩; intro w hSw; (try dsimp only at hSw); go_simp; try with_reducible rfl)
                case hq77 => exact fun _ _ _ h => h
                try simp only [Act.put, List.setIfInBounds_toArray, List.set_cons_zero, List.set_cons_succ]
                refine wpAnyH_take (i := 78) (oi := ?oo78) (v := ?vv78) ?hi78 (by kernel_rfl) (by kernel_rfl) (by kernel_rfl) ?hq78 ?hy78 (by assumption) ?rest78
                case hi78 => (simp only [List.getElem?_toArray, List.getElem?_cons_succ, List.getElem?_cons_zero]; exact rfl)
                case hy78 => (refine Or.inl ⟨by rfl, ?_⟩; intro w hSw; (try dsimp only at hSw); go_simp; try with_reducible rfl)
                case hq78 => exact fun _ _ _ h => h
                try simp only [Act.put, List.setIfInBounds_toArray, List.set_cons_zero, List.set_cons_succ]
                refine wpAnyH_done (by kernel_rfl) ?_ _
                all_goals
                  go_wp2
                  go_roundw
                  case rel =>
                    first
                      | exact ⟨k + 1, s8, by omega, by simp, HT10.out.1.drewN _, below_drewN (((below_drewN hB8'.out 1).trans HT9.out.2.1).trans HT10.out.2.1) _⟩
                      | ((repeat apply Exists.intro); exact ⟨⟨by omega, by simp, HT10.out.1.drewN _, below_drewN (((below_drewN hB8'.out 1).trans HT9.out.2.1).trans HT10.out.2.1) _⟩, rfl⟩)
                  case measure => simp [intOf]; omega
              · -- the second is asked too
                refine wp_region_held_drew (S := (fun w => w.cell? ⟨w6.heap.size, 0, none⟩ = some (.pointer (some ⟨s8.g 0, 0, none⟩)) ∧ w.cell? ⟨w6.heap.size, 1, none⟩ = some (.pointer (some ⟨s8.g 1, 0, none⟩)) ∧ w.cell? ⟨w6.heap.size + 1, 0, none⟩ = some (.pointer (some ⟨s8.gp 0, 0, none⟩)) ∧ w.cell? ⟨w6.heap.size + 1, 1, none⟩ = some (.pointer (some ⟨s8.gp 1, 0, none⟩)) ∧ w.cell? ⟨w6.heap.size, kk, none⟩ = some (.pointer (some ⟨s8.g kk, 0, none⟩)) ∧ w.cell? ⟨w6.heap.size, oo, none⟩ = some (.pointer (some ⟨s8.g oo, 0, none⟩)) ∧ w.cell? ⟨w6.heap.size + 1, kk, none⟩ = some (.pointer (some ⟨s8.gp kk, 0, none⟩)) ∧ w.cell? ⟨w6.heap.size + 1, oo, none⟩ = some (.pointer (some ⟨s8.gp oo, 0, none⟩)) ∧ w.cell? ⟨wr.heap.size, 2, none⟩ = some (.int .i64 num))) (by kernel_rfl) ?_ (fun hHeld => ?_)
                · exact HS8.out
                refine wpAnyH_take (i := 0) (oi := ?oot0) (v := ?vvt0) ?hit0 (by kernel_rfl) (by kernel_rfl) (by kernel_rfl) ?hqt0 ?hyt0 (by assumption) ?restt0
                case hit0 => (simp only [List.getElem?_toArray, List.getElem?_cons_succ, List.getElem?_cons_zero]; exact rfl)
                case hyt0 => (refine Or.inl ⟨by rfl, ?_⟩; intro w hSw; (try dsimp only at hSw); go_simp; try with_reducible rfl)
                case hqt0 => exact fun _ _ _ h => h
                try simp only [Act.put, List.setIfInBounds_toArray, List.set_cons_zero, List.set_cons_succ]
                refine wpAnyH_take (i := 1) (oi := ?oot1) (v := ?vvt1) ?hit1 (by kernel_rfl) (by kernel_rfl) (by kernel_rfl) ?hqt1 ?hyt1 (by assumption) ?restt1
                case hit1 => (simp only [List.getElem?_toArray, List.getElem?_cons_succ, List.getElem?_cons_zero]; exact rfl)
                case hyt1 => (refine Or.inl ⟨by rfl, ?_⟩; intro w hSw; (try dsimp only at hSw); go_simp; try with_reducible rfl)
                case hqt1 => exact fun _ _ _ h => h
                try simp only [Act.put, List.setIfInBounds_toArray, List.set_cons_zero, List.set_cons_succ]
                refine wpAnyH_take (i := 2) (oi := ?oot2) (v := ?vvt2) ?hit2 (by kernel_rfl) (by kernel_rfl) (by kernel_rfl) ?hqt2 ?hyt2 (by assumption) ?restt2
                case hit2 => (simp only [List.getElem?_toArray, List.getElem?_cons_succ, List.getElem?_cons_zero]; exact rfl)
                case hyt2 => (refine Or.inl ⟨by rfl, ?_⟩; intro w hSw; (try dsimp only at hSw); go_simp; try with_reducible rfl)
                case hqt2 => exact fun _ _ _ h => h
                try simp only [Act.put, List.setIfInBounds_toArray, List.set_cons_zero, List.set_cons_succ]
                refine wpAnyH_take (i := 3) (oi := ?oot3) (v := ?vvt3) ?hit3 (by kernel_rfl) (by kernel_rfl) (by kernel_rfl) ?hqt3 ?hyt3 (by assumption) ?restt3
                case hit3 => (simp only [List.getElem?_toArray, List.getElem?_cons_succ, List.getElem?_cons_zero]; exact rfl)
                case hyt3 => (refine Or.inl ⟨by rfl, ?_⟩; intro w hSw; (try dsimp only at hSw); go_simp; try with_reducible rfl)
                case hqt3 => exact fun _ _ _ h => h
                try simp only [Act.put, List.setIfInBounds_toArray, List.set_cons_zero, List.set_cons_succ]
                refine wpAnyH_take (i := 4) (oi := ?oot4) (v := ?vvt4) ?hit4 (by kernel_rfl) (by kernel_rfl) (by kernel_rfl) ?hqt4 ?hyt4 (by assumption) ?restt4
                case hit4 => (simp only [List.getElem?_toArray, List.getElem?_cons_succ, List.getElem?_cons_zero]; exact rfl)
                case hyt4 => (refine Or.inl ⟨by rfl, ?_⟩; intro w hSw; (try dsimp only at hSw); go_simp; try with_reducible rfl)
                case hqt4 => exact fun _ _ _ h => h
                try simp only [Act.put, List.setIfInBounds_toArray, List.set_cons_zero, List.set_cons_succ]
                refine wpAnyH_take (i := 5) (oi := ?oot5) (v := ?vvt5) ?hit5 (by kernel_rfl) (by kernel_rfl) (by kernel_rfl) ?hqt5 ?hyt5 (by assumption) ?restt5
                case hit5 => (simp only [List.getElem?_toArray, List.getElem?_cons_succ, List.getElem?_cons_zero]; exact rfl)
                case hyt5 => (refine Or.inl ⟨by rfl, ?_⟩; intro w hSw; (try dsimp only at hSw); go_simp; try with_reducible rfl)
                case hqt5 => exact fun _ _ _ h => h
                try simp only [Act.put, List.setIfInBounds_toArray, List.set_cons_zero, List.set_cons_succ]
                refine wpAnyH_take (i := 6) (oi := ?oot6) (v := ?vvt6) ?hit6 (by kernel_rfl) (by kernel_rfl) (by kernel_rfl) ?hqt6 ?hyt6 (by assumption) ?restt6
                case hit6 => (simp only [List.getElem?_toArray, List.getElem?_cons_succ, List.getElem?_cons_zero]; exact rfl)
                case hyt6 => (refine Or.inl ⟨by rfl, ?_⟩; intro w hSw; (try dsimp only at hSw); go_simp; try with_reducible rfl)
                case hqt6 => exact fun _ _ _ h => h
                try simp only [Act.put, List.setIfInBounds_toArray, List.set_cons_zero, List.set_cons_succ]
                refine wpAnyH_take (i := 7) (oi := ?oot7) (v := ?vvt7) ?hit7 (by kernel_rfl) (by kernel_rfl) (by kernel_rfl) ?hqt7 ?hyt7 (by assumption) ?restt7
                case hit7 => (simp only [List.getElem?_toArray, List.getElem?_cons_succ, List.getElem?_cons_zero]; exact rfl)
                case hyt7 => (refine Or.inl ⟨by rfl, ?_⟩; intro w hSw; (try dsimp only at hSw); go_simp; try with_reducible rfl)
                case hqt7 => exact fun _ _ _ h => h
                try simp only [Act.put, List.setIfInBounds_toArray, List.set_cons_zero, List.set_cons_succ]
                refine wpAnyH_take (i := 8) (oi := ?oot8) (v := ?vvt8) ?hit8 (by kernel_rfl) (by kernel_rfl) (by kernel_rfl) ?hqt8 ?hyt8 (by assumption) ?restt8
                case hit8 => (simp only [List.getElem?_toArray, List.getElem?_cons_succ, List.getElem?_cons_zero]; exact rfl)
                case hyt8 => (refine Or.inl ⟨by rfl, ?_⟩; intro w hSw; (try dsimp only at hSw); go_simp; try with_reducible rfl)
                case hqt8 => exact fun _ _ _ h => h
                try simp only [Act.put, List.setIfInBounds_toArray, List.set_cons_zero, List.set_cons_succ]
                refine wpAnyH_take (i := 9) (oi := ?oot9) (v := ?vvt9) ?hit9 (by kernel_rfl) (by kernel_rfl) (by kernel_rfl) ?hqt9 ?hyt9 (by assumption) ?restt9
                case hit9 => (simp only [List.getElem?_toArray, List.getElem?_cons_succ, List.getElem?_cons_zero]; exact rfl)
                case hyt9 => (refine Or.inl ⟨by rfl, ?_⟩; intro w hSw; (try dsimp only at hSw); go_simp; try with_reducible rfl)
                case hqt9 => exact fun _ _ _ h => h
                try simp only [Act.put, List.setIfInBounds_toArray, List.set_cons_zero, List.set_cons_succ]
                refine wpAnyH_take (i := 10) (oi := ?oot10) (v := ?vvt10) ?hit10 (by kernel_rfl) (by kernel_rfl) (by kernel_rfl) ?hqt10 ?hyt10 (by assumption) ?restt10
                case hit10 => (simp only [List.getElem?_toArray, List.getElem?_cons_succ, List.getElem?_cons_zero]; exact rfl)
                case hyt10 => (refine Or.inl ⟨by rfl, ?_⟩; intro w hSw; (try dsimp only at hSw); go_simp; try with_reducible rfl)
                case hqt10 => exact fun _ _ _ h => h
                try simp only [Act.put, List.setIfInBounds_toArray, List.set_cons_zero, List.set_cons_succ]
                refine wpAnyH_ready (rs := [11]) (by kernel_rfl) (by simp) ?_
                refine AllReadyH.cons (o := ?ootc1) ?hitc1 (fun K hK => ?resttc1) AllReadyH.nil
                case hitc1 => (simp only [List.getElem?_toArray, List.getElem?_cons_succ, List.getElem?_cons_zero]; exact rfl)
                go_simp
                go_at_call_of 14 (Value.pointer (some ⟨s8.g 0, 0, none⟩)); refine (hTl.out w8.drew (HP8.out.drewN 1) (below_drewN hB8'.out 1) 0 (by omega)).mono ?_; rintro e w9 ⟨rfl, hS9, hF9⟩; have HT9 := Lib.hid ((HP8.out.drewN 1).told (by omega) hS9 hF9); have HX9 := Lib.hid ((HT9.out.2.2 _ ⟨_, HX8.out⟩).trans HX8.out); have HS9 := Lib.hid (HT9.out.1.heldP (k := kk) (o := oo) hkk hoo (xb := wr.heap.size) (num := num) HX9.out rfl); clear hS9 hF9
                go_wp2_with fail
                refine hK.out _ _ ?_ (fun hHeld2 => ?_)
                · exact HS9.out
                clear hK K hHeld
                rename _ => hHeld
                try simp only [Act.put, List.setIfInBounds_toArray, List.set_cons_zero, List.set_cons_succ]
                refine wpAnyH_take (i := 12) (oi := ?oot12) (v := ?vvt12) ?hit12 (by kernel_rfl) (by kernel_rfl) (by kernel_rfl) ?hqt12 ?hyt12 (by assumption) ?restt12
                case hit12 => (simp only [List.getElem?_toArray, List.getElem?_cons_succ, List.getElem?_cons_zero]; exact rfl)
                case hyt12 => (refine Or.inl ⟨by rfl, ?_⟩; intro w hSw; (try dsimp only at hSw); go_simp; try with_reducible rfl)
                case hqt12 => exact fun _ _ _ h => h
                try simp only [Act.put, List.setIfInBounds_toArray, List.set_cons_zero, List.set_cons_succ]
                refine wpAnyH_take (i := 13) (oi := ?oot13) (v := ?vvt13) ?hit13 (by kernel_rfl) (by kernel_rfl) (by kernel_rfl) ?hqt13 ?hyt13 (by assumption) ?restt13
                case hit13 => (simp only [List.getElem?_toArray, List.getElem?_cons_succ, List.getElem?_cons_zero]; exact rfl)
                case hyt13 => (refine Or.inl ⟨by rfl, ?_⟩; intro w hSw; (try dsimp only at hSw); go_simp; try with_reducible rfl)
                case hqt13 => exact fun _ _ _ h => h
                try simp only [Act.put, List.setIfInBounds_toArray, List.set_cons_zero, List.set_cons_succ]
                refine wpAnyH_take (i := 14) (oi := ?oot14) (v := ?vvt14) ?hit14 (by kernel_rfl) (by kernel_rfl) (by kernel_rfl) ?hqt14 ?hyt14 (by assumption) ?restt14
                case hit14 => (simp only [List.getElem?_toArray, List.getElem?_cons_succ, List.getElem?_cons_zero]; exact rfl)
                case hyt14 => (refine Or.inl ⟨by rfl, ?_⟩; intro w hSw; (try dsimp only at hSw); go_simp; try with_reducible rfl)
                case hqt14 => exact fun _ _ _ h => h
                try simp only [Act.put, List.setIfInBounds_toArray, List.set_cons_zero, List.set_cons_succ]
                refine wpAnyH_take (i := 15) (oi := ?oot15) (v := ?vvt15) ?hit15 (by kernel_rfl) (by kernel_rfl) (by kernel_rfl) ?hqt15 ?hyt15 (by assumption) ?restt15
                case hit15 => (simp only [List.getElem?_toArray, List.getElem?_cons_succ, List.getElem?_cons_zero]; exact rfl)
                case hyt15 => (refine Or.inl ⟨by rfl, ?_⟩; intro w hSw; (try dsimp only at hSw); go_simp; try with_reducible rfl)
                case hqt15 => exact fun _ _ _ h => h
                try simp only [Act.put, List.setIfInBounds_toArray, List.set_cons_zero, List.set_cons_succ]
                refine wpAnyH_take (i := 16) (oi := ?oot16) (v := ?vvt16) ?hit16 (by kernel_rfl) (by kernel_rfl) (by kernel_rfl) ?hqt16 ?hyt16 (by assumption) ?restt16
                case hit16 => (simp only [List.getElem?_toArray, List.getElem?_cons_succ, List.getElem?_cons_zero]; exact rfl)
                case hyt16 => (refine Or.inl ⟨by rfl, ?_⟩; intro w hSw; (try dsimp only at hSw); go_simp; try with_reducible rfl)
                case hqt16 => exact fun _ _ _ h => h
                try simp only [Act.put, List.setIfInBounds_toArray, List.set_cons_zero, List.set_cons_succ]
                refine wpAnyH_take (i := 17) (oi := ?oot17) (v := ?vvt17) ?hit17 (by kernel_rfl) (by kernel_rfl) (by kernel_rfl) ?hqt17 ?hyt17 (by assumption) ?restt17
                case hit17 => (simp only [List.getElem?_toArray, List.getElem?_cons_succ, List.getElem?_cons_zero]; exact rfl)
                case hyt17 => (refine Or.inl ⟨by rfl, ?_⟩; intro w hSw; (try dsimp only at hSw); go_simp; try with_reducible rfl)
                case hqt17 => exact fun _ _ _ h => h
                try simp only [Act.put, List.setIfInBounds_toArray, List.set_cons_zero, List.set_cons_succ]
                refine wpAnyH_take (i := 18) (oi := ?oot18) (v := ?vvt18) ?hit18 (by kernel_rfl) (by kernel_rfl) (by kernel_rfl) ?hqt18 ?hyt18 (by assumption) ?restt18
                case hit18 => (simp only [List.getElem?_toArray, List.getElem?_cons_succ, List.getElem?_cons_zero]; exact rfl)
                case hyt18 => (refine Or.inl ⟨by rfl, ?_⟩; intro w hSw; (try dsimp only at hSw); go_simp; try with_reducible rfl)
                case hqt18 => exact fun _ _ _ h => h
                try simp only [Act.put, List.setIfInBounds_toArray, List.set_cons_zero, List.set_cons_succ]
                refine wpAnyH_take (i := 19) (oi := ?oot19) (v := ?vvt19) ?hit19 (by kernel_rfl) (by kernel_rfl) (by kernel_rfl) ?hqt19 ?hyt19 (by assumption) ?restt19
                case hit19 => (simp only [List.getElem?_toArray, List.getElem?_cons_succ, List.getElem?_cons_zero]; exact rfl)
                case hyt19 => (refine Or.inl ⟨by rfl, ?_⟩; intro w hSw; (try dsimp only at hSw); go_simp; try with_reducible rfl)
                case hqt19 => exact fun _ _ _ h => h
                try simp only [Act.put, List.setIfInBounds_toArray, List.set_cons_zero, List.set_cons_succ]
                refine wpAnyH_take (i := 20) (oi := ?oot20) (v := ?vvt20) ?hit20 (by kernel_rfl) (by kernel_rfl) (by kernel_rfl) ?hqt20 ?hyt20 (by assumption) ?restt20
                case hit20 => (simp only [List.getElem?_toArray, List.getElem?_cons_succ, List.getElem?_cons_zero]; exact rfl)
                case hyt20 => (refine Or.inl ⟨by rfl, ?_⟩; intro w hSw; (try dsimp only at hSw); go_simp; try with_reducible rfl)
                case hqt20 => exact fun _ _ _ h => h
                try simp only [Act.put, List.setIfInBounds_toArray, List.set_cons_zero, List.set_cons_succ]
                refine wpAnyH_take (i := 21) (oi := ?oot21) (v := ?vvt21) ?hit21 (by kernel_rfl) (by kernel_rfl) (by kernel_rfl) ?hqt21 ?hyt21 (by assumption) ?restt21
                case hit21 => (simp only [List.getElem?_toArray, List.getElem?_cons_succ, List.getElem?_cons_zero]; exact rfl)
                case hyt21 => (refine Or.inl ⟨by rfl, ?_⟩; intro w hSw; (try dsimp only at hSw); go_simp; try with_reducible rfl)
                case hqt21 => exact fun _ _ _ h => h
                try simp only [Act.put, List.setIfInBounds_toArray, List.set_cons_zero, List.set_cons_succ]
                refine wpAnyH_take (i := 22) (oi := ?oot22) (v := ?vvt22) ?hit22 (by kernel_rfl) (by kernel_rfl) (by kernel_rfl) ?hqt22 ?hyt22 (by assumption) ?restt22
                case hit22 => (simp only [List.getElem?_toArray, List.getElem?_cons_succ, List.getElem?_cons_zero]; exact rfl)
                case hyt22 => (refine Or.inl ⟨by rfl, ?_⟩; intro w hSw; (try dsimp only at hSw); go_simp; try with_reducible rfl)
                case hqt22 => exact fun _ _ _ h => h
                try simp only [Act.put, List.setIfInBounds_toArray, List.set_cons_zero, List.set_cons_succ]
                refine wpAnyH_ready (rs := [23]) (by kernel_rfl) (by simp) ?_
                refine AllReadyH.cons (o := ?ootc2) ?hitc2 (fun K hK => ?resttc2) AllReadyH.nil
                case hitc2 => (simp only [List.getElem?_toArray, List.getElem?_cons_succ, List.getElem?_cons_zero]; exact rfl)
                go_simp
                go_at_call_of 14 (Value.pointer (some ⟨s8.g 1, 0, none⟩)); refine (hTl.out w9 HT9.out.1 ((below_drewN hB8'.out 1).trans HT9.out.2.1) 1 (by omega)).mono ?_; rintro e w10 ⟨rfl, hS10, hF10⟩; have HT10 := Lib.hid (HT9.out.1.told (by omega) hS10 hF10); have HX10 := Lib.hid ((HT10.out.2.2 _ ⟨_, HX9.out⟩).trans HX9.out); have HS10 := Lib.hid (HT10.out.1.heldP (k := kk) (o := oo) hkk hoo (xb := wr.heap.size) (num := num) HX10.out rfl); clear hS10 hF10
                go_wp2_with fail
                refine hK.out _ _ ?_ (fun hHeld2 => ?_)
                · exact HS10.out
                clear hK K hHeld
                rename _ => hHeld
                try simp only [Act.put, List.setIfInBounds_toArray, List.set_cons_zero, List.set_cons_succ]
                refine wpAnyH_take (i := 24) (oi := ?oot24) (v := ?vvt24) ?hit24 (by kernel_rfl) (by kernel_rfl) (by kernel_rfl) ?hqt24 ?hyt24 (by assumption) ?restt24
                case hit24 => (simp only [List.getElem?_toArray, List.getElem?_cons_succ, List.getElem?_cons_zero]; exact rfl)
                case hyt24 => (refine Or.inl ⟨by rfl, ?_⟩; intro w hSw; (try dsimp only at hSw); go_simp; try with_reducible rfl)
                case hqt24 => exact fun _ _ _ h => h
                try simp only [Act.put, List.setIfInBounds_toArray, List.set_cons_zero, List.set_cons_succ]
                refine wpAnyH_take (i := 25) (oi := ?oot25) (v := ?vvt25) ?hit25 (by kernel_rfl) (by kernel_rfl) (by kernel_rfl) ?hqt25 ?hyt25 (by assumption) ?restt25
                case hit25 => (simp only [List.getElem?_toArray, List.getElem?_cons_succ, List.getElem?_cons_zero]; exact rfl)
                case hyt25 => (refine Or.inl ⟨by rfl, ?_⟩; intro w hSw; (try dsimp only at hSw); go_simp; try with_reducible rfl)
                case hqt25 => exact fun _ _ _ h => h
                try simp only [Act.put, List.setIfInBounds_toArray, List.set_cons_zero, List.set_cons_succ]
                refine wpAnyH_take (i := 26) (oi := ?oot26) (v := ?vvt26) ?hit26 (by kernel_rfl) (by kernel_rfl) (by kernel_rfl) ?hqt26 ?hyt26 (by assumption) ?restt26
                case hit26 => (simp only [List.getElem?_toArray, List.getElem?_cons_succ, List.getElem?_cons_zero]; exact rfl)
                case hyt26 => (refine Or.inl ⟨by rfl, ?_⟩; intro w hSw; (try dsimp only at hSw); go_simp; try with_reducible rfl)
                case hqt26 => exact fun _ _ _ h => h
                try simp only [Act.put, List.setIfInBounds_toArray, List.set_cons_zero, List.set_cons_succ]
                refine wpAnyH_take (i := 27) (oi := ?oot27) (v := ?vvt27) ?hit27 (by kernel_rfl) (by kernel_rfl) (by kernel_rfl) ?hqt27 ?hyt27 (by assumption) ?restt27
                case hit27 => (simp only [List.getElem?_toArray, List.getElem?_cons_succ, List.getElem?_cons_zero]; exact rfl)
                case hyt27 => (refine Or.inl ⟨by rfl, ?_⟩; intro w hSw; (try dsimp only at hSw); go_simp; try with_reducible rfl)
                case hqt27 => exact fun _ _ _ h => h
                try simp only [Act.put, List.setIfInBounds_toArray, List.set_cons_zero, List.set_cons_succ]
                refine wpAnyH_take (i := 28) (oi := ?oot28) (v := ?vvt28) ?hit28 (by kernel_rfl) (by kernel_rfl) (by kernel_rfl) ?hqt28 ?hyt28 (by assumption) ?restt28
                case hit28 => (simp only [List.getElem?_toArray, List.getElem?_cons_succ, List.getElem?_cons_zero]; exact rfl)
                case hyt28 => (refine Or.inl ⟨by rfl, ?_⟩; intro w hSw; (try dsimp only at hSw); go_simp; try with_reducible rfl)
                case hqt28 => exact fun _ _ _ h => h
                try simp only [Act.put, List.setIfInBounds_toArray, List.set_cons_zero, List.set_cons_succ]
                refine wpAnyH_take (i := 29) (oi := ?oot29) (v := ?vvt29) ?hit29 (by kernel_rfl) (by kernel_rfl) (by kernel_rfl) ?hqt29 ?hyt29 (by assumption) ?restt29
                case hit29 => (simp only [List.getElem?_toArray, List.getElem?_cons_succ, List.getElem?_cons_zero]; exact rfl)
                case hyt29 => (refine Or.inl ⟨by rfl, ?_⟩; intro w hSw; (try dsimp only at hSw); go_simp; try with_reducible rfl)
                case hqt29 => exact fun _ _ _ h => h
                try simp only [Act.put, List.setIfInBounds_toArray, List.set_cons_zero, List.set_cons_succ]
                refine wpAnyH_take (i := 30) (oi := ?oot30) (v := ?vvt30) ?hit30 (by kernel_rfl) (by kernel_rfl) (by kernel_rfl) ?hqt30 ?hyt30 (by assumption) ?restt30
                case hit30 => (simp only [List.getElem?_toArray, List.getElem?_cons_succ, List.getElem?_cons_zero]; exact rfl)
                case hyt30 => (refine Or.inl ⟨by rfl, ?_⟩; intro w hSw; (try dsimp only at hSw); go_simp; try with_reducible rfl)
                case hqt30 => exact fun _ _ _ h => h
                try simp only [Act.put, List.setIfInBounds_toArray, List.set_cons_zero, List.set_cons_succ]
                refine wpAnyH_take (i := 31) (oi := ?oot31) (v := ?vvt31) ?hit31 (by kernel_rfl) (by kernel_rfl) (by kernel_rfl) ?hqt31 ?hyt31 (by assumption) ?restt31
                case hit31 => (simp only [List.getElem?_toArray, List.getElem?_cons_succ, List.getElem?_cons_zero]; exact rfl)
                case hyt31 => (refine Or.inl ⟨by rfl, ?_⟩; intro w hSw; (try dsimp only at hSw); go_simp; try with_reducible rfl)
                case hqt31 => exact fun _ _ _ h => h
                try simp only [Act.put, List.setIfInBounds_toArray, List.set_cons_zero, List.set_cons_succ]
                refine wpAnyH_take (i := 32) (oi := ?oot32) (v := ?vvt32) ?hit32 (by kernel_rfl) (by kernel_rfl) (by kernel_rfl) ?hqt32 ?hyt32 (by assumption) ?restt32
                case hit32 => (simp only [List.getElem?_toArray, List.getElem?_cons_succ, List.getElem?_cons_zero]; exact rfl)
                case hyt32 => (refine Or.inl ⟨by rfl, ?_⟩; intro w hSw; (try dsimp only at hSw); go_simp; try with_reducible rfl)
                case hqt32 => exact fun _ _ _ h => h
                try simp only [Act.put, List.setIfInBounds_toArray, List.set_cons_zero, List.set_cons_succ]
                refine wpAnyH_take (i := 33) (oi := ?oot33) (v := ?vvt33) ?hit33 (by kernel_rfl) (by kernel_rfl) (by kernel_rfl) ?hqt33 ?hyt33 (by assumption) ?restt33
                case hit33 => (simp only [List.getElem?_toArray, List.getElem?_cons_succ, List.getElem?_cons_zero]; exact rfl)
                case hyt33 => (refine Or.inl ⟨by rfl, ?_⟩; intro w hSw; (try dsimp only at hSw); go_simp; try with_reducible rfl)
                case hqt33 => exact fun _ _ _ h => h
                try simp only [Act.put, List.setIfInBounds_toArray, List.set_cons_zero, List.set_cons_succ]
                refine wpAnyH_take (i := 34) (oi := ?oot34) (v := ?vvt34) ?hit34 (by kernel_rfl) (by kernel_rfl) (by kernel_rfl) ?hqt34 ?hyt34 (by assumption) ?restt34
                case hit34 => (simp only [List.getElem?_toArray, List.getElem?_cons_succ, List.getElem?_cons_zero]; exact rfl)
                case hyt34 => (refine Or.inl ⟨by rfl, ?_⟩; intro w hSw; (try dsimp only at hSw); go_simp; try with_reducible rfl)
                case hqt34 => exact fun _ _ _ h => h
                try simp only [Act.put, List.setIfInBounds_toArray, List.set_cons_zero, List.set_cons_succ]
                refine wpAnyH_take (i := 36) (oi := ?oot36) (v := ?vvt36) ?hit36 (by kernel_rfl) (by kernel_rfl) (by kernel_rfl) ?hqt36 ?hyt36 (by assumption) ?restt36
                case hit36 => (simp only [List.getElem?_toArray, List.getElem?_cons_succ, List.getElem?_cons_zero]; exact rfl)
                case hyt36 => (refine Or.inl ⟨by rfl, ?_⟩; intro w hSw; (try dsimp only at hSw); go_simp; try with_reducible rfl)
                case hqt36 => exact fun _ _ _ h => h
                try simp only [Act.put, List.setIfInBounds_toArray, List.set_cons_zero, List.set_cons_succ]
                refine wpAnyH_take (i := 37) (oi := ?oot37) (v := ?vvt37) ?hit37 (by kernel_rfl) (by kernel_rfl) (by kernel_rfl) ?hqt37 ?hyt37 (by assumption) ?restt37
                case hit37 => (simp only [List.getElem?_toArray, List.getElem?_cons_succ, List.getElem?_cons_zero]; exact rfl)
                case hyt37 => (refine Or.inl ⟨by rfl, ?_⟩; intro w hSw; (try dsimp only at hSw); go_simp; try with_reducible rfl)
                case hqt37 => exact fun _ _ _ h => h
                try simp only [Act.put, List.setIfInBounds_toArray, List.set_cons_zero, List.set_cons_succ]
                refine wpAnyH_take (i := 38) (oi := ?oot38) (v := ?vvt38) ?hit38 (by kernel_rfl) (by kernel_rfl) (by kernel_rfl) ?hqt38 ?hyt38 (by assumption) ?restt38
                case hit38 => (simp only [List.getElem?_toArray, List.getElem?_cons_succ, List.getElem?_cons_zero]; exact rfl)
                case hyt38 => (refine Or.inl ⟨by rfl, ?_⟩; intro w hSw; (try dsimp only at hSw); go_simp; try with_reducible rfl)
                case hqt38 => exact fun _ _ _ h => h
                try simp only [Act.put, List.setIfInBounds_toArray, List.set_cons_zero, List.set_cons_succ]
                refine wpAnyH_take (i := 39) (oi := ?oot39) (v := ?vvt39) ?hit39 (by kernel_rfl) (by kernel_rfl) (by kernel_rfl) ?hqt39 ?hyt39 (by assumption) ?restt39
                case hit39 => (simp only [List.getElem?_toArray, List.getElem?_cons_succ, List.getElem?_cons_zero]; exact rfl)
                case hyt39 => (refine Or.inl ⟨by rfl, ?_⟩; intro w hSw; (try dsimp only at hSw); go_simp; try with_reducible rfl)
                case hqt39 => exact fun _ _ _ h => h
                try simp only [Act.put, List.setIfInBounds_toArray, List.set_cons_zero, List.set_cons_succ]
                refine wpAnyH_take (i := 40) (oi := ?oot40) (v := ?vvt40) ?hit40 (by kernel_rfl) (by kernel_rfl) (by kernel_rfl) ?hqt40 ?hyt40 (by assumption) ?restt40
                case hit40 => (simp only [List.getElem?_toArray, List.getElem?_cons_succ, List.getElem?_cons_zero]; exact rfl)
                case hyt40 => (refine Or.inl ⟨by rfl, ?_⟩; intro w hSw; (try dsimp only at hSw); go_simp; try with_reducible rfl)
                case hqt40 => exact fun _ _ _ h => h
                try simp only [Act.put, List.setIfInBounds_toArray, List.set_cons_zero, List.set_cons_succ]
                refine wpAnyH_take (i := 41) (oi := ?oot41) (v := ?vvt41) ?hit41 (by kernel_rfl) (by kernel_rfl) (by kernel_rfl) ?hqt41 ?hyt41 (by assumption) ?restt41
                case hit41 => (simp only [List.getElem?_toArray, List.getElem?_cons_succ, List.getElem?_cons_zero]; exact rfl)
                case hyt41 => (refine Or.inl ⟨by rfl, ?_⟩; intro w hSw; (try dsimp only at hSw); go_simp; try with_reducible rfl)
                case hqt41 => exact fun _ _ _ h => h
                try simp only [Act.put, List.setIfInBounds_toArray, List.set_cons_zero, List.set_cons_succ]
                refine wpAnyH_take (i := 42) (oi := ?oot42) (v := ?vvt42) ?hit42 (by kernel_rfl) (by kernel_rfl) (by kernel_rfl) ?hqt42 ?hyt42 (by assumption) ?restt42
                case hit42 => (simp only [List.getElem?_toArray, List.getElem?_cons_succ, List.getElem?_cons_zero]; exact rfl)
                case hyt42 => (refine Or.inl ⟨by rfl, ?_⟩; intro w hSw; (try dsimp only at hSw); go_simp; try with_reducible rfl)
                case hqt42 => exact fun _ _ _ h => h
                try simp only [Act.put, List.setIfInBounds_toArray, List.set_cons_zero, List.set_cons_succ]
                refine wpAnyH_take (i := 43) (oi := ?oot43) (v := ?vvt43) ?hit43 (by kernel_rfl) (by kernel_rfl) (by kernel_rfl) ?hqt43 ?hyt43 (by assumption) ?restt43
                case hit43 => (simp only [List.getElem?_toArray, List.getElem?_cons_succ, List.getElem?_cons_zero]; exact rfl)
                case hyt43 => (refine Or.inl ⟨by rfl, ?_⟩; intro w hSw; (try dsimp only at hSw); go_simp; try with_reducible rfl)
                case hqt43 => exact fun _ _ _ h => h
                try simp only [Act.put, List.setIfInBounds_toArray, List.set_cons_zero, List.set_cons_succ]
                refine wpAnyH_ready (rs := [35]) (by kernel_rfl) (by simp) ?_
                refine AllReadyH.cons (o := ?ootc3) ?hitc3 (fun K hK => ?resttc3) AllReadyH.nil
                case hitc3 => (simp only [List.getElem?_toArray, List.getElem?_cons_succ, List.getElem?_cons_zero]; exact rfl)
                go_simp
                go_at_call 23; refine (hWi.out w10 HT10.out.1 0).mono ?_; rintro e w11 ⟨rfl, n11, rfl⟩
                go_wp2_with fail
                refine hK.out _ _ ?_ (fun hHeld2 => ?_)
                · exact HS10.out
                clear hK K hHeld
                rename _ => hHeld
                try simp only [Act.put, List.setIfInBounds_toArray, List.set_cons_zero, List.set_cons_succ]
                refine wpAnyH_ready (rs := [44]) (by kernel_rfl) (by simp) ?_
                refine AllReadyH.cons (o := ?ootc4) ?hitc4 (fun K hK => ?resttc4) AllReadyH.nil
                case hitc4 => (simp only [List.getElem?_toArray, List.getElem?_cons_succ, List.getElem?_cons_zero]; exact rfl)
                go_simp
                go_at_call 27; refine (hR1.out w10 HT10.out.1 _).mono ?_; rintro e w11 ⟨rfl, n15, rfl⟩
                go_wp2_with fail
                refine hK.out _ _ ?_ (fun hHeld2 => ?_)
                · exact HS10.out
                clear hK K hHeld
                rename _ => hHeld
                try simp only [Act.put, List.setIfInBounds_toArray, List.set_cons_zero, List.set_cons_succ]
                refine wpAnyH_take (i := 45) (oi := ?oot45) (v := ?vvt45) ?hit45 (by kernel_rfl) (by kernel_rfl) (by kernel_rfl) ?hqt45 ?hyt45 (by assumption) ?restt45
                case hit45 => (simp only [List.getElem?_toArray, List.getElem?_cons_succ, List.getElem?_cons_zero]; exact rfl)
                case hyt45 => (refine Or.inl ⟨by rfl, ?_⟩; intro w hSw; (try dsimp only at hSw); go_simp; try with_reducible rfl)
                case hqt45 => exact fun _ _ _ h => h
                try simp only [Act.put, List.setIfInBounds_toArray, List.set_cons_zero, List.set_cons_succ]
                refine wpAnyH_take (i := 46) (oi := ?oot46) (v := ?vvt46) ?hit46 (by kernel_rfl) (by kernel_rfl) (by kernel_rfl) ?hqt46 ?hyt46 (by assumption) ?restt46
                case hit46 => (simp only [List.getElem?_toArray, List.getElem?_cons_succ, List.getElem?_cons_zero]; exact rfl)
                case hyt46 => (refine Or.inl ⟨by rfl, ?_⟩; intro w hSw; (try dsimp only at hSw); go_simp; try with_reducible rfl)
                case hqt46 => exact fun _ _ _ h => h
                try simp only [Act.put, List.setIfInBounds_toArray, List.set_cons_zero, List.set_cons_succ]
                refine wpAnyH_take (i := 47) (oi := ?oot47) (v := ?vvt47) ?hit47 (by kernel_rfl) (by kernel_rfl) (by kernel_rfl) ?hqt47 ?hyt47 (by assumption) ?restt47
                case hit47 => (simp only [List.getElem?_toArray, List.getElem?_cons_succ, List.getElem?_cons_zero]; exact rfl)
                case hyt47 => (refine Or.inl ⟨by rfl, ?_⟩; intro w hSw; (try dsimp only at hSw); go_simp; try with_reducible rfl)
                case hqt47 => exact fun _ _ _ h => h
                try simp only [Act.put, List.setIfInBounds_toArray, List.set_cons_zero, List.set_cons_succ]
                refine wpAnyH_take (i := 48) (oi := ?oot48) (v := ?vvt48) ?hit48 (by kernel_rfl) (by kernel_rfl) (by kernel_rfl) ?hqt48 ?hyt48 (by assumption) ?restt48
                case hit48 => (simp only [List.getElem?_toArray, List.getElem?_cons_succ, List.getElem?_cons_zero]; exact rfl)
                case hyt48 => (refine Or.inl ⟨by rfl, ?_⟩; intro w hSw; (try dsimp only at hSw); go_simp; try with_reducible rfl)
                case hqt48 => exact fun _ _ _ h => h
                try simp only [Act.put, List.setIfInBounds_toArray, List.set_cons_zero, List.set_cons_succ]
                refine wpAnyH_take (i := 49) (oi := ?oot49) (v := ?vvt49) ?hit49 (by kernel_rfl) (by kernel_rfl) (by kernel_rfl) ?hqt49 ?hyt49 (by assumption) ?restt49
                case hit49 => (simp only [List.getElem?_toArray, List.getElem?_cons_succ, List.getElem?_cons_zero]; exact rfl)
                case hyt49 => (refine Or.inl ⟨by rfl, ?_⟩; intro w hSw; (try dsimp only at hSw); go_simp; try with_reducible rfl)
                case hqt49 => exact fun _ _ _ h => h
                try simp only [Act.put, List.setIfInBounds_toArray, List.set_cons_zero, List.set_cons_succ]
                refine wpAnyH_take (i := 50) (oi := ?oot50) (v := ?vvt50) ?hit50 (by kernel_rfl) (by kernel_rfl) (by kernel_rfl) ?hqt50 ?hyt50 (by assumption) ?restt50
                case hit50 => (simp only [List.getElem?_toArray, List.getElem?_cons_succ, List.getElem?_cons_zero]; exact rfl)
                case hyt50 => (refine Or.inl ⟨by rfl, ?_⟩; intro w hSw; (try dsimp only at hSw); go_simp; try with_reducible rfl)
                case hqt50 => exact fun _ _ _ h => h
                try simp only [Act.put, List.setIfInBounds_toArray, List.set_cons_zero, List.set_cons_succ]
                refine wpAnyH_take (i := 51) (oi := ?oot51) (v := ?vvt51) ?hit51 (by kernel_rfl) (by kernel_rfl) (by kernel_rfl) ?hqt51 ?hyt51 (by assumption) ?restt51
                case hit51 => (simp only [List.getElem?_toArray, List.getElem?_cons_succ, List.getElem?_cons_zero]; exact rfl)
                case hyt51 => (refine Or.inl ⟨by rfl, ?_⟩; intro w hSw; (try dsimp only at hSw); go_simp; try with_reducible rfl)
                case hqt51 => exact fun _ _ _ h => h
                try simp only [Act.put, List.setIfInBounds_toArray, List.set_cons_zero, List.set_cons_succ]
                refine wpAnyH_take (i := 52) (oi := ?oot52) (v := ?vvt52) ?hit52 (by kernel_rfl) (by kernel_rfl) (by kernel_rfl) ?hqt52 ?hyt52 (by assumption) ?restt52
                case hit52 => (simp only [List.getElem?_toArray, List.getElem?_cons_succ, List.getElem?_cons_zero]; exact rfl)
                case hyt52 => (refine Or.inl ⟨by rfl, ?_⟩; intro w hSw; (try dsimp only at hSw); go_simp; try with_reducible rfl)
                case hqt52 => exact fun _ _ _ h => h
                try simp only [Act.put, List.setIfInBounds_toArray, List.set_cons_zero, List.set_cons_succ]
                refine wpAnyH_take (i := 53) (oi := ?oot53) (v := ?vvt53) ?hit53 (by kernel_rfl) (by kernel_rfl) (by kernel_rfl) ?hqt53 ?hyt53 (by assumption) ?restt53
                case hit53 => (simp only [List.getElem?_toArray, List.getElem?_cons_succ, List.getElem?_cons_zero]; exact rfl)
                case hyt53 => (refine Or.inl ⟨by rfl, ?_⟩; intro w hSw; (try dsimp only at hSw); go_simp; try with_reducible rfl)
                case hqt53 => exact fun _ _ _ h => h
                try simp only [Act.put, List.setIfInBounds_toArray, List.set_cons_zero, List.set_cons_succ]
                refine wpAnyH_take (i := 54) (oi := ?oot54) (v := ?vvt54) ?hit54 (by kernel_rfl) (by kernel_rfl) (by kernel_rfl) ?hqt54 ?hyt54 (by assumption) ?restt54
                case hit54 => (simp only [List.getElem?_toArray, List.getElem?_cons_succ, List.getElem?_cons_zero]; exact rfl)
                case hyt54 => (refine Or.inl ⟨by rfl, ?_⟩; intro w hSw; (try dsimp only at hSw); go_simp; try with_reducible rfl)
                case hqt54 => exact fun _ _ _ h => h
                try simp only [Act.put, List.setIfInBounds_toArray, List.set_cons_zero, List.set_cons_succ]
                refine wpAnyH_take (i := 55) (oi := ?oot55) (v := ?vvt55) ?hit55 (by kernel_rfl) (by kernel_rfl) (by kernel_rfl) ?hqt55 ?hyt55 (by assumption) ?restt55
                case hit55 => (simp only [List.getElem?_toArray, List.getElem?_cons_succ, List.getElem?_cons_zero]; exact rfl)
                case hyt55 => (refine Or.inl ⟨by rfl, ?_⟩; intro w hSw; (try dsimp only at hSw); go_simp; try with_reducible rfl)
                case hqt55 => exact fun _ _ _ h => h
                try simp only [Act.put, List.setIfInBounds_toArray, List.set_cons_zero, List.set_cons_succ]
                refine wpAnyH_take (i := 57) (oi := ?oot57) (v := ?vvt57) ?hit57 (by kernel_rfl) (by kernel_rfl) (by kernel_rfl) ?hqt57 ?hyt57 (by assumption) ?restt57
                case hit57 => (simp only [List.getElem?_toArray, List.getElem?_cons_succ, List.getElem?_cons_zero]; exact rfl)
                case hyt57 => (refine Or.inl ⟨by rfl, ?_⟩; intro w hSw; (try dsimp only at hSw); go_simp; try with_reducible rfl)
                case hqt57 => exact fun _ _ _ h => h
                try simp only [Act.put, List.setIfInBounds_toArray, List.set_cons_zero, List.set_cons_succ]
                refine wpAnyH_take (i := 58) (oi := ?oot58) (v := ?vvt58) ?hit58 (by kernel_rfl) (by kernel_rfl) (by kernel_rfl) ?hqt58 ?hyt58 (by assumption) ?restt58
                case hit58 => (simp only [List.getElem?_toArray, List.getElem?_cons_succ, List.getElem?_cons_zero]; exact rfl)
                case hyt58 => (refine Or.inl ⟨by rfl, ?_⟩; intro w hSw; (try dsimp only at hSw); go_simp; try with_reducible rfl)
                case hqt58 => exact fun _ _ _ h => h
                try simp only [Act.put, List.setIfInBounds_toArray, List.set_cons_zero, List.set_cons_succ]
                refine wpAnyH_take (i := 59) (oi := ?oot59) (v := ?vvt59) ?hit59 (by kernel_rfl) (by kernel_rfl) (by kernel_rfl) ?hqt59 ?hyt59 (by assumption) ?restt59
                case hit59 => (simp only [List.getElem?_toArray, List.getElem?_cons_succ, List.getElem?_cons_zero]; exact rfl)
                case hyt59 => (refine Or.inl ⟨by rfl, ?_⟩; intro w hSw; (try dsimp only at hSw); go_simp; try with_reducible rfl)
                case hqt59 => exact fun _ _ _ h => h
                try simp only [Act.put, List.setIfInBounds_toArray, List.set_cons_zero, List.set_cons_succ]
                refine wpAnyH_take (i := 60) (oi := ?oot60) (v := ?vvt60) ?hit60 (by kernel_rfl) (by kernel_rfl) (by kernel_rfl) ?hqt60 ?hyt60 (by assumption) ?restt60
                case hit60 => (simp only [List.getElem?_toArray, List.getElem?_cons_succ, List.getElem?_cons_zero]; exact rfl)
                case hyt60 => (refine Or.inl ⟨by rfl, ?_⟩; intro w hSw; (try dsimp only at hSw); go_simp; try with_reducible rfl)
                case hqt60 => exact fun _ _ _ h => h
                try simp only [Act.put, List.setIfInBounds_toArray, List.set_cons_zero, List.set_cons_succ]
                refine wpAnyH_take (i := 61) (oi := ?oot61) (v := ?vvt61) ?hit61 (by kernel_rfl) (by kernel_rfl) (by kernel_rfl) ?hqt61 ?hyt61 (by assumption) ?restt61
                case hit61 => (simp only [List.getElem?_toArray, List.getElem?_cons_succ, List.getElem?_cons_zero]; exact rfl)
                case hyt61 => (refine Or.inl ⟨by rfl, ?_⟩; intro w hSw; (try dsimp only at hSw); go_simp; try with_reducible rfl)
                case hqt61 => exact fun _ _ _ h => h
                try simp only [Act.put, List.setIfInBounds_toArray, List.set_cons_zero, List.set_cons_succ]
                refine wpAnyH_take (i := 62) (oi := ?oot62) (v := ?vvt62) ?hit62 (by kernel_rfl) (by kernel_rfl) (by kernel_rfl) ?hqt62 ?hyt62 (by assumption) ?restt62
                case hit62 => (simp only [List.getElem?_toArray, List.getElem?_cons_succ, List.getElem?_cons_zero]; exact rfl)
                case hyt62 => (refine Or.inl ⟨by rfl, ?_⟩; intro w hSw; (try dsimp only at hSw); go_simp; try with_reducible rfl)
                case hqt62 => exact fun _ _ _ h => h
                try simp only [Act.put, List.setIfInBounds_toArray, List.set_cons_zero, List.set_cons_succ]
                refine wpAnyH_take (i := 63) (oi := ?oot63) (v := ?vvt63) ?hit63 (by kernel_rfl) (by kernel_rfl) (by kernel_rfl) ?hqt63 ?hyt63 (by assumption) ?restt63
                case hit63 => (simp only [List.getElem?_toArray, List.getElem?_cons_succ, List.getElem?_cons_zero]; exact rfl)
                case hyt63 => (refine Or.inl ⟨by rfl, ?_⟩; intro w hSw; (try dsimp only at hSw); go_simp; try with_reducible rfl)
                case hqt63 => exact fun _ _ _ h => h
                try simp only [Act.put, List.setIfInBounds_toArray, List.set_cons_zero, List.set_cons_succ]
                refine wpAnyH_take (i := 64) (oi := ?oot64) (v := ?vvt64) ?hit64 (by kernel_rfl) (by kernel_rfl) (by kernel_rfl) ?hqt64 ?hyt64 (by assumption) ?restt64
                case hit64 => (simp only [List.getElem?_toArray, List.getElem?_cons_succ, List.getElem?_cons_zero]; exact rfl)
                case hyt64 => (refine Or.inl ⟨by rfl, ?_⟩; intro w hSw; (try dsimp only at hSw); go_simp; try with_reducible rfl)
                case hqt64 => exact fun _ _ _ h => h
                try simp only [Act.put, List.setIfInBounds_toArray, List.set_cons_zero, List.set_cons_succ]
                refine wpAnyH_ready (rs := [56]) (by kernel_rfl) (by simp) ?_
                refine AllReadyH.cons (o := ?ootc5) ?hitc5 (fun K hK => ?resttc5) AllReadyH.nil
                case hitc5 => (simp only [List.getElem?_toArray, List.getElem?_cons_succ, List.getElem?_cons_zero]; exact rfl)
                go_simp
                go_at_call 22; refine (hSa.out w10 HT10.out.1 _).mono ?_; rintro e w11 ⟨rfl, n12, rfl⟩
                go_wp2_with fail
                refine hK.out _ _ ?_ (fun hHeld2 => ?_)
                · exact HS10.out
                clear hK K hHeld
                rename _ => hHeld
                try simp only [Act.put, List.setIfInBounds_toArray, List.set_cons_zero, List.set_cons_succ]
                refine wpAnyH_ready (rs := [65]) (by kernel_rfl) (by simp) ?_
                refine AllReadyH.cons (o := ?ootc6) ?hitc6 (fun K hK => ?resttc6) AllReadyH.nil
                case hitc6 => (simp only [List.getElem?_toArray, List.getElem?_cons_succ, List.getElem?_cons_zero]; exact rfl)
                go_simp
                go_at_call 27; refine (hR1.out w10 HT10.out.1 _).mono ?_; rintro e w11 ⟨rfl, n13, rfl⟩
                go_wp2_with fail
                refine hK.out _ _ ?_ (fun hHeld2 => ?_)
                · exact HS10.out
                clear hK K hHeld
                rename _ => hHeld
                try simp only [Act.put, List.setIfInBounds_toArray, List.set_cons_zero, List.set_cons_succ]
                refine wpAnyH_take (i := 66) (oi := ?oot66) (v := ?vvt66) ?hit66 (by kernel_rfl) (by kernel_rfl) (by kernel_rfl) ?hqt66 ?hyt66 (by assumption) ?restt66
                case hit66 => (simp only [List.getElem?_toArray, List.getElem?_cons_succ, List.getElem?_cons_zero]; exact rfl)
                case hyt66 => (refine Or.inl ⟨by rfl, ?_⟩; intro w hSw; (try dsimp only at hSw); go_simp; try with_reducible rfl)
                case hqt66 => exact fun _ _ _ h => h
                try simp only [Act.put, List.setIfInBounds_toArray, List.set_cons_zero, List.set_cons_succ]
                refine wpAnyH_take (i := 67) (oi := ?oot67) (v := ?vvt67) ?hit67 (by kernel_rfl) (by kernel_rfl) (by kernel_rfl) ?hqt67 ?hyt67 (by assumption) ?restt67
                case hit67 => (simp only [List.getElem?_toArray, List.getElem?_cons_succ, List.getElem?_cons_zero]; exact rfl)
                case hyt67 => (refine Or.inl ⟨by rfl, ?_⟩; intro w hSw; (try dsimp only at hSw); go_simp; try with_reducible rfl)
                case hqt67 => exact fun _ _ _ h => h
                try simp only [Act.put, List.setIfInBounds_toArray, List.set_cons_zero, List.set_cons_succ]
                refine wpAnyH_take (i := 68) (oi := ?oot68) (v := ?vvt68) ?hit68 (by kernel_rfl) (by kernel_rfl) (by kernel_rfl) ?hqt68 ?hyt68 (by assumption) ?restt68
                case hit68 => (simp only [List.getElem?_toArray, List.getElem?_cons_succ, List.getElem?_cons_zero]; exact rfl)
                case hyt68 => (refine Or.inl ⟨by rfl, ?_⟩; intro w hSw; (try dsimp only at hSw); go_simp; try with_reducible rfl)
                case hqt68 => exact fun _ _ _ h => h
                try simp only [Act.put, List.setIfInBounds_toArray, List.set_cons_zero, List.set_cons_succ]
                refine wpAnyH_take (i := 69) (oi := ?oot69) (v := ?vvt69) ?hit69 (by kernel_rfl) (by kernel_rfl) (by kernel_rfl) ?hqt69 ?hyt69 (by assumption) ?restt69
                case hit69 => (simp only [List.getElem?_toArray, List.getElem?_cons_succ, List.getElem?_cons_zero]; exact rfl)
                case hyt69 => (refine Or.inl ⟨by rfl, ?_⟩; intro w hSw; (try dsimp only at hSw); go_simp; try with_reducible rfl)
                case hqt69 => exact fun _ _ _ h => h
                try simp only [Act.put, List.setIfInBounds_toArray, List.set_cons_zero, List.set_cons_succ]
                refine wpAnyH_take (i := 70) (oi := ?oot70) (v := ?vvt70) ?hit70 (by kernel_rfl) (by kernel_rfl) (by kernel_rfl) ?hqt70 ?hyt70 (by assumption) ?restt70
                case hit70 => (simp only [List.getElem?_toArray, List.getElem?_cons_succ, List.getElem?_cons_zero]; exact rfl)
                case hyt70 => (refine Or.inl ⟨by rfl, ?_⟩; intro w hSw; (try dsimp only at hSw); go_simp; try with_reducible rfl)
                case hqt70 => exact fun _ _ _ h => h
                try simp only [Act.put, List.setIfInBounds_toArray, List.set_cons_zero, List.set_cons_succ]
                refine wpAnyH_take (i := 71) (oi := ?oot71) (v := ?vvt71) ?hit71 (by kernel_rfl) (by kernel_rfl) (by kernel_rfl) ?hqt71 ?hyt71 (by assumption) ?restt71
                case hit71 => (simp only [List.getElem?_toArray, List.getElem?_cons_succ, List.getElem?_cons_zero]; exact rfl)
                case hyt71 => (refine Or.inl ⟨by rfl, ?_⟩; intro w hSw; (try dsimp only at hSw); go_simp; try with_reducible rfl)
                case hqt71 => exact fun _ _ _ h => h
                try simp only [Act.put, List.setIfInBounds_toArray, List.set_cons_zero, List.set_cons_succ]
                refine wpAnyH_take (i := 72) (oi := ?oot72) (v := ?vvt72) ?hit72 (by kernel_rfl) (by kernel_rfl) (by kernel_rfl) ?hqt72 ?hyt72 (by assumption) ?restt72
                case hit72 => (simp only [List.getElem?_toArray, List.getElem?_cons_succ, List.getElem?_cons_zero]; exact rfl)
                case hyt72 => (refine Or.inl ⟨by rfl, ?_⟩; intro w hSw; (try dsimp only at hSw); go_simp; try with_reducible rfl)
                case hqt72 => exact fun _ _ _ h => h
                try simp only [Act.put, List.setIfInBounds_toArray, List.set_cons_zero, List.set_cons_succ]
                refine wpAnyH_take (i := 73) (oi := ?oot73) (v := ?vvt73) ?hit73 (by kernel_rfl) (by kernel_rfl) (by kernel_rfl) ?hqt73 ?hyt73 (by assumption) ?restt73
                case hit73 => (simp only [List.getElem?_toArray, List.getElem?_cons_succ, List.getElem?_cons_zero]; exact rfl)
                case hyt73 => (refine Or.inl ⟨by rfl, ?_⟩; intro w hSw; (try dsimp only at hSw); go_simp; try with_reducible rfl)
                case hqt73 => exact fun _ _ _ h => h
                try simp only [Act.put, List.setIfInBounds_toArray, List.set_cons_zero, List.set_cons_succ]
                refine wpAnyH_take (i := 74) (oi := ?oot74) (v := ?vvt74) ?hit74 (by kernel_rfl) (by kernel_rfl) (by kernel_rfl) ?hqt74 ?hyt74 (by assumption) ?restt74
                case hit74 => (simp only [List.getElem?_toArray, List.getElem?_cons_succ, List.getElem?_cons_zero]; exact rfl)
                case hyt74 => (refine Or.inl ⟨by rfl, ?_⟩; intro w hSw; (try dsimp only at hSw); go_simp; try with_reducible rfl)
                case hqt74 => exact fun _ _ _ h => h
                try simp only [Act.put, List.setIfInBounds_toArray, List.set_cons_zero, List.set_cons_succ]
                refine wpAnyH_ready (rs := [75]) (by kernel_rfl) (by simp) ?_
                refine AllReadyH.cons (o := ?ootc75) ?hitc75 (fun K hK => ?resttc75) AllReadyH.nil
                case hitc75 => (simp only [List.getElem?_toArray, List.getElem?_cons_succ, List.getElem?_cons_zero]; exact rfl)
                go_simp
                go_at_call 27; refine (hR2.out w10 HT10.out.1 _).mono ?_; rintro e w11 ⟨rfl, n14, rfl⟩
                go_wp2_with fail
                refine hK.out _ _ ?_ (fun hHeld2 => ?_)
                · exact HS10.out
                clear hK K hHeld
                rename _ => hHeld
                try simp only [Act.put, List.setIfInBounds_toArray, List.set_cons_zero, List.set_cons_succ]
                refine wpAnyH_take (i := 76) (oi := ?oot76) (v := ?vvt76) ?hit76 (by kernel_rfl) (by kernel_rfl) (by kernel_rfl) ?hqt76 ?hyt76 (by assumption) ?restt76
                case hit76 => (simp only [List.getElem?_toArray, List.getElem?_cons_succ, List.getElem?_cons_zero]; exact rfl)
                case hyt76 => (refine Or.inl ⟨by rfl, ?_⟩; intro w hSw; (try dsimp only at hSw); go_simp; try with_reducible rfl)
                case hqt76 => exact fun _ _ _ h => h
                try simp only [Act.put, List.setIfInBounds_toArray, List.set_cons_zero, List.set_cons_succ]
                refine wpAnyH_take (i := 77) (oi := ?oot77) (v := ?vvt77) ?hit77 (by kernel_rfl) (by kernel_rfl) (by kernel_rfl) ?hqt77 ?hyt77 (by assumption) ?restt77
                case hit77 => (simp only [List.getElem?_toArray, List.getElem?_cons_succ, List.getElem?_cons_zero]; exact rfl)
                case hyt77 => (refine Or.inl ⟨by rfl, ?_⟩; intro w hSw; (try dsimp only at hSw); go_simp; try with_reducible rfl)
                case hqt77 => exact fun _ _ _ h => h
                try simp only [Act.put, List.setIfInBounds_toArray, List.set_cons_zero, List.set_cons_succ]
                refine wpAnyH_take (i := 78) (oi := ?oot78) (v := ?vvt78) ?hit78 (by kernel_rfl) (by kernel_rfl) (by kernel_rfl) ?hqt78 ?hyt78 (by assumption) ?restt78
                case hit78 => (simp only [List.getElem?_toArray, List.getElem?_cons_succ, List.getElem?_cons_zero]; exact rfl)
                case hyt78 => (refine Or.inl ⟨by rfl, ?_⟩; intro w hSw; (try dsimp only at hSw); go_simp; try with_reducible rfl)
                case hqt78 => exact fun _ _ _ h => h
                try simp only [Act.put, List.setIfInBounds_toArray, List.set_cons_zero, List.set_cons_succ]
                refine wpAnyH_done (by kernel_rfl) ?_ _
                all_goals
                  go_wp2
                  go_roundw
                  case rel =>
                    first
                      | exact ⟨k + 1, s8, by omega, by simp, HT10.out.1.drewN _, below_drewN (((below_drewN hB8'.out 1).trans HT9.out.2.1).trans HT10.out.2.1) _⟩
                      | ((repeat apply Exists.intro); exact ⟨⟨by omega, by simp, HT10.out.1.drewN _, below_drewN (((below_drewN hB8'.out 1).trans HT9.out.2.1).trans HT10.out.2.1) _⟩, rfl⟩)
                  case measure => simp [intOf]; omega
        · obtain rfl : k = sc.length := by omega
          clear hpi
          go_wp2
          go_ret
          exact ⟨rfl, hbw⟩
end Go.Proofs.YthfapneifbjlmaaDoor
end

section
namespace Go.Proofs.YthfapneifbjlmaaDoor.bitsPlay
open Go.ChangeShapes Go.WideShapes Go.ChangeAt Go.RowKit
set_option linter.unusedVariables false

theorem own : ownKnob Tryd.prog.godebug = none := by kernel_rfl
theorem laidOut : laidOutB Tryd.prog = true := by kernel_rfl
theorem gTab : Tryd.prog.globalNamed "math/bits.deBruijn64tab" = some 0 := by kernel_rfl
theorem gTabType : (Tryd.prog.globals[0]?).map (·.type) = some 85 := by kernel_rfl
theorem cells3 : Tryd.prog.cellsOf 3 = 1 := by kernel_rfl
theorem cells85 : Tryd.prog.cellsOf 85 = 64 := by kernel_rfl
theorem cells5 : Tryd.prog.cellsOf 5 = 1 := by kernel_rfl
theorem table {W : World} (h : laidMetH Tryd.prog Rows.bitsPlayUptoRow.laid W) : Lib.TabIs Tryd.prog W "math/bits.deBruijn64tab" .u8 (Lib.deBruijn64tab.map fun x : Nat => (x : Int)) :=
  Lib.tabIs_of_head (rest := []) gTab gTabType Tryd.underlying85 Tryd.underlying5 cells5 cells85 h
theorem tab {W : World} (h : laidMetH Tryd.prog Rows.bitsPlayUptoRow.laid W) : Tab W := fun j hj => by
  have := (table h).cell gTab j (by simpa [Lib.deBruijn64tab] using hj)
  rw [this]
  simp only [List.getD_eq_getElem?_getD, List.getElem?_map]
  cases Lib.deBruijn64tab[j]? <;> rfl

theorem bulk_lits {H : Type} (k : IntKind) (zs : List Int) : Rows.uptoBulkAll (lits (H := H) k zs) = zs.length := by
  induction zs with
  | nil => rfl
  | cons z zs ih => simp only [lits, List.map_cons, Rows.uptoBulkAll, Rows.uptoBulk] at ih ⊢; rw [ih]; simp; omega
section
open Go.Deep
variable {H : Type} {enc : TypeId × Value → H} {P : Program} {w : World} {base : Nat} {spare : Nat → Bool} {held : Bool}
theorem open_slice_fields {t e : TypeId} {fs : Array Field} {fuel : Nat} {cs : List Value} {x : DataW H × List MemPlace} (ht : P.underlying t = some (.slice e)) (he : P.underlying e = some (.struct fs))
    (hone : oneCellFields P fs = true) (hC : P.cellsOf e = fs.size) (h : DataW.trod enc P w base spare held fuel t cs = some x) :
    (cs = [.slice none 0 0] ∧ x = (.nil, [])) ∨
    ∃ (a : Addr) (len cap m : Nat) (D : Nat → DataW H) (Pl : Nat → List MemPlace), cs = [.slice (some a) len cap] ∧ base ≤ a.block ∧ len ≤ cap ∧ cap ≤ maxLen ∧ m = (if spare a.block then cap else len) ∧
      x = (.slice ((List.range len).map D) ((List.range (m - len)).map fun j => D (len + j)), MemPlace.row a (m * fs.size) ++ (List.range m).flatMap Pl) ∧
      ∀ i, i < m → ∃ (ys : List (DataW H × List MemPlace)) (n : Nat), D i = .agg (ys.map (·.1)) ∧ Pl i = ys.flatMap (·.2) ∧ ys.length = fs.size ∧
        ∀ (j : Nat) (f : Field), fs[j]? = some f → ∃ (v : Value) (y : DataW H × List MemPlace), w.cell? (a.add (i * fs.size + j)) = some v ∧ ys[j]? = some y ∧ DataW.trod enc P w base spare held n f.type [v] = some y := by
  rcases open_slice ht h with h0 | ⟨a, len, cap, m, n, D, Pl, hcs, hb, hl, hm, hmm, hx, hi⟩
  · exact .inl h0
  · refine .inr ⟨a, len, cap, m, D, Pl, hcs, hb, hl, hm, hmm, by rw [hC] at hx; exact hx, fun i him => ?_⟩
    obtain ⟨cs', hc, ht'⟩ := hi i him
    rw [hC] at hc
    obtain ⟨ys, n', hn', hy, hlen, hyl, hf⟩ := DataW.trod_struct he ht'
    obtain ⟨_, hcl, hat⟩ := World.cells?_some hc
    simp only [Prod.mk.injEq] at hy
    refine ⟨ys, n', hy.1, hy.2, hyl, fun j f hj => ?_⟩
    obtain ⟨ho, hk⟩ := hone_of hone j f hj
    have hjl : j < fs.size := (Array.getElem?_eq_some_iff.1 hj).1
    have hcell := hat j hjl
    have hv : cs'[j]? = some (cs'[j]'(by omega)) := List.getElem?_eq_getElem (by omega)
    have h1 := hf j f hj
    rw [ho, hk] at h1
    have hone' : (cs'.drop j).take 1 = [cs'[j]'(by omega)] := by
      rw [List.drop_eq_getElem_cons (by omega)]
      rfl
    rw [hone'] at h1
    have hys : ys[j]? = some (ys[j]'(by omega)) := List.getElem?_eq_getElem (by omega)
    refine ⟨_, _, ?_, hys, h1.trans hys⟩
    rw [← Go.Deep.add_add, hcell, hv]
end
theorem bulk_one {H : Type} (d : DataW H) : 1 ≤ Rows.uptoBulk d := by
  cases d with
  | lit l => cases l <;> simp [Rows.uptoBulk]
  | _ => simp [Rows.uptoBulk]
theorem bulk_len {H : Type} : ∀ l : List (DataW H), l.length ≤ Rows.uptoBulkAll l
  | [] => Nat.zero_le _
  | d :: l => by
    have := bulk_len l
    have := bulk_one d
    simp only [Rows.uptoBulkAll, List.length_cons]; omega
theorem list_of {α : Type} {P : Nat → α → Prop} : ∀ n, (∀ i, i < n → ∃ x, P i x) → ∃ l : List α, l.length = n ∧ ∀ i, i < n → ∃ x, l[i]? = some x ∧ P i x
  | 0, _ => ⟨[], rfl, fun i h => absurd h (Nat.not_lt_zero _)⟩
  | n + 1, h => by
    obtain ⟨l, hl, hp⟩ := list_of n (fun i hi => h i (by omega))
    obtain ⟨x, hx⟩ := h n (by omega)
    refine ⟨l ++ [x], by simp [hl], fun i hi => ?_⟩
    by_cases hin : i < n
    · obtain ⟨y, hy, hpy⟩ := hp i hin
      exact ⟨y, by rw [List.getElem?_append_left (by omega)]; exact hy, hpy⟩
    · obtain rfl : i = n := by omega
      exact ⟨x, by rw [List.getElem?_append_right (by omega)]; simp [hl], hx⟩
/-- A script that came in, opened. -/
theorem openedS {H : Type} {enc : TypeId × Value → H} {W : World} {a0 : Option Addr} {len cap : Nat} {d0 : DataW H} {p0 : List MemPlace} (h0 : DataW.Trod enc Tryd.prog W 0 (fun _ => true) true 57 (.slice a0 len cap) d0 p0) (hb : Rows.uptoBulk d0 ≤ 1048576) :
    ∃ sc, sc.length = len ∧ len ≤ 1048576 ∧ Scr W a0 sc := by
  obtain ⟨fuel, hf⟩ := h0
  rcases open_slice_fields Tryd.underlying57 Tryd.underlying62 (by kernel_rfl) (by kernel_rfl) hf with ⟨hcs, hx⟩ | ⟨a, len', cap', m, D, Pl, hcs, _, hl, hm, hmm, hx, hi⟩
  · simp [Value.cells] at hcs
    obtain ⟨rfl, rfl, rfl⟩ := hcs
    exact ⟨[], rfl, by omega, fun i hi => absurd hi (Nat.not_lt_zero _)⟩
  · simp [Value.cells] at hcs
    obtain ⟨rfl, rfl, rfl⟩ := hcs
    simp only [Prod.mk.injEq] at hx
    obtain ⟨rfl, rfl⟩ := hx
    simp only [if_true] at hmm
    have hb2 : len ≤ 1048576 := by
      simp only [Rows.uptoBulk] at hb
      have := bulk_len ((List.range len).map D)
      simp at this
      omega
    have key : ∀ i, i < len → ∃ x : Int × Int × Int × Bool, W.cell? (a.add (i * 4 + 0)) = some (.int .i64 x.1) ∧ W.cell? (a.add (i * 4 + 1)) = some (.int .i64 x.2.1) ∧ W.cell? (a.add (i * 4 + 2)) = some (.int .i64 x.2.2.1) ∧ W.cell? (a.add (i * 4 + 3)) = some (.bool x.2.2.2) := by
      intro i hil
      obtain ⟨ys, n, _, _, _, hfd⟩ := hi i (by omega)
      obtain ⟨v0, y0, c0, _, t0⟩ := hfd 0 _ rfl
      obtain ⟨v1, y1, c1, _, t1⟩ := hfd 1 _ rfl
      obtain ⟨v2, y2, c2, _, t2⟩ := hfd 2 _ rfl
      obtain ⟨v3, y3, c3, _, t3⟩ := hfd 3 _ rfl
      obtain ⟨x0, e0, _, _⟩ := DataW.trod_int Tryd.underlying3 t0
      obtain ⟨x1, e1, _, _⟩ := DataW.trod_int Tryd.underlying3 t1
      obtain ⟨x2, e2, _, _⟩ := DataW.trod_int Tryd.underlying3 t2
      obtain ⟨x3, e3, _⟩ := DataW.trod_bool Tryd.underlying4 t3
      simp only [List.cons.injEq, and_true] at e0 e1 e2 e3
      subst e0 e1 e2 e3
      exact ⟨(x0, x1, x2, x3), c0, c1, c2, c3⟩
    obtain ⟨sc, hsl, hsp⟩ := list_of len key
    refine ⟨sc, hsl, hb2, fun i hil => ?_⟩
    obtain ⟨x, h1, h2⟩ := hsp i (by omega)
    exact ⟨a, x, rfl, h1, h2⟩
theorem contract (H : Type) (enc : TypeId × Value → H) (W : World) (base : Nat) (args : Array Value) (ds gs : List (DataW H)) (before : List MemPlace)
    (hval : ∀ (j : Nat) t v, Tryd.f7.params[j]? = some t → args[j]? = some v → Value.okWide Tryd.prog W .any base t v)
    (hW : DataW.Whole enc Tryd.prog Tryd.f7.params.toList Rows.bitsPlaySpec.vars false W args.toList ds gs before) (hC : Rows.uptoSmall H (ds ++ gs) = true) (hL : laidMetH Tryd.prog Rows.bitsPlayUptoRow.laid W) :
    Calls Tryd.prog 7 args W fun e W' => ∃ v, e = .returned v ∧ Rows.bitsPlaySpec.post enc Tryd.prog Tryd.f7 false true false false W args v W' := by
  have hW' := hW
  obtain ⟨p, q, hA0, hV, rfl, hfz, hnd⟩ := hW
  have hA : DataW.TrodAll enc Tryd.prog W 0 (fun _ => true) true Tryd.f7.params.toList args.toList ds p := hA0
  rw [Tryd.params7] at hA hval
  obtain ⟨v0, vs0, d0, ds0, p0, q0, hargs, rfl, rfl, h0, r0⟩ := trodAll_cons hA
  obtain ⟨v1, vs1, d1, ds1, p1, q1, rfl, rfl, rfl, h1, r1⟩ := trodAll_cons r0
  obtain ⟨v2, vs2, d2, ds2, p2, q2, rfl, rfl, rfl, h2, r2⟩ := trodAll_cons r1
  obtain ⟨rfl, rfl, rfl⟩ := trodAll_nil r2
  obtain rfl : args = #[v0, v1, v2] := by cases args; simp_all
  obtain ⟨rfl, rfl⟩ := trodVars_none hV
  obtain ⟨a0, rfl, rfl, rfl, w0⟩ := open_int Tryd.underlying3 (hval 0 3 v0 rfl rfl) h0
  obtain ⟨a1, rfl, rfl, rfl, w1⟩ := open_int Tryd.underlying3 (hval 1 3 v1 rfl rfl) h1
  obtain ⟨a2, len2, cap2, rfl⟩ := okWide_slice Tryd.underlying57 (hval 2 57 v2 rfl rfl)
  clear hA0
  simp only [List.append_nil, List.nil_append] at hW'
  have hlt : ∀ x ∈ p2, x.block < W.heap.size := fun x hx => by simpa using hW'.lt x (by simpa using hx)
  have hbulk : Rows.uptoBulkAll ([.lit (.int .i64 a0), .lit (.int .i64 a1), d2] ++ ([] : List (DataW H))) ≤ 1048576 := of_decide_eq_true hC
  simp only [List.cons_append, List.nil_append, Rows.uptoBulkAll, Rows.uptoBulk] at hbulk
  obtain ⟨sc, rfl, hl2, hs2⟩ := openedS h2 (by omega)
  refine (BitsPlay_walk W (tab hL) a0 a1 a2 cap2 sc hs2 hl2).mono fun e W' ⟨he, bel⟩ => ?_
  subst he
  exact ⟨_, rfl, _, _, _, [], _, [], hW', trodAll_mk1 (shut_bool Tryd.underlying4 _),
    trodAll_cons_mk (shut_int Tryd.underlying3 w0) (trodAll_cons_mk (shut_int Tryd.underlying3 w1) (trodAll_cons_mk (Below.trod laidOut (by kernel_rfl) (of_decide_eq_true (by kernel_rfl)) h2 bel hlt) trodAll_mk0)), rfl, bel.frame _, fun h => by cases h⟩

/-- A world for the witness: the settled one, the table (block 0) holding what its initialiser lays. -/
noncomputable def laidWorld (os : Os) : World :=
  { World.holding Tryd.prog os ⟨#[], #[], []⟩ with heap := (World.holding Tryd.prog os ⟨#[], #[], []⟩).heap.modify 0 fun
      | .cells _ t frozen => .cells (Lib.deBruijn64tab.map fun x : Nat => Value.int .u8 x).toArray t frozen
      | o => o }
theorem laid_met (os : Os) : laidMet Tryd.prog Rows.bitsPlayUptoRow.laid ((laidWorld os).forCall (fun _ _ => 0) ⟨#[], #[.int .i64 0, .int .i64 0, .slice none 0 0], []⟩).memory :=
  laidMet_of_run' 8 (by kernel_rfl) (by kernel_rfl)
theorem reads (os : Os) {H : Type} (enc : TypeId × Value → H) : ∃ places, DataW.whole enc Tryd.prog ((laidWorld os).forCall (fun _ _ => 0) ⟨#[], #[.int .i64 0, .int .i64 0, .slice none 0 0], []⟩).memory Tryd.f7.params.toList Rows.bitsPlaySpec.vars false #[Value.int .i64 0, .int .i64 0, .slice none 0 0].toList 8 = some ([.lit (.int .i64 0), .lit (.int .i64 0), .nil], [], places) :=
  ⟨[], by kernel_rfl⟩

set_option maxRecDepth 100000 in
theorem liftedUpto (os : Os) (started : os.Started) (H : Type) (enc : TypeId × Value → H) (F : Stop.Interp) :
    ReturnsInHanded {} Tryd.checked os 7 .any ((Rows.OpenSpec.upto Rows.bitsPlaySpec).preRow enc Tryd.prog Tryd.f7 Rows.bitsPlayUptoRow.domain false Rows.bitsPlayUptoRow.laid) (((Rows.OpenSpec.upto Rows.bitsPlaySpec).at F).post enc Tryd.prog Tryd.f7 false true false false) := by
  obtain ⟨places, hx⟩ := reads os enc
  refine returnsInHanded_of_row (C := Tryd.checked) (s := Rows.OpenSpec.upto Rows.bitsPlaySpec) own started (by kernel_rfl) Tryd.func7
    (witness_row_at (enc := enc) (C := Tryd.checked) false (laidWorld os) #[.int .i64 0, .int .i64 0, .slice none 0 0] rfl (by kernel_rfl) (by kernel_rfl) (by kernel_rfl)
      (OpenSpec.preRow_of_cond 8 hx (by kernel_rfl) (fun k hk => by cases hk; kernel_rfl) (by kernel_rfl) (laid_met os))) ?_
  intro W base args ds gs before hval hW _ hC _ hL _ _
  exact contract H enc W base args ds gs before hval hW (hC _ rfl) hL

theorem saidUpto : Rows.BitsPlayUptoSaid :=
  OpenClaim.holds_of_cond 7 Tryd.f7 rfl rfl rfl rfl rfl rfl rfl ⟨rfl, rfl, rfl, rfl, rfl⟩ rfl rfl rfl rfl rfl (by kernel_rfl) Tryd.func7 (by kernel_rfl)
    (of_decide_eq_true (by kernel_rfl)) (by unfold Func.isWrapper; first | (rw [if_pos (by decide +kernel)]; kernel_rfl) | (rw [if_neg (by decide +kernel)]; exact ⟨rfl, rfl⟩))
    (fun os started H enc _ F => by rw [OpenClaim.pre_eq_preRow]; exact liftedUpto os started H enc F)

theorem plain (f : FuncId) (fn : Func) (hf : Tryd.pinned.checked.prog.funcNamed "sextant/sextantlaw03.BitsPlay" = some f) (hfn : Tryd.pinned.checked.prog.funcs[f]? = some fn) :
    false = Tryd.pinned.checked.prog.looks [] ∧ ∀ (j : Nat) t, fn.params[j]? = some t → Tryd.pinned.checked.prog.wantsStandIn t = false := by
  obtain rfl : f = 7 := Option.some.inj ((show Tryd.prog.funcNamed "sextant/sextantlaw03.BitsPlay" = some 7 by kernel_rfl).symm.trans hf) |>.symm
  obtain rfl : fn = Tryd.f7 := (Option.some.inj (Tryd.func7.symm.trans hfn)).symm
  refine ⟨by kernel_rfl, fun j t ht => ?_⟩
  rw [Tryd.params7] at ht
  have h : t = 3 ∨ t = 57 := by have := Array.mem_of_getElem? ht; simp at this; rcases this with h | h <;> simp [h]
  rcases h with rfl | rfl
  · exact (show Tryd.prog.wantsStandIn 3 = false by kernel_rfl)
  · exact (show Tryd.prog.wantsStandIn 57 = false by kernel_rfl)

theorem cardUpto : Rows.BitsPlayUptoCardSaid :=
  Claim7.holds_tied_plain_at .later [] _ _ _ _ saidUpto (fun _ h => by cases h) (by kernel_rfl) (fun _ h => by cases h) bitsPlayUpto_row_tie rfl ⟨rfl, rfl⟩ (by kernel_rfl) rfl plain (by kernel_rfl)
end Go.Proofs.YthfapneifbjlmaaDoor.bitsPlay
namespace Go.Proofs.YthfapneifbjlmaaDoor
theorem bitsPlay_holds : Rows.BitsPlayUptoCardSaid := bitsPlay.cardUpto
#print axioms bitsPlay_holds
end Go.Proofs.YthfapneifbjlmaaDoor
end
