/- Layer 4: formed, Check: is a value in its form? Its own law in plain words; the walks. -/
import Derived.Test.YtofinglgnkdflaaLXB
import Derived.Test.YtofinglgnkdflaaLSh
import Derived.StillTailTactics
import Derived.Test.YtofinglgnkdflaaLXA
section
namespace Go.Proofs.Ytofinglgnkdflaa
open Go.RowKit
open Go.Proofs.Ytofinglgnkdflaa.PHistoryChecks Go.Proofs.YtofinglgnkdflaaW.PrintWords Go.Proofs.YtofinglgnkdflaaW.PrintLast Go.Proofs.YtofinglgnkdflaaW.PrintMore
set_option linter.unusedVariables false
set_option linter.unusedSimpArgs false
def sg (x y : Bool) : Int := if x then -1 else if y then 1 else 0
def sg2 (x y : Int) : Int := sg (decide (x < y)) (decide (y < x))
def cmpS (a b : ByteArray) : Int := Lib.compareBytes a.data.toList b.data.toList
def ordHead (a b : S43) : Option Int :=
  if a.f0 ≠ b.f0 then some (sg (decide (a.f0 < b.f0)) true)
  else if a.f4.length ≠ b.f4.length then some (sg (decide (a.f4.length < b.f4.length)) true)
  else if sg2 a.f1 b.f1 ≠ 0 then some (sg2 a.f1 b.f1)
  else if sg2 a.f2 b.f2 ≠ 0 then some (sg2 a.f2 b.f2)
  else if cmpS a.f3 b.f3 ≠ 0 then some (cmpS a.f3 b.f3) else none
mutual
def ordV : S43 → S43 → Int
  | ⟨k, i, m, t, l⟩, b => (ordHead ⟨k, i, m, t, l⟩ b).getD (ordL l b.f4)
def ordL : List S43 → List S43 → Int
  | [], _ => 0
  | _ :: _, [] => 0
  | x :: l, y :: m => if ordV x y ≠ 0 then ordV x y else ordL l m
end
theorem ordV_eq (a b : S43) : ordV a b = (ordHead a b).getD (ordL a.f4 b.f4) := by cases a; rfl
theorem ordL_from (l m : List S43) (h : l.length = m.length) (i : Int) (h0 : 0 ≤ i) (h1 : i < (l.length : Int)) :
    ordL (l.drop i.toNat) (m.drop i.toNat) = if ordV (rd_T43 l i) (rd_T43 m i) ≠ 0 then ordV (rd_T43 l i) (rd_T43 m i) else ordL (l.drop (i + 1).toNat) (m.drop (i + 1).toNat) := by
  have hn : i.toNat < l.length := by omega
  have hm : i.toNat < m.length := by omega
  have e : (i + 1).toNat = i.toNat + 1 := by omega
  rw [e, List.drop_eq_getElem_cons hn, List.drop_eq_getElem_cons hm]
  simp only [ordL]
  unfold rd_T43
  rw [List.getD_eq_getElem?_getD, List.getElem?_eq_getElem hn, List.getD_eq_getElem?_getD, List.getElem?_eq_getElem hm]; rfl
theorem ordL_end (l m : List S43) (i : Int) (h1 : ¬ i < (l.length : Int)) : ordL (l.drop i.toNat) (m.drop i.toNat) = 0 := by
  rw [List.drop_eq_nil_of_le (by omega)]; simp [ordL]
theorem sign_any (x y : Bool) (W : World) : Calls Try.prog 114 #[.bool x, .bool y] W fun e w' => e = .returned (.int .i64 (sg x y)) ∧ W = w' := by
  go_enter Try.func114, Try.ntmps114
  cases x
  · cases y
    · go_wp2
      go_ret
      exact ⟨rfl, rfl⟩
    · go_wp2
      go_ret
      exact ⟨rfl, rfl⟩
  · go_wp2
    go_ret
    exact ⟨rfl, rfl⟩
theorem cellAD {w : World} {a : Addr} {v : Value} (h : w.cell? a = some v) (o : Obj) : (w.alloc o).drew.cell? a = some v := pw_cell_below (below_drew (below_alloc (Below.refl _ _) o)) h
theorem cellA {w : World} {a : Addr} {v : Value} (h : w.cell? a = some v) (o : Obj) : (w.alloc o).cell? a = some v := pw_cell_below (below_alloc (Below.refl _ _) o) h
def OrdP (a b : S43) (W : World) (e : Ending) (w' : World) : Prop := e = .returned (.int .i64 (ordV a b)) ∧ Below W.heap.size W w'
set_option maxHeartbeats 8000000 in
set_option maxRecDepth 100000 in
theorem order_any (k : Nat) : ∀ (a b : S43) (A B : Option Addr) (c d : Nat) (W : World), nd a ≤ k → Kd.C k43 W A a.f4.length a.f4 → a.f4.length ≤ c → Kd.C k43 W B b.f4.length b.f4 → b.f4.length ≤ d →
    Calls Try.prog 102 #[v43 a A c, v43 b B d] W (OrdP a b W) := by
  induction k with
  | zero => intro a; intros; have := nd_pos a; omega
  | succ k ih =>
    intro a b A B c d W hk hCa hc hCb hd
    have HE := Lib.hid (ordV_eq a b)
    have hla := Kd.C_max hCa
    have hlb := Kd.C_max hCb
    unfold v43
    go_enter Try.func102, Try.ntmps102
    by_cases h0 : a.f0 = b.f0
    · have h0' : (a.f0 != b.f0) = false := by rw [bne_eq_false_iff_eq]; exact h0
      have H0 := Lib.hid h0
      clear h0
      by_cases h4 : a.f4.length = b.f4.length
      · have h4' : ((a.f4.length : Int) != (b.f4.length : Int)) = false := by rw [bne_eq_false_iff_eq]; omega
        have H4 := Lib.hid h4
        clear h4
        go_wp2_with fail
        obtain ⟨W2, hW2⟩ : ∃ W2, W2 = (W.alloc (.cells #[.int .i64 a.f0, .int .i64 a.f1, .int .i64 a.f2, .string a.f3, .slice A a.f4.length c] 43)).alloc (.cells #[.int .i64 b.f0, .int .i64 b.f1, .int .i64 b.f2, .string b.f3, .slice B b.f4.length d] 43) := ⟨_, rfl⟩
        have hA2 : W2.heap[W.heap.size]? = some (.cells #[.int .i64 a.f0, .int .i64 a.f1, .int .i64 a.f2, .string a.f3, .slice A a.f4.length c] 43 (0, 0)) := by rw [hW2]; exact blk_alloc (heap_alloc_new W _) _
        have hB2 : W2.heap[W.heap.size + 1]? = some (.cells #[.int .i64 b.f0, .int .i64 b.f1, .int .i64 b.f2, .string b.f3, .slice B b.f4.length d] 43 (0, 0)) := by
          rw [hW2]
          have h := heap_alloc_new (W.alloc (.cells #[.int .i64 a.f0, .int .i64 a.f1, .int .i64 a.f2, .string a.f3, .slice A a.f4.length c] 43)) (.cells #[.int .i64 b.f0, .int .i64 b.f1, .int .i64 b.f2, .string b.f3, .slice B b.f4.length d] 43)
          rw [alloc_size] at h; exact h
        have hb2 : Below W.heap.size W W2 := by rw [hW2]; exact below_alloc (below_alloc (Below.refl _ _) _) _
        rw [← hW2]
        clear hW2
        have HB2 := Lib.hid hb2
        have HB2' := Lib.hid hB2
        have ca1 : W2.cell? ⟨W.heap.size, 1, none⟩ = some (.int .i64 a.f1) := (blk_cell hA2 1).trans rfl
        have ca2 : W2.cell? ⟨W.heap.size, 2, none⟩ = some (.int .i64 a.f2) := (blk_cell hA2 2).trans rfl
        have ca3 : W2.cell? ⟨W.heap.size, 3, none⟩ = some (.string a.f3) := (blk_cell hA2 3).trans rfl
        have ca4 : W2.cell? ⟨W.heap.size, 4, none⟩ = some (.slice A a.f4.length c) := (blk_cell hA2 4).trans rfl
        have cb1 : W2.cell? ⟨W.heap.size + 1, 1, none⟩ = some (.int .i64 b.f1) := (blk_cell hB2 1).trans rfl
        have cb2 : W2.cell? ⟨W.heap.size + 1, 2, none⟩ = some (.int .i64 b.f2) := (blk_cell hB2 2).trans rfl
        have cb3 : W2.cell? ⟨W.heap.size + 1, 3, none⟩ = some (.string b.f3) := (blk_cell hB2 3).trans rfl
        have cb4 : W2.cell? ⟨W.heap.size + 1, 4, none⟩ = some (.slice B b.f4.length d) := (blk_cell hB2 4).trans rfl
        have hs2 : W.heap.size + 1 < W2.heap.size := blk_lt hB2
        clear hA2 hB2 hb2
        go_region_held3 (fun w => w.cell? ⟨W.heap.size, 1, none⟩ = some (.int .i64 a.f1) ∧ w.cell? ⟨W.heap.size, 2, none⟩ = some (.int .i64 a.f2) ∧ w.cell? ⟨W.heap.size, 3, none⟩ = some (.string a.f3) ∧ w.cell? ⟨W.heap.size + 1, 1, none⟩ = some (.int .i64 b.f1) ∧ w.cell? ⟨W.heap.size + 1, 2, none⟩ = some (.int .i64 b.f2) ∧ w.cell? ⟨W.heap.size + 1, 3, none⟩ = some (.string b.f3))
          (first | exact ⟨ca1, ca2, ca3, cb1, cb2, cb3⟩ | exact ⟨cellAD ca1 _, cellAD ca2 _, cellAD ca3 _, cellAD cb1 _, cellAD cb2 _, cellAD cb3 _⟩ | exact ⟨cellA ca1 _, cellA ca2 _, cellA ca3 _, cellA cb1 _, cellA cb2 _, cellA cb3 _⟩)
          (first | (go_at_call 114; refine (sign_any _ _ _).mono ?_; rintro e w' ⟨rfl, rfl⟩) | (go_at_call 115; refine (Try.strings_Compare _ _ _).mono ?_; rintro e w' ⟨rfl, rfl⟩))
        go_wp2
        obtain ⟨s1, hs1⟩ : ∃ s, sg (decide (a.f1 < b.f1)) (decide (b.f1 < a.f1)) = s := ⟨_, rfl⟩
        obtain ⟨s2, hs2⟩ : ∃ s, sg (decide (a.f2 < b.f2)) (decide (b.f2 < a.f2)) = s := ⟨_, rfl⟩
        obtain ⟨s3, hs3⟩ : ∃ s, Lib.compareBytes a.f3.data.toList b.f3.data.toList = s := ⟨_, rfl⟩
        rw [hs1, hs2, hs3]
        have HH := Lib.hid (show ordV a b = if s1 ≠ 0 then s1 else if s2 ≠ 0 then s2 else if s3 ≠ 0 then s3 else ordL a.f4 b.f4 from by
          rw [HE.out]; unfold ordHead
          rw [if_neg (by simpa using H0.out), if_neg (by simpa using H4.out)]
          unfold sg2 cmpS
          rw [hs1, hs2, hs3]
          by_cases e1 : s1 ≠ 0
          · rw [if_pos e1, if_pos e1]; rfl
          · rw [if_neg e1, if_neg e1]
            by_cases e2 : s2 ≠ 0
            · rw [if_pos e2, if_pos e2]; rfl
            · rw [if_neg e2, if_neg e2]
              by_cases e3 : s3 ≠ 0
              · rw [if_pos e3, if_pos e3]; rfl
              · rw [if_neg e3, if_neg e3]; rfl)
        clear hs1 hs2 hs3
        obtain ⟨W3, hW3⟩ : ∃ W3, W3 = (W2.alloc (.cells #[.int .i64 s1, .int .i64 s2, .int .i64 s3] 3)).drew := ⟨_, rfl⟩
        have hb3 : Below W.heap.size W W3 := by rw [hW3]; exact below_drew (below_alloc HB2.out _)
        have hI3 : W3.heap[W2.heap.size]? = some (.cells #[.int .i64 s1, .int .i64 s2, .int .i64 s3] 3 (0, 0)) := by rw [hW3]; exact heap_alloc_new W2 _
        have hB3 : W3.heap[W.heap.size + 1]? = some (.cells #[.int .i64 b.f0, .int .i64 b.f1, .int .i64 b.f2, .string b.f3, .slice B b.f4.length d] 43 (0, 0)) := by rw [hW3]; exact blk_alloc HB2'.out _
        have ca4' : W3.cell? ⟨W.heap.size, 4, none⟩ = some (.slice A a.f4.length c) := by rw [hW3]; exact cellAD ca4 _
        rw [← hW3]
        have ci0 : W3.cell? ⟨W2.heap.size, 0, none⟩ = some (.int .i64 s1) := (blk_cell hI3 0).trans rfl
        have ci1 : W3.cell? ⟨W2.heap.size, 1, none⟩ = some (.int .i64 s2) := (blk_cell hI3 1).trans rfl
        have ci2 : W3.cell? ⟨W2.heap.size, 2, none⟩ = some (.int .i64 s3) := (blk_cell hI3 2).trans rfl
        have HB3 := Lib.hid hb3
        have HBB3 := Lib.hid hB3
        clear hW3 ca1 ca2 ca3 ca4 cb1 cb2 cb3 cb4 hI3 hB3 hb3
        go_loop [65] (fun jv => ∃ j : Int, 0 ≤ j ∧ j ≤ 3 ∧ jv = .int .i64 j ∧ Hid (0 < j → s1 = 0) ∧ Hid (1 < j → s2 = 0) ∧ Hid (2 < j → s3 = 0)) (fun j => 3 - (intOf j).toNat)
        case atStart => exact ⟨0, by omega, by omega, rfl, fun h => by omega, fun h => by omega, fun h => by omega⟩
        case round =>
          obtain ⟨j, hj0, hj3, rfl, q1, q2, q3⟩ := hrel
          have hcases : j = 0 ∨ j = 1 ∨ j = 2 ∨ j = 3 := by omega
          rcases hcases with rfl | rfl | rfl | rfl
          · by_cases e1 : s1 = 0
            · have e1' : (s1 != 0) = false := by rw [bne_eq_false_iff_eq]; exact e1
              have E1 := Lib.hid e1
              clear e1
              go_wp2
              go_round
              case rel => exact ⟨1, by omega, by omega, rfl, fun _ => E1.out, fun h => by omega, fun h => by omega⟩
              case measure => simp [intOf]
            · have e1' : (s1 != 0) = true := by rw [bne_iff_ne]; exact e1
              have HR := Lib.hid (show ordV a b = s1 from by rw [HH.out, if_pos e1])
              clear e1
              go_wp2
              go_ret
              exact ⟨by rw [HR.out]; rfl, HB3.out⟩
          · by_cases e1 : s2 = 0
            · have e1' : (s2 != 0) = false := by rw [bne_eq_false_iff_eq]; exact e1
              have E1 := Lib.hid e1
              clear e1
              go_wp2
              go_round
              case rel => exact ⟨2, by omega, by omega, rfl, fun _ => q1.out (by omega), fun _ => E1.out, fun h => by omega⟩
              case measure => simp [intOf]
            · have e1' : (s2 != 0) = true := by rw [bne_iff_ne]; exact e1
              have HR := Lib.hid (show ordV a b = s2 from by rw [HH.out, if_neg (by simpa using q1.out (by omega)), if_pos e1])
              clear e1
              go_wp2
              go_ret
              exact ⟨by rw [HR.out]; rfl, HB3.out⟩
          · by_cases e1 : s3 = 0
            · have e1' : (s3 != 0) = false := by rw [bne_eq_false_iff_eq]; exact e1
              have E1 := Lib.hid e1
              clear e1
              go_wp2
              go_round
              case rel => exact ⟨3, by omega, by omega, rfl, fun _ => q1.out (by omega), fun _ => q2.out (by omega), fun _ => E1.out⟩
              case measure => simp [intOf]
            · have e1' : (s3 != 0) = true := by rw [bne_iff_ne]; exact e1
              have HR := Lib.hid (show ordV a b = s3 from by rw [HH.out, if_neg (by simpa using q1.out (by omega)), if_neg (by simpa using q2.out (by omega)), if_pos e1])
              clear e1
              go_wp2
              go_ret
              exact ⟨by rw [HR.out]; rfl, HB3.out⟩
          · have HR := Lib.hid (show ordV a b = ordL a.f4 b.f4 from by rw [HH.out, if_neg (by simpa using q1.out (by omega)), if_neg (by simpa using q2.out (by omega)), if_neg (by simpa using q3.out (by omega))])
            clear HH q1 q2 q3 ci0 ci1 ci2
            have HST := Lib.hid (show ordV a b = ordL (a.f4.drop (0 : Int).toNat) (b.f4.drop (0 : Int).toNat) from HR.out)
            go_wp2
            go_loopw [76, 8, 9] (fun iv bv nv wr => ∃ i : Int, iv = .int .i64 i ∧ 0 ≤ i ∧ i ≤ (a.f4.length : Int) ∧ Hid (ordV a b = ordL (a.f4.drop i.toNat) (b.f4.drop i.toNat)) ∧ Hid (Below W3.heap.size W3 wr)) (fun i _ _ _ => a.f4.length - (intOf i).toNat)
            case atStart => exact ⟨0, rfl, by omega, by omega, HST.out, Below.refl _ _⟩
            case round =>
              obtain ⟨i, rfl, hi0, hi1, HI, HW⟩ := hrel
              have hsz3 : W.heap.size + 1 < W3.heap.size := blk_lt HBB3.out
              have hszr : W.heap.size + 1 < wr.heap.size := Nat.lt_of_lt_of_le hsz3 HW.out.size
              have HWW := Lib.hid (show Below W.heap.size W wr from HB3.out.trans (HW.out.mono HB3.out.size))
              by_cases hlt : i < (a.f4.length : Int)
              · have hbx : wr.heap[W.heap.size + 1]? = some (.cells #[.int .i64 b.f0, .int .i64 b.f1, .int .i64 b.f2, .string b.f3, .slice B b.f4.length d] 43 (0, 0)) := (HW.out.block _ hsz3).trans HBB3.out
                have cb4 : wr.cell? ⟨W.heap.size + 1, 4, none⟩ = some (.slice B b.f4.length d) := (blk_cell hbx 4).trans rfl
                have hxa := at_T43 (Kd.C_below hCa HWW.out) i hi0 hlt
                have hltb : i < (b.f4.length : Int) := by have := H4.out; omega
                have hxb := at_T43 (Kd.C_below hCb HWW.out) i hi0 hltb
                obtain ⟨ad, A4, c4, rfl, x0, x1, x2, x3, x4, hl4, hF4⟩ := hxa
                obtain ⟨bd, B4, d4, rfl, y0, y1, y2, y3, y4, ml4, mF4⟩ := hxb
                have hnd : nd (rd_T43 a.f4 i) ≤ k := by have := ndL_mem _ _ (rd_mem a.f4 i hi0 hlt); have := nd_eq a; omega
                have hcall := Lib.hid (fun W4 (h : Below wr.heap.size wr W4) => ih (rd_T43 a.f4 i) (rd_T43 b.f4 i) A4 B4 c4 d4 W4 hnd (Kd.C_below hF4 h) hl4 (Kd.C_below mF4 h) ml4)
                have hstep := Lib.hid (ordL_from a.f4 b.f4 H4.out i hi0 hlt)
                obtain ⟨x, hx⟩ : ∃ x, x = rd_T43 a.f4 i := ⟨_, rfl⟩
                obtain ⟨y, hy⟩ : ∃ y, y = rd_T43 b.f4 i := ⟨_, rfl⟩
                rw [← hx, ← hy] at hcall hstep
                rw [← hx] at x0 x1 x2 x3 x4
                rw [← hy] at y0 y1 y2 y3 y4
                unfold v43 at hcall
                clear hx hy hF4 mF4 hl4 ml4 hbx
                go_wp2
                obtain ⟨W5, hW5⟩ : ∃ W5, W5 = wr.alloc (.cells #[.int .i64 x.f0, .int .i64 x.f1, .int .i64 x.f2, .string x.f3, .slice A4 x.f4.length c4] 43) := ⟨_, rfl⟩
                have hx5 : W5.heap[wr.heap.size]? = some (.cells #[.int .i64 x.f0, .int .i64 x.f1, .int .i64 x.f2, .string x.f3, .slice A4 x.f4.length c4] 43 (0, 0)) := by rw [hW5]; exact heap_alloc_new wr _
                have hb5 : Below wr.heap.size wr W5 := by rw [hW5]; exact below_alloc (Below.refl _ _) _
                rw [← hW5]
                clear hW5
                have z0 : W5.cell? ⟨wr.heap.size, 0, none⟩ = some (.int .i64 x.f0) := (blk_cell hx5 0).trans rfl
                have z1 : W5.cell? ⟨wr.heap.size, 1, none⟩ = some (.int .i64 x.f1) := (blk_cell hx5 1).trans rfl
                have z2 : W5.cell? ⟨wr.heap.size, 2, none⟩ = some (.int .i64 x.f2) := (blk_cell hx5 2).trans rfl
                have z3 : W5.cell? ⟨wr.heap.size, 3, none⟩ = some (.string x.f3) := (blk_cell hx5 3).trans rfl
                have z4 : W5.cell? ⟨wr.heap.size, 4, none⟩ = some (.slice A4 x.f4.length c4) := (blk_cell hx5 4).trans rfl
                have cb5 := pw_cell_below hb5 cb4
                have y05 := pw_cell_below hb5 y0
                have y15 := pw_cell_below hb5 y1
                have y25 := pw_cell_below hb5 y2
                have y35 := pw_cell_below hb5 y3
                have y45 := pw_cell_below hb5 y4
                have HB5 := Lib.hid hb5
                clear hx5 hb5 x0 x1 x2 x3 x4 y0 y1 y2 y3 y4 cb4
                go_region_held3 (fun w => w.cell? ⟨wr.heap.size, 0, none⟩ = some (.int .i64 x.f0) ∧ w.cell? ⟨wr.heap.size, 1, none⟩ = some (.int .i64 x.f1) ∧ w.cell? ⟨wr.heap.size, 2, none⟩ = some (.int .i64 x.f2) ∧ w.cell? ⟨wr.heap.size, 3, none⟩ = some (.string x.f3) ∧ w.cell? ⟨wr.heap.size, 4, none⟩ = some (.slice A4 x.f4.length c4) ∧ w.cell? ⟨W.heap.size + 1, 4, none⟩ = some (.slice (some bd) b.f4.length d) ∧ w.cell? (bd.add (i.toNat * 5)) = some (.int .i64 y.f0) ∧ w.cell? ⟨(bd.add (i.toNat * 5)).block, (bd.add (i.toNat * 5)).off + 1, none⟩ = some (.int .i64 y.f1) ∧ w.cell? ⟨(bd.add (i.toNat * 5)).block, (bd.add (i.toNat * 5)).off + 2, none⟩ = some (.int .i64 y.f2) ∧ w.cell? ⟨(bd.add (i.toNat * 5)).block, (bd.add (i.toNat * 5)).off + 3, none⟩ = some (.string y.f3) ∧ w.cell? ⟨(bd.add (i.toNat * 5)).block, (bd.add (i.toNat * 5)).off + 4, none⟩ = some (.slice B4 y.f4.length d4))
                  (first | exact ⟨z0, z1, z2, z3, z4, cb5, y05, y15, y25, y35, y45⟩ | exact ⟨pw_cell_below hb1 z0, pw_cell_below hb1 z1, pw_cell_below hb1 z2, pw_cell_below hb1 z3, pw_cell_below hb1 z4, pw_cell_below hb1 cb5, pw_cell_below hb1 y05, pw_cell_below hb1 y15, pw_cell_below hb1 y25, pw_cell_below hb1 y35, pw_cell_below hb1 y45⟩)
                  ((go_at_call 102; refine (hcall.out W5.drew (below_drew HB5.out)).mono ?_; rintro e w1 ⟨rfl, hb1⟩))
                have HW6 := Lib.hid (show Below W3.heap.size W3 w1 from HW.out.trans (((below_drew HB5.out).trans (hb1.mono HB5.out.size)).mono HW.out.size))
                have HWW6 := Lib.hid (show Below W.heap.size W w1 from HWW.out.trans (((below_drew HB5.out).trans (hb1.mono HB5.out.size)).mono HWW.out.size))
                obtain ⟨r, hr⟩ : ∃ r, r = ordV x y := ⟨_, rfl⟩
                rw [← hr] at hstep ⊢
                clear hr hb1 z0 z1 z2 z3 z4 cb5 y05 y15 y25 y35 y45 hcall
                by_cases e1 : r = 0
                · have e1' : (r != 0) = false := by rw [bne_eq_false_iff_eq]; exact e1
                  have HN := Lib.hid (show ordV a b = ordL (a.f4.drop (i + 1).toNat) (b.f4.drop (i + 1).toNat) from by rw [HI.out, hstep.out, if_neg (by simpa using e1)])
                  clear e1
                  go_wp2
                  go_roundw
                  case rel => exact ⟨i + 1, rfl, by omega, by omega, HN.out, HW6.out⟩
                  case measure => simp [intOf]; omega
                · have e1' : (r != 0) = true := by rw [bne_iff_ne]; exact e1
                  have HR2 := Lib.hid (show ordV a b = r from by rw [HI.out, hstep.out, if_pos e1])
                  clear e1
                  go_wp2
                  go_ret
                  exact ⟨by rw [HR2.out]; rfl, HWW6.out⟩
              · have HR2 := Lib.hid (show ordV a b = 0 from by rw [HI.out]; exact ordL_end _ _ _ hlt)
                have hge : (a.f4.length : Int) ≤ i := by omega
                clear hlt
                go_wp2
                go_ret
                exact ⟨by rw [HR2.out]; rfl, HWW.out⟩
      · have h4' : ((a.f4.length : Int) != (b.f4.length : Int)) = true := by rw [bne_iff_ne]; omega
        have HH := Lib.hid (show ordV a b = sg (decide ((a.f4.length : Int) < (b.f4.length : Int))) true from by rw [HE.out]; unfold ordHead; rw [if_neg (by simpa using H0.out), if_pos h4]; simp)
        clear h4
        go_wp2_with (first | (go_at_call 114; refine (sign_any _ _ _).mono ?_; rintro e w' ⟨rfl, rfl⟩))
        go_ret
        exact ⟨by rw [HH.out]; first | rfl | simp, below_alloc (below_alloc (Below.refl _ _) _) _⟩
    · have h0' : (a.f0 != b.f0) = true := by rw [bne_iff_ne]; exact h0
      have HH := Lib.hid (show ordV a b = sg (decide (a.f0 < b.f0)) true from by rw [HE.out]; unfold ordHead; rw [if_pos h0]; rfl)
      clear h0
      go_wp2_with (first | (go_at_call 114; refine (sign_any _ _ _).mono ?_; rintro e w' ⟨rfl, rfl⟩))
      go_ret
      exact ⟨by rw [HH.out]; rfl, below_alloc (below_alloc (Below.refl _ _) _) _⟩
end Go.Proofs.Ytofinglgnkdflaa
end
section
namespace Go.Proofs.Ytofinglgnkdflaa
open Go.RowKit
open Go.Proofs.Ytofinglgnkdflaa.PHistoryChecks Go.Proofs.YtofinglgnkdflaaW.PrintWords Go.Proofs.YtofinglgnkdflaaW.PrintLast Go.Proofs.YtofinglgnkdflaaW.PrintMore
set_option linter.unusedVariables false
set_option linter.unusedSimpArgs false
mutual
def okT : S43 → Prop
  | ⟨_, _, _, t, l⟩ => t.size ≤ 140737488351232 ∧ okTL l
def okTL : List S43 → Prop
  | [] => True
  | x :: l => okT x ∧ okTL l
end
theorem okT_eq (v : S43) : okT v = (v.f3.size ≤ 140737488351232 ∧ okTL v.f4) := by cases v; rfl
theorem okTL_mem (l : List S43) (h : okTL l) (x : S43) (hx : x ∈ l) : okT x := by
  induction l with
  | nil => cases hx
  | cons y l ih =>
    simp only [okTL] at h
    rcases List.mem_cons.1 hx with rfl | hx
    · exact h.1
    · exact ih h.2 hx
def partB (n : Int) : Bool := decide (-1048576 ≤ n) && decide (n ≤ 1048576)
def emB (s : ByteArray) : Bool := s.toList.isEmpty
def plainB (v : S43) : Bool := emB v.f3 && v.f4.isEmpty
def riseB (s : Bool) (p : Option S43) (x : S43) : Bool := !(s && (match p with | none => false | some q => decide (0 ≤ ordV q x)))
mutual
def formV : S43 → Bool
  | ⟨k, i, m, t, l⟩ =>
    if k = 1 then plainB ⟨k, i, m, t, l⟩ && decide (m = 0) && (decide (i = 0) || decide (i = 1))
    else if k = 2 then plainB ⟨k, i, m, t, l⟩ && decide (m = 0)
    else if k = 3 then plainB ⟨k, i, m, t, l⟩ && partB i && partB m
    else if k = 4 then decide (i = 0) && decide (m = 0) && l.isEmpty && symB t
    else if k = 5 ∨ k = 6 ∨ k = 7 then decide (i = 0) && decide (m = 0) && emB t && formL (decide (k = 7)) none l
    else false
def formL (s : Bool) (p : Option S43) : List S43 → Bool
  | [] => true
  | x :: l => formV x && riseB s p x && formL s (some x) l
end
theorem formV_eq (v : S43) : formV v =
    if v.f0 = 1 then plainB v && decide (v.f2 = 0) && (decide (v.f1 = 0) || decide (v.f1 = 1))
    else if v.f0 = 2 then plainB v && decide (v.f2 = 0)
    else if v.f0 = 3 then plainB v && partB v.f1 && partB v.f2
    else if v.f0 = 4 then decide (v.f1 = 0) && decide (v.f2 = 0) && v.f4.isEmpty && symB v.f3
    else if v.f0 = 5 ∨ v.f0 = 6 ∨ v.f0 = 7 then decide (v.f1 = 0) && decide (v.f2 = 0) && emB v.f3 && formL (decide (v.f0 = 7)) none v.f4
    else false := by cases v; rfl
theorem part_any (n : Int) (W : World) : Calls Try.prog 98 #[.int .i64 n] W fun e w' => e = .returned (.bool (partB n)) ∧ W = w' := by
  unfold partB
  go_enter Try.func98, Try.ntmps98
  by_cases h1 : -1048576 ≤ n
  · by_cases h2 : n ≤ 1048576
    · go_wp2
      go_ret
      exact ⟨by simp [h1, h2], rfl⟩
    · have h2' : 1048576 < n := by omega
      have e2 := Lib.hid (show decide (n ≤ 1048576) = false from decide_eq_false h2)
      clear h2
      go_wp2
      go_ret
      exact ⟨by rw [e2.out]; simp, rfl⟩
  · have h1' : n < -1048576 := by omega
    have e1 := Lib.hid (show decide (-1048576 ≤ n) = false from decide_eq_false h1)
    clear h1
    go_wp2
    go_ret
    exact ⟨by rw [e1.out]; simp, rfl⟩
def FormP (v : S43) (W : World) (e : Ending) (w' : World) : Prop := e = .returned (.bool (formV v)) ∧ Below W.heap.size W w'
set_option maxHeartbeats 8000000 in
set_option maxRecDepth 100000 in
theorem formed_flat (v : S43) (A : Option Addr) (c : Nat) (W : World) (hT : okT v) (hC : Kd.C k43 W A v.f4.length v.f4) (hc : v.f4.length ≤ c) (hk5 : ¬ (v.f0 = 5 ∨ v.f0 = 6 ∨ v.f0 = 7)) :
    Calls Try.prog 101 #[v43 v A c] W (FormP v W) := by
  have hT' := hT
  rw [okT_eq] at hT'
  obtain ⟨hts, hTL⟩ := hT'
  have HTL := Lib.hid hTL
  have hlen := Kd.C_max hC
  have HE := Lib.hid (formV_eq v)
  have he1 : v.f3.toList.isEmpty = true ∨ v.f3.toList.isEmpty = false := by cases v.f3.toList.isEmpty <;> simp
  unfold v43
  clear hT hTL
  go_enter Try.func101, Try.ntmps101
  have hle : (v.f4.isEmpty = true ∧ ((v.f4.length : Int) == 0) = true) ∨ (v.f4.isEmpty = false ∧ ((v.f4.length : Int) == 0) = false) := by
    cases v.f4 with
    | nil => left; simp
    | cons x l => right; simp; omega
  have P1 := Lib.hid (part_any v.f1)
  have P2 := Lib.hid (part_any v.f2)
  have PS := Lib.hid (fun W => symbol_any W v.f3 hts)
  obtain ⟨b1, hb1⟩ : ∃ b, partB v.f1 = b := ⟨_, rfl⟩
  obtain ⟨b2, hb2⟩ : ∃ b, partB v.f2 = b := ⟨_, rfl⟩
  rw [hb1] at P1
  rw [hb2] at P2
  by_cases k1 : v.f0 = 1
  · have k1' : (v.f0 == 1) = true := by rw [beq_iff_eq]; exact k1
    have K1 := Lib.hid (show formV v = (plainB v && decide (v.f2 = 0) && (decide (v.f1 = 0) || decide (v.f1 = 1))) from by rw [HE.out, if_pos k1])
    clear k1
    rcases he1 with e1 | e1
    · rcases hle with ⟨hl1, hl2⟩ | ⟨hl1, hl2⟩
      · have HL := Lib.hid hl1
        have E1 := Lib.hid e1
        clear hl1
        go_wp2
        all_goals go_ret
        all_goals refine ⟨?_, below_alloc (Below.refl _ _) _⟩
        all_goals (rw [K1.out]; unfold plainB emB; simp only [E1.out, HL.out]; (first | rfl | (simp [*]; done) | (simp [*]; rw [Bool.eq_iff_iff]; simp; omega) | (rw [Bool.eq_iff_iff]; simp; omega)))
      · have HL := Lib.hid hl1
        have E1 := Lib.hid e1
        clear hl1
        go_wp2
        all_goals go_ret
        all_goals refine ⟨?_, below_alloc (Below.refl _ _) _⟩
        all_goals (rw [K1.out]; unfold plainB emB; simp only [E1.out, HL.out]; (first | rfl | (simp [*]; done) | (simp [*]; rw [Bool.eq_iff_iff]; simp; omega) | (rw [Bool.eq_iff_iff]; simp; omega)))
    · have E1 := Lib.hid e1
      clear hle
      go_wp2
      all_goals go_ret
      all_goals refine ⟨?_, below_alloc (Below.refl _ _) _⟩
      all_goals (rw [K1.out]; unfold plainB emB; simp only [E1.out]; (first | rfl | (simp [*]; done)))
  · have n1 : (v.f0 == 1) = false := by rw [beq_eq_false_iff_ne]; exact k1
    by_cases k2 : v.f0 = 2
    · have k2' : (v.f0 == 2) = true := by rw [beq_iff_eq]; exact k2
      have K1 := Lib.hid (show formV v = (plainB v && decide (v.f2 = 0)) from by rw [HE.out, if_neg k1, if_pos k2])
      clear k2
      clear k1
      rcases he1 with e1 | e1
      · rcases hle with ⟨hl1, hl2⟩ | ⟨hl1, hl2⟩
        · have HL := Lib.hid hl1
          have E1 := Lib.hid e1
          clear hl1
          go_wp2
          all_goals go_ret
          all_goals refine ⟨?_, below_alloc (Below.refl _ _) _⟩
          all_goals (rw [K1.out]; unfold plainB emB; simp only [E1.out, HL.out]; (first | rfl | (simp [*]; done) | (simp [*]; rw [Bool.eq_iff_iff]; simp; omega) | (rw [Bool.eq_iff_iff]; simp; omega)))
        · have HL := Lib.hid hl1
          have E1 := Lib.hid e1
          clear hl1
          go_wp2
          all_goals go_ret
          all_goals refine ⟨?_, below_alloc (Below.refl _ _) _⟩
          all_goals (rw [K1.out]; unfold plainB emB; simp only [E1.out, HL.out]; (first | rfl | (simp [*]; done) | (simp [*]; rw [Bool.eq_iff_iff]; simp; omega) | (rw [Bool.eq_iff_iff]; simp; omega)))
      · have E1 := Lib.hid e1
        clear hle
        go_wp2
        all_goals go_ret
        all_goals refine ⟨?_, below_alloc (Below.refl _ _) _⟩
        all_goals (rw [K1.out]; unfold plainB emB; simp only [E1.out]; (first | rfl | (simp [*]; done)))
    · have n2 : (v.f0 == 2) = false := by rw [beq_eq_false_iff_ne]; exact k2
      by_cases k3 : v.f0 = 3
      · have k3' : (v.f0 == 3) = true := by rw [beq_iff_eq]; exact k3
        have K1 := Lib.hid (show formV v = (plainB v && partB v.f1 && partB v.f2) from by rw [HE.out, if_neg k1, if_neg k2, if_pos k3])
        clear k3
        clear k1 k2
        rw [hb1, hb2] at K1
        rcases he1 with e1 | e1
        · rcases hle with ⟨hl1, hl2⟩ | ⟨hl1, hl2⟩
          · have HL := Lib.hid hl1
            have E1 := Lib.hid e1
            clear hl1
            cases b1 <;> cases b2 <;> go_wp2_with (first | (go_at_call_of 98 v.f1; refine (P1.out _).mono ?_; rintro e w' ⟨rfl, rfl⟩) | (go_at_call_of 98 v.f2; refine (P2.out _).mono ?_; rintro e w' ⟨rfl, rfl⟩))
            all_goals go_ret
            all_goals refine ⟨?_, below_alloc (Below.refl _ _) _⟩
            all_goals (rw [K1.out]; unfold plainB emB; simp only [E1.out, HL.out]; (first | rfl | (simp [*]; done) | (simp [*]; rw [Bool.eq_iff_iff]; simp; omega) | (rw [Bool.eq_iff_iff]; simp; omega)))
          · have HL := Lib.hid hl1
            have E1 := Lib.hid e1
            clear hl1
            go_wp2
            all_goals go_ret
            all_goals refine ⟨?_, below_alloc (Below.refl _ _) _⟩
            all_goals (rw [K1.out]; unfold plainB emB; simp only [E1.out, HL.out]; (first | rfl | (simp [*]; done) | (simp [*]; rw [Bool.eq_iff_iff]; simp; omega) | (rw [Bool.eq_iff_iff]; simp; omega)))
        · have E1 := Lib.hid e1
          clear hle
          go_wp2
          all_goals go_ret
          all_goals refine ⟨?_, below_alloc (Below.refl _ _) _⟩
          all_goals (rw [K1.out]; unfold plainB emB; simp only [E1.out]; (first | rfl | (simp [*]; done)))
      · have n3 : (v.f0 == 3) = false := by rw [beq_eq_false_iff_ne]; exact k3
        by_cases k4 : v.f0 = 4
        · have k4' : (v.f0 == 4) = true := by rw [beq_iff_eq]; exact k4
          have K1 := Lib.hid (show formV v = (decide (v.f1 = 0) && decide (v.f2 = 0) && v.f4.isEmpty && symB v.f3) from by rw [HE.out, if_neg k1, if_neg k2, if_neg k3, if_pos k4])
          clear k1 k2 k3 k4 he1 hk5
          rcases hle with ⟨hl1, hl2⟩ | ⟨hl1, hl2⟩
          · have HL := Lib.hid hl1
            clear hl1
            go_wp2_with (first | (go_at_call 113; refine (PS.out _).mono ?_; rintro e w1 ⟨rfl, hbw⟩))
            all_goals go_ret
            all_goals refine ⟨?_, (by first | exact below_alloc (Below.refl _ _) _ | exact (below_alloc (Below.refl W.heap.size W) _).trans (hbw.mono (by rw [alloc_size]; omega)))⟩
            all_goals (rw [K1.out]; simp only [HL.out]; (first | rfl | (simp [*]; done)))
          · have HL := Lib.hid hl1
            clear hl1
            go_wp2_with (first | (go_at_call 113; refine (PS.out _).mono ?_; rintro e w1 ⟨rfl, hbw⟩))
            all_goals go_ret
            all_goals refine ⟨?_, (by first | exact below_alloc (Below.refl _ _) _ | exact (below_alloc (Below.refl W.heap.size W) _).trans (hbw.mono (by rw [alloc_size]; omega)))⟩
            all_goals (rw [K1.out]; simp only [HL.out]; (first | rfl | (simp [*]; done)))
        · have n4 : (v.f0 == 4) = false := by rw [beq_eq_false_iff_ne]; exact k4
          have HR := Lib.hid (show formV v = false from by rw [HE.out, if_neg k1, if_neg k2, if_neg k3, if_neg k4, if_neg hk5])
          have n5 : (v.f0 == 5) = false := by rw [beq_eq_false_iff_ne]; omega
          have n6 : (v.f0 == 6) = false := by rw [beq_eq_false_iff_ne]; omega
          have n7 : (v.f0 == 7) = false := by rw [beq_eq_false_iff_ne]; omega
          clear k1 k2 k3 k4 hk5 he1 hle
          go_wp2
          all_goals go_ret
          all_goals exact ⟨by rw [HR.out]; rfl, below_alloc (Below.refl _ _) _⟩
end Go.Proofs.Ytofinglgnkdflaa
end
