/- Layer 3: BitsParts's walk. -/
import Derived.Test.YthfapneifbjlmaaDoorPa
import Derived.Test.YthfapneifbjlmaaDoorJ
namespace Go.Proofs.YthfapneifbjlmaaDoor
open Go.RowKit Go.Shelf
set_option linter.unusedVariables false
set_option linter.unusedSimpArgs false

/-- Put, whatever the number. -/
theorem Put_some {W : World} {g h room : Nat} {ws : List Nat} (H : IsSet W g h room ws) (i : Int) :
    Calls Tryd.prog 16 #[.pointer (some ⟨g, 0, none⟩), .int .i64 i] W fun e w' => ∃ (r : Int) (ws' : List Nat), e = .returned (.int .i64 r) ∧ IsSet w' g h room ws' ∧ Fr (fun k => k = h) W w' := by
  by_cases hi : 0 ≤ i ∧ i < room
  · exact (Put_set H i hi.1 hi.2).mono fun e w' ⟨h1, h2, h3⟩ => ⟨0, _, h1, h2, (Fr.of_grownBy h3).mono (fun k _ hk => by injection hk)⟩
  · exact (Put_out H i hi).mono fun e w' ⟨h1, h2⟩ => ⟨30, ws, h1, h2 ▸ H, h2 ▸ Fr.refl _ _⟩
theorem IsSet.fr {W W' : World} {g h room : Nat} {ws : List Nat} {M : Nat → Prop} (H : IsSet W g h room ws) (hf : Fr M W W') (hg : ¬ M g) (hh : ¬ M h) : IsSet W' g h room ws :=
  H.move (hf.block g H.lt.1 hg) (hf.block h H.lt.2.1 hh)
theorem z_w (ws vs : List Nat) (hvl : vs.length = ws.length) (hW1 : Words64 ws) (hW2 : Words64 vs) : ∀ j, j < (List.zipWith wout ws vs).length → wout (wd (List.zipWith wout ws vs) j) (wd ws j) = 0 := fun j hj => by
  have hj' : j < ws.length := by simpa [hvl] using hj
  rw [wd_zip _ _ _ hvl j hj']
  exact l_w (wd_lt hW1 j) (wd_lt hW2 j)
theorem z_u (ws vs : List Nat) (hvl : vs.length = ws.length) (hW1 : Words64 ws) (hW2 : Words64 vs) : ∀ j, j < (List.zipWith wand ws vs).length → wout (wd (List.zipWith wand ws vs) j) (wd vs j) = 0 := fun j hj => by
  have hj' : j < ws.length := by simpa [hvl] using hj
  rw [wd_zip _ _ _ hvl j hj']
  exact l_u (wd_lt hW1 j) (wd_lt hW2 j)
theorem Fr.below2 {M : Nat → Prop} {B : Nat} {a b : World} (h : Fr M a b) (hm : ∀ k, k < B → ¬ M k) (hB : B ≤ a.heap.size) : Below B a b := ⟨h.os, h.tape, h.output, h.size, fun i hi => h.block i (by omega) (hm i hi)⟩
/-- Numbers that lie in a row that came in. -/
def Nums (W : World) (A : Option Addr) (xs : List Int) : Prop := ∀ j, j < xs.length → ∃ ad, A = some ad ∧ W.cell? (ad.add j) = some (.int .i64 (nd xs j))
theorem bblock (a : Addr) (j : Nat) : (a.add j).block = a.block := by unfold Addr.add; split <;> rfl
theorem Nums.below {W W' : World} {A : Option Addr} {xs : List Int} (h : Nums W A xs) (hb : Below W.heap.size W W') : Nums W' A xs := fun j hj => by
  obtain ⟨ad, h1, h2⟩ := h j hj
  exact ⟨ad, h1, (hb.cell (by have := World.block_lt_of_cell? W _ h2; exact this)).trans h2⟩

set_option maxHeartbeats 1000000 in
theorem BitsParts_walk (W : World) (hT : Tab W) (n : Int) (A1 : Option Addr) (c1 : Nat) (xs : List Int) (A2 : Option Addr) (c2 : Nat) (ys : List Int) (h1 : Nums W A1 xs) (h2 : Nums W A2 ys) (hl1 : xs.length ≤ 1048576) (hl2 : ys.length ≤ 1048576) :
    Calls Tryd.prog 5 #[.int .i64 n, .slice A1 xs.length c1, .slice A2 ys.length c2] W fun e w' => e = .returned (.bool true) ∧ Below W.heap.size W w' := by
  by_cases hn : n < 0 ∨ 4096 < n
  · have hnew := Lib.hid (New_bad W n hn)
    have hh := Lib.hid (heads_any W hT)
    clear hn hT h1 h2
    go_enter Tryd.func5, Tryd.ntmps5
    go_wp2_with (first | (go_at_call 15; refine hnew.out.mono ?_; rintro e w1 ⟨rfl, rfl⟩) | (go_at_call 9; refine hh.out.mono ?_; rintro e w1 ⟨rfl, hb⟩))
    go_ret
    exact ⟨rfl, hb⟩
  · obtain ⟨m, rfl⟩ := Int.eq_ofNat_of_zero_le (show 0 ≤ n by omega)
    have hm : m ≤ 4096 := by omega
    have hnew := Lib.hid (New_ok W m hm)
    have HT := Lib.hid hT
    have H1 := Lib.hid h1
    have H2 := Lib.hid h2
    clear hn hT h1 h2
    go_enter Tryd.func5, Tryd.ntmps5
    go_wp2_with fail
    go_at_call 15
    refine hnew.out.mono ?_
    rintro e w1 ⟨g1, r1, rfl, hs1, hg1, hr1, hb1⟩
    have hnew2 := Lib.hid (New_ok w1 m hm)
    have HS1 := Lib.hid hs1
    have HB1 := Lib.hid hb1
    have hz1 := hb1.size
    have hk1 := hs1.lt
    clear hs1 hb1 hnew
    go_wp2_with fail
    go_at_call 15
    refine hnew2.out.mono ?_
    rintro e w2 ⟨g2, r2, rfl, hs2, hg2, hr2, hb2⟩
    have HS2 := Lib.hid hs2
    have HB2 := Lib.hid hb2
    have hz2 := hb2.size
    have hk2 := hs2.lt
    have hh := Lib.hid (heads_any w2 (HT.out.kept (M := fun _ => False) (.of_below (HB1.out.trans (hb2.mono hz1))) id))
    clear hs2 hb2 hnew2
    go_wp2_with fail
    go_at_call 9
    refine hh.out.mono ?_
    rintro e w3 ⟨rfl, hb3⟩
    have hz3 := hb3.size
    have hs3 : IsSet w3 g1 r1 m _ := (HS1.out.below HB2.out hk1.1 hk1.2.1).below hb3 (by omega) (by omega)
    have ht3 : IsSet w3 g2 r2 m _ := HS2.out.below hb3 hk2.1 hk2.2.1
    have hB3 : Below W.heap.size W w3 := (HB1.out.trans (HB2.out.mono hz1)).trans (hb3.mono (by omega))
    have HS3 := Lib.hid hs3
    have HT3 := Lib.hid ht3
    have HB3 := Lib.hid hB3
    clear hs3 ht3 hB3 hb3 hh
    go_wp2_with fail
    go_loopw [11] (fun i wr => ∃ (k : Nat) (us : List Nat), k ≤ xs.length ∧ i = .int .i64 k ∧ IsSet wr g1 r1 m us ∧ Fr (fun k => k = r1) w3 wr) (fun i _ => xs.length - (intOf i).toNat)
    case atStart => exact ⟨0, _, Nat.zero_le _, rfl, HS3.out, Fr.refl _ _⟩
    case round =>
      obtain ⟨k1, ws, hkk1, rfl, hset, hfr⟩ := hrel
      by_cases hlt : k1 < xs.length
      · obtain ⟨ad, rfl, hc⟩ := (H1.out.below (HB3.out.trans (hfr.below2 (B := W.heap.size) (fun k hk => by omega) (by omega)))) k1 hlt
        have hput := Lib.hid (Put_some hset (nd xs k1))
        have HFR := Lib.hid hfr
        clear hset hfr
        go_wp2_with fail
        go_at_call 16
        refine hput.out.mono ?_
        rintro e w' ⟨r, us', rfl, hs', hf'⟩
        have HS' := Lib.hid hs'
        have HF' := Lib.hid hf'
        clear hs' hf'
        go_wp2
        go_roundw
        case rel => exact ⟨k1 + 1, us', by omega, by simp, HS'.out, HFR.out.trans HF'.out⟩
        case measure => simp [intOf]; omega
      · obtain ⟨w4, hwn⟩ : ∃ w, w = wr := ⟨wr, rfl⟩
        subst hwn
        have hz4 := hfr.size
        have hB : Below W.heap.size W w4 := HB3.out.trans (hfr.below2 (B := W.heap.size) (fun k hk => by omega) (by omega))
        have hT' := HT3.out.fr hfr (by omega) (by omega)
        have hk41 := hset.lt
        have hk42 := hT'.lt
        have HS4 := Lib.hid hset
        have HT4 := Lib.hid hT'
        have HB4 := Lib.hid hB
        clear hset hfr hT' hB
        go_wp2_with fail
        go_loopw [12] (fun i wr => ∃ (k : Nat) (us : List Nat), k ≤ ys.length ∧ i = .int .i64 k ∧ IsSet wr g2 r2 m us ∧ Fr (fun k => k = r2) w4 wr) (fun i _ => ys.length - (intOf i).toNat)
        case atStart => exact ⟨0, _, Nat.zero_le _, rfl, HT4.out, Fr.refl _ _⟩
        case round =>
          obtain ⟨k2, vs, hkk2, rfl, hset, hfr⟩ := hrel
          by_cases hlt : k2 < ys.length
          · obtain ⟨ad, rfl, hc⟩ := (H2.out.below (HB4.out.trans (hfr.below2 (B := W.heap.size) (fun k hk => by omega) (by omega)))) k2 hlt
            have hput := Lib.hid (Put_some hset (nd ys k2))
            have HFR := Lib.hid hfr
            clear hset hfr
            go_wp2_with fail
            go_at_call 16
            refine hput.out.mono ?_
            rintro e w' ⟨r, us', rfl, hs', hf'⟩
            have HS' := Lib.hid hs'
            have HF' := Lib.hid hf'
            clear hs' hf'
            go_wp2
            go_roundw
            case rel => exact ⟨k2 + 1, us', by omega, by simp, HS'.out, HFR.out.trans HF'.out⟩
            case measure => simp [intOf]; omega
          · obtain ⟨w5, hwn⟩ : ∃ w, w = wr := ⟨wr, rfl⟩
            subst hwn
            have hz5 := hfr.size
            have hB5 : Below W.heap.size W w5 := HB4.out.trans (hfr.below2 (B := W.heap.size) (fun k hk => by omega) (by omega))
            have s1_5 : IsSet w5 g1 r1 m ws := HS4.out.fr hfr (by omega) (by omega)
            have s2_5 : IsSet w5 g2 r2 m vs := hset
            have hW1 : Words64 ws := s1_5.len.2.2
            have hW2 : Words64 vs := s2_5.len.2.2
            have hvl : vs.length = ws.length := by rw [s1_5.len.1, s2_5.len.1]
            have hlen : ws.length ≤ 64 := s1_5.small.1
            have l1 := s1_5.lt
            have l2 := s2_5.lt
            clear HS4 HT4 hset hfr
            have S1_5 := Lib.hid s1_5
            have S2_5 := Lib.hid s2_5
            have B_5 := Lib.hid hB5
            clear s1_5 s2_5 hB5
            have hcall := Lib.hid (Copy_set S1_5.out)
            go_wp2_with fail
            go_at_call 17
            refine hcall.out.mono ?_
            rintro e w6 ⟨g3, r3, rfl, s3_6, hg3, hr3, hb⟩
            have hz6 := hb.size
            have l3 := s3_6.lt
            have s1_6 : IsSet w6 g1 r1 m ws := S1_5.out.below hb (by omega) (by omega)
            have s2_6 : IsSet w6 g2 r2 m vs := S2_5.out.below hb (by omega) (by omega)
            have hB6 : Below W.heap.size W w6 := B_5.out.trans (hb.mono (by omega))
            clear hcall hb S1_5 S2_5 B_5
            have S1_6 := Lib.hid s1_6
            have S2_6 := Lib.hid s2_6
            have S3_6 := Lib.hid s3_6
            have B_6 := Lib.hid hB6
            clear s1_6 s2_6 s3_6 hB6
            have hcall := Lib.hid (Copy_set S1_6.out)
            go_wp2_with fail
            go_at_call 17
            refine hcall.out.mono ?_
            rintro e w7 ⟨g4, r4, rfl, s4_7, hg4, hr4, hb⟩
            have hz7 := hb.size
            have l4 := s4_7.lt
            have s1_7 : IsSet w7 g1 r1 m ws := S1_6.out.below hb (by omega) (by omega)
            have s2_7 : IsSet w7 g2 r2 m vs := S2_6.out.below hb (by omega) (by omega)
            have s3_7 : IsSet w7 g3 r3 m ws := S3_6.out.below hb (by omega) (by omega)
            have hB7 : Below W.heap.size W w7 := B_6.out.trans (hb.mono (by omega))
            clear hcall hb S1_6 S2_6 S3_6 B_6
            have S1_7 := Lib.hid s1_7
            have S2_7 := Lib.hid s2_7
            have S3_7 := Lib.hid s3_7
            have S4_7 := Lib.hid s4_7
            have B_7 := Lib.hid hB7
            clear s1_7 s2_7 s3_7 s4_7 hB7
            have hcall := Lib.hid (Copy_set S1_7.out)
            go_wp2_with fail
            go_at_call 17
            refine hcall.out.mono ?_
            rintro e w8 ⟨g5, r5, rfl, s5_8, hg5, hr5, hb⟩
            have hz8 := hb.size
            have l5 := s5_8.lt
            have s1_8 : IsSet w8 g1 r1 m ws := S1_7.out.below hb (by omega) (by omega)
            have s2_8 : IsSet w8 g2 r2 m vs := S2_7.out.below hb (by omega) (by omega)
            have s3_8 : IsSet w8 g3 r3 m ws := S3_7.out.below hb (by omega) (by omega)
            have s4_8 : IsSet w8 g4 r4 m ws := S4_7.out.below hb (by omega) (by omega)
            have hB8 : Below W.heap.size W w8 := B_7.out.trans (hb.mono (by omega))
            clear hcall hb S1_7 S2_7 S3_7 S4_7 B_7
            have S1_8 := Lib.hid s1_8
            have S2_8 := Lib.hid s2_8
            have S3_8 := Lib.hid s3_8
            have S4_8 := Lib.hid s4_8
            have S5_8 := Lib.hid s5_8
            have B_8 := Lib.hid hB8
            clear s1_8 s2_8 s3_8 s4_8 s5_8 hB8
            have hcall := Lib.hid (Without_set S3_8.out S2_8.out)
            go_wp2_with fail
            go_at_call 18
            refine hcall.out.mono ?_
            rintro e w9 ⟨rfl, s3_9, hf⟩
            have hz9 := hf.size
            have s1_9 : IsSet w9 g1 r1 m ws := S1_8.out.fr hf (by omega) (by omega)
            have s2_9 : IsSet w9 g2 r2 m vs := S2_8.out.fr hf (by omega) (by omega)
            have s4_9 : IsSet w9 g4 r4 m ws := S4_8.out.fr hf (by omega) (by omega)
            have s5_9 : IsSet w9 g5 r5 m ws := S5_8.out.fr hf (by omega) (by omega)
            have hB9 : Below W.heap.size W w9 := B_8.out.trans (hf.below2 (B := W.heap.size) (fun k hk => by omega) (by omega))
            clear hcall hf S1_8 S2_8 S3_8 S4_8 S5_8 B_8
            have S1_9 := Lib.hid s1_9
            have S2_9 := Lib.hid s2_9
            have S3_9 := Lib.hid s3_9
            have S4_9 := Lib.hid s4_9
            have S5_9 := Lib.hid s5_9
            have B_9 := Lib.hid hB9
            clear s1_9 s2_9 s3_9 s4_9 s5_9 hB9
            have hcall := Lib.hid (And_set S4_9.out S2_9.out)
            go_wp2_with fail
            go_at_call 19
            refine hcall.out.mono ?_
            rintro e w10 ⟨rfl, s4_10, hf⟩
            have hz10 := hf.size
            have s1_10 : IsSet w10 g1 r1 m ws := S1_9.out.fr hf (by omega) (by omega)
            have s2_10 : IsSet w10 g2 r2 m vs := S2_9.out.fr hf (by omega) (by omega)
            have s3_10 : IsSet w10 g3 r3 m (List.zipWith wout ws vs) := S3_9.out.fr hf (by omega) (by omega)
            have s5_10 : IsSet w10 g5 r5 m ws := S5_9.out.fr hf (by omega) (by omega)
            have hB10 : Below W.heap.size W w10 := B_9.out.trans (hf.below2 (B := W.heap.size) (fun k hk => by omega) (by omega))
            clear hcall hf S1_9 S2_9 S3_9 S4_9 S5_9 B_9
            have S1_10 := Lib.hid s1_10
            have S2_10 := Lib.hid s2_10
            have S3_10 := Lib.hid s3_10
            have S4_10 := Lib.hid s4_10
            have S5_10 := Lib.hid s5_10
            have B_10 := Lib.hid hB10
            clear s1_10 s2_10 s3_10 s4_10 s5_10 hB10
            have hcall := Lib.hid (Or_set S5_10.out S2_10.out)
            go_wp2_with fail
            go_at_call 20
            refine hcall.out.mono ?_
            rintro e w11 ⟨rfl, s5_11, hf⟩
            have hz11 := hf.size
            have s1_11 : IsSet w11 g1 r1 m ws := S1_10.out.fr hf (by omega) (by omega)
            have s2_11 : IsSet w11 g2 r2 m vs := S2_10.out.fr hf (by omega) (by omega)
            have s3_11 : IsSet w11 g3 r3 m (List.zipWith wout ws vs) := S3_10.out.fr hf (by omega) (by omega)
            have s4_11 : IsSet w11 g4 r4 m (List.zipWith wand ws vs) := S4_10.out.fr hf (by omega) (by omega)
            have hB11 : Below W.heap.size W w11 := B_10.out.trans (hf.below2 (B := W.heap.size) (fun k hk => by omega) (by omega))
            clear hcall hf S1_10 S2_10 S3_10 S4_10 S5_10 B_10
            have S1_11 := Lib.hid s1_11
            have S2_11 := Lib.hid s2_11
            have S3_11 := Lib.hid s3_11
            have S4_11 := Lib.hid s4_11
            have S5_11 := Lib.hid s5_11
            have B_11 := Lib.hid hB11
            clear s1_11 s2_11 s3_11 s4_11 s5_11 hB11
            have hcall := Lib.hid (Copy_set S3_11.out)
            go_wp2_with fail
            go_at_call 17
            refine hcall.out.mono ?_
            rintro e w12 ⟨g6, r6, rfl, s6_12, hg6, hr6, hb⟩
            have hz12 := hb.size
            have l6 := s6_12.lt
            have s1_12 : IsSet w12 g1 r1 m ws := S1_11.out.below hb (by omega) (by omega)
            have s2_12 : IsSet w12 g2 r2 m vs := S2_11.out.below hb (by omega) (by omega)
            have s3_12 : IsSet w12 g3 r3 m (List.zipWith wout ws vs) := S3_11.out.below hb (by omega) (by omega)
            have s4_12 : IsSet w12 g4 r4 m (List.zipWith wand ws vs) := S4_11.out.below hb (by omega) (by omega)
            have s5_12 : IsSet w12 g5 r5 m (List.zipWith wor ws vs) := S5_11.out.below hb (by omega) (by omega)
            have hB12 : Below W.heap.size W w12 := B_11.out.trans (hb.mono (by omega))
            clear hcall hb S1_11 S2_11 S3_11 S4_11 S5_11 B_11
            have S1_12 := Lib.hid s1_12
            have S2_12 := Lib.hid s2_12
            have S3_12 := Lib.hid s3_12
            have S4_12 := Lib.hid s4_12
            have S5_12 := Lib.hid s5_12
            have S6_12 := Lib.hid s6_12
            have B_12 := Lib.hid hB12
            clear s1_12 s2_12 s3_12 s4_12 s5_12 s6_12 hB12
            have hcall := Lib.hid (Copy_set S3_12.out)
            go_wp2_with fail
            go_at_call 17
            refine hcall.out.mono ?_
            rintro e w13 ⟨g7, r7, rfl, s7_13, hg7, hr7, hb⟩
            have hz13 := hb.size
            have l7 := s7_13.lt
            have s1_13 : IsSet w13 g1 r1 m ws := S1_12.out.below hb (by omega) (by omega)
            have s2_13 : IsSet w13 g2 r2 m vs := S2_12.out.below hb (by omega) (by omega)
            have s3_13 : IsSet w13 g3 r3 m (List.zipWith wout ws vs) := S3_12.out.below hb (by omega) (by omega)
            have s4_13 : IsSet w13 g4 r4 m (List.zipWith wand ws vs) := S4_12.out.below hb (by omega) (by omega)
            have s5_13 : IsSet w13 g5 r5 m (List.zipWith wor ws vs) := S5_12.out.below hb (by omega) (by omega)
            have s6_13 : IsSet w13 g6 r6 m (List.zipWith wout ws vs) := S6_12.out.below hb (by omega) (by omega)
            have hB13 : Below W.heap.size W w13 := B_12.out.trans (hb.mono (by omega))
            clear hcall hb S1_12 S2_12 S3_12 S4_12 S5_12 S6_12 B_12
            have S1_13 := Lib.hid s1_13
            have S2_13 := Lib.hid s2_13
            have S3_13 := Lib.hid s3_13
            have S4_13 := Lib.hid s4_13
            have S5_13 := Lib.hid s5_13
            have S6_13 := Lib.hid s6_13
            have S7_13 := Lib.hid s7_13
            have B_13 := Lib.hid hB13
            clear s1_13 s2_13 s3_13 s4_13 s5_13 s6_13 s7_13 hB13
            have hcall := Lib.hid (And_set S6_13.out S4_13.out)
            go_wp2_with fail
            go_at_call 19
            refine hcall.out.mono ?_
            rintro e w14 ⟨rfl, s6_14, hf⟩
            have hz14 := hf.size
            have s1_14 : IsSet w14 g1 r1 m ws := S1_13.out.fr hf (by omega) (by omega)
            have s2_14 : IsSet w14 g2 r2 m vs := S2_13.out.fr hf (by omega) (by omega)
            have s3_14 : IsSet w14 g3 r3 m (List.zipWith wout ws vs) := S3_13.out.fr hf (by omega) (by omega)
            have s4_14 : IsSet w14 g4 r4 m (List.zipWith wand ws vs) := S4_13.out.fr hf (by omega) (by omega)
            have s5_14 : IsSet w14 g5 r5 m (List.zipWith wor ws vs) := S5_13.out.fr hf (by omega) (by omega)
            have s7_14 : IsSet w14 g7 r7 m (List.zipWith wout ws vs) := S7_13.out.fr hf (by omega) (by omega)
            have hB14 : Below W.heap.size W w14 := B_13.out.trans (hf.below2 (B := W.heap.size) (fun k hk => by omega) (by omega))
            clear hcall hf S1_13 S2_13 S3_13 S4_13 S5_13 S6_13 S7_13 B_13
            have S1_14 := Lib.hid s1_14
            have S2_14 := Lib.hid s2_14
            have S3_14 := Lib.hid s3_14
            have S4_14 := Lib.hid s4_14
            have S5_14 := Lib.hid s5_14
            have S6_14 := Lib.hid s6_14
            have S7_14 := Lib.hid s7_14
            have B_14 := Lib.hid hB14
            clear s1_14 s2_14 s3_14 s4_14 s5_14 s6_14 s7_14 hB14
            have hcall := Lib.hid (Or_set S7_14.out S4_14.out)
            go_wp2_with fail
            go_at_call 20
            refine hcall.out.mono ?_
            rintro e w15 ⟨rfl, s7_15, hf⟩
            have hz15 := hf.size
            have s1_15 : IsSet w15 g1 r1 m ws := S1_14.out.fr hf (by omega) (by omega)
            have s2_15 : IsSet w15 g2 r2 m vs := S2_14.out.fr hf (by omega) (by omega)
            have s3_15 : IsSet w15 g3 r3 m (List.zipWith wout ws vs) := S3_14.out.fr hf (by omega) (by omega)
            have s4_15 : IsSet w15 g4 r4 m (List.zipWith wand ws vs) := S4_14.out.fr hf (by omega) (by omega)
            have s5_15 : IsSet w15 g5 r5 m (List.zipWith wor ws vs) := S5_14.out.fr hf (by omega) (by omega)
            have s6_15 : IsSet w15 g6 r6 m (List.zipWith wand (List.zipWith wout ws vs) (List.zipWith wand ws vs)) := S6_14.out.fr hf (by omega) (by omega)
            have hB15 : Below W.heap.size W w15 := B_14.out.trans (hf.below2 (B := W.heap.size) (fun k hk => by omega) (by omega))
            clear hcall hf S1_14 S2_14 S3_14 S4_14 S5_14 S6_14 S7_14 B_14
            have S1_15 := Lib.hid s1_15
            have S2_15 := Lib.hid s2_15
            have S3_15 := Lib.hid s3_15
            have S4_15 := Lib.hid s4_15
            have S5_15 := Lib.hid s5_15
            have S6_15 := Lib.hid s6_15
            have S7_15 := Lib.hid s7_15
            have B_15 := Lib.hid hB15
            clear s1_15 s2_15 s3_15 s4_15 s5_15 s6_15 s7_15 hB15
            obtain ⟨N3, hN3⟩ : ∃ N, N = (mems 0 (List.zipWith wout ws vs)).length := ⟨_, rfl⟩
            obtain ⟨N2, hN2⟩ : ∃ N, N = (mems 0 vs).length := ⟨_, rfl⟩
            have hb3 : N3 ≤ 4096 := by rw [hN3]; have := mems_len_le (List.zipWith wout ws vs) 0; have : (List.zipWith wout ws vs).length ≤ 64 := by simp; omega
                                       omega
            have hb2 : N2 ≤ 4096 := by rw [hN2]; have := mems_len_le vs 0; omega
            have hN5 : (mems 0 (List.zipWith wor ws vs)).length = N3 + N2 := by rw [hN3, hN2]; exact mems_count ws vs 0 hvl hW1 hW2
            have HN3 := Lib.hid hN3
            have HN2 := Lib.hid hN2
            have HN5 := Lib.hid hN5
            clear hN3 hN2 hN5
            have hcall : Calls Tryd.prog 21 #[.pointer (some ⟨g6, 0, none⟩)] w15 fun e w' => e = .returned (.int .i64 0) ∧ w15 = w' := by have h := Count_set S6_15.out; rw [mems_none ws vs 0 hW1 hW2] at h; exact h
            have HC := Lib.hid hcall
            clear hcall
            go_wp2_with fail
            go_at_call 21
            refine HC.out.mono ?_
            rintro e w' ⟨rfl, rfl⟩
            clear HC
            have hcall := Lib.hid (Same_set S7_15.out S1_15.out)
            go_wp2_with fail
            go_at_call 22
            refine hcall.out.mono ?_
            rintro e w16 ⟨⟨b, rfl, hb⟩, na, hna⟩
            obtain rfl : b = true := hb.2 (zip_both ws vs hvl hW1 hW2)
            have hfn : Fr (fun _ => False) w15 w16 := hna ▸ Fr.drewN _ w15 na
            have hz16 := hfn.size
            have s1_16 : IsSet w16 g1 r1 m ws := S1_15.out.fr hfn id id
            have s2_16 : IsSet w16 g2 r2 m vs := S2_15.out.fr hfn id id
            have s3_16 : IsSet w16 g3 r3 m (List.zipWith wout ws vs) := S3_15.out.fr hfn id id
            have s4_16 : IsSet w16 g4 r4 m (List.zipWith wand ws vs) := S4_15.out.fr hfn id id
            have s5_16 : IsSet w16 g5 r5 m (List.zipWith wor ws vs) := S5_15.out.fr hfn id id
            have s6_16 : IsSet w16 g6 r6 m (List.zipWith wand (List.zipWith wout ws vs) (List.zipWith wand ws vs)) := S6_15.out.fr hfn id id
            have s7_16 : IsSet w16 g7 r7 m (List.zipWith wor (List.zipWith wout ws vs) (List.zipWith wand ws vs)) := S7_15.out.fr hfn id id
            have hB16 : Below W.heap.size W w16 := B_15.out.trans (hfn.below2 (B := W.heap.size) (fun k hk => id) (by omega))
            clear hcall hb hna hfn S1_15 S2_15 S3_15 S4_15 S5_15 S6_15 S7_15 B_15
            have S1_16 := Lib.hid s1_16
            have S2_16 := Lib.hid s2_16
            have S3_16 := Lib.hid s3_16
            have S4_16 := Lib.hid s4_16
            have S5_16 := Lib.hid s5_16
            have S6_16 := Lib.hid s6_16
            have S7_16 := Lib.hid s7_16
            have B_16 := Lib.hid hB16
            clear s1_16 s2_16 s3_16 s4_16 s5_16 s6_16 s7_16 hB16
            have hcall := Lib.hid (Within_set S3_16.out S1_16.out)
            go_wp2_with fail
            go_at_call 23
            refine hcall.out.mono ?_
            rintro e w17 ⟨⟨b, rfl, hb⟩, na, hna⟩
            obtain rfl : b = true := hb.2 (z_w ws vs hvl hW1 hW2)
            have hfn : Fr (fun _ => False) w16 w17 := hna ▸ Fr.drewN _ w16 na
            have hz17 := hfn.size
            have s1_17 : IsSet w17 g1 r1 m ws := S1_16.out.fr hfn id id
            have s2_17 : IsSet w17 g2 r2 m vs := S2_16.out.fr hfn id id
            have s3_17 : IsSet w17 g3 r3 m (List.zipWith wout ws vs) := S3_16.out.fr hfn id id
            have s4_17 : IsSet w17 g4 r4 m (List.zipWith wand ws vs) := S4_16.out.fr hfn id id
            have s5_17 : IsSet w17 g5 r5 m (List.zipWith wor ws vs) := S5_16.out.fr hfn id id
            have s6_17 : IsSet w17 g6 r6 m (List.zipWith wand (List.zipWith wout ws vs) (List.zipWith wand ws vs)) := S6_16.out.fr hfn id id
            have s7_17 : IsSet w17 g7 r7 m (List.zipWith wor (List.zipWith wout ws vs) (List.zipWith wand ws vs)) := S7_16.out.fr hfn id id
            have hB17 : Below W.heap.size W w17 := B_16.out.trans (hfn.below2 (B := W.heap.size) (fun k hk => id) (by omega))
            clear hcall hb hna hfn S1_16 S2_16 S3_16 S4_16 S5_16 S6_16 S7_16 B_16
            have S1_17 := Lib.hid s1_17
            have S2_17 := Lib.hid s2_17
            have S3_17 := Lib.hid s3_17
            have S4_17 := Lib.hid s4_17
            have S5_17 := Lib.hid s5_17
            have S6_17 := Lib.hid s6_17
            have S7_17 := Lib.hid s7_17
            have B_17 := Lib.hid hB17
            clear s1_17 s2_17 s3_17 s4_17 s5_17 s6_17 s7_17 hB17
            have hcall := Lib.hid (Within_set S4_17.out S2_17.out)
            go_wp2_with fail
            go_at_call 23
            refine hcall.out.mono ?_
            rintro e w18 ⟨⟨b, rfl, hb⟩, na, hna⟩
            obtain rfl : b = true := hb.2 (z_u ws vs hvl hW1 hW2)
            have hfn : Fr (fun _ => False) w17 w18 := hna ▸ Fr.drewN _ w17 na
            have hz18 := hfn.size
            have s1_18 : IsSet w18 g1 r1 m ws := S1_17.out.fr hfn id id
            have s2_18 : IsSet w18 g2 r2 m vs := S2_17.out.fr hfn id id
            have s3_18 : IsSet w18 g3 r3 m (List.zipWith wout ws vs) := S3_17.out.fr hfn id id
            have s4_18 : IsSet w18 g4 r4 m (List.zipWith wand ws vs) := S4_17.out.fr hfn id id
            have s5_18 : IsSet w18 g5 r5 m (List.zipWith wor ws vs) := S5_17.out.fr hfn id id
            have s6_18 : IsSet w18 g6 r6 m (List.zipWith wand (List.zipWith wout ws vs) (List.zipWith wand ws vs)) := S6_17.out.fr hfn id id
            have s7_18 : IsSet w18 g7 r7 m (List.zipWith wor (List.zipWith wout ws vs) (List.zipWith wand ws vs)) := S7_17.out.fr hfn id id
            have hB18 : Below W.heap.size W w18 := B_17.out.trans (hfn.below2 (B := W.heap.size) (fun k hk => id) (by omega))
            clear hcall hb hna hfn S1_17 S2_17 S3_17 S4_17 S5_17 S6_17 S7_17 B_17
            have S1_18 := Lib.hid s1_18
            have S2_18 := Lib.hid s2_18
            have S3_18 := Lib.hid s3_18
            have S4_18 := Lib.hid s4_18
            have S5_18 := Lib.hid s5_18
            have S6_18 := Lib.hid s6_18
            have S7_18 := Lib.hid s7_18
            have B_18 := Lib.hid hB18
            clear s1_18 s2_18 s3_18 s4_18 s5_18 s6_18 s7_18 hB18
            have hcall := Lib.hid (Within_set S1_18.out S5_18.out)
            go_wp2_with fail
            go_at_call 23
            refine hcall.out.mono ?_
            rintro e w19 ⟨⟨b, rfl, hb⟩, na, hna⟩
            obtain rfl : b = true := hb.2 (fun j hj => by rw [wd_zip _ _ _ hvl j hj]; exact l_s (wd_lt hW1 j) (wd_lt hW2 j))
            have hfn : Fr (fun _ => False) w18 w19 := hna ▸ Fr.drewN _ w18 na
            have hz19 := hfn.size
            have s1_19 : IsSet w19 g1 r1 m ws := S1_18.out.fr hfn id id
            have s2_19 : IsSet w19 g2 r2 m vs := S2_18.out.fr hfn id id
            have s3_19 : IsSet w19 g3 r3 m (List.zipWith wout ws vs) := S3_18.out.fr hfn id id
            have s4_19 : IsSet w19 g4 r4 m (List.zipWith wand ws vs) := S4_18.out.fr hfn id id
            have s5_19 : IsSet w19 g5 r5 m (List.zipWith wor ws vs) := S5_18.out.fr hfn id id
            have s6_19 : IsSet w19 g6 r6 m (List.zipWith wand (List.zipWith wout ws vs) (List.zipWith wand ws vs)) := S6_18.out.fr hfn id id
            have s7_19 : IsSet w19 g7 r7 m (List.zipWith wor (List.zipWith wout ws vs) (List.zipWith wand ws vs)) := S7_18.out.fr hfn id id
            have hB19 : Below W.heap.size W w19 := B_18.out.trans (hfn.below2 (B := W.heap.size) (fun k hk => id) (by omega))
            clear hcall hb hna hfn S1_18 S2_18 S3_18 S4_18 S5_18 S6_18 S7_18 B_18
            have S1_19 := Lib.hid s1_19
            have S2_19 := Lib.hid s2_19
            have S3_19 := Lib.hid s3_19
            have S4_19 := Lib.hid s4_19
            have S5_19 := Lib.hid s5_19
            have S6_19 := Lib.hid s6_19
            have S7_19 := Lib.hid s7_19
            have B_19 := Lib.hid hB19
            clear s1_19 s2_19 s3_19 s4_19 s5_19 s6_19 s7_19 hB19
            have hcall := Lib.hid (Within_set S2_19.out S5_19.out)
            go_wp2_with fail
            go_at_call 23
            refine hcall.out.mono ?_
            rintro e w20 ⟨⟨b, rfl, hb⟩, na, hna⟩
            obtain rfl : b = true := hb.2 (fun j hj => by rw [wd_zip _ _ _ hvl j (by omega)]; exact l_t (wd_lt hW1 j) (wd_lt hW2 j))
            have hfn : Fr (fun _ => False) w19 w20 := hna ▸ Fr.drewN _ w19 na
            have hz20 := hfn.size
            have s1_20 : IsSet w20 g1 r1 m ws := S1_19.out.fr hfn id id
            have s2_20 : IsSet w20 g2 r2 m vs := S2_19.out.fr hfn id id
            have s3_20 : IsSet w20 g3 r3 m (List.zipWith wout ws vs) := S3_19.out.fr hfn id id
            have s4_20 : IsSet w20 g4 r4 m (List.zipWith wand ws vs) := S4_19.out.fr hfn id id
            have s5_20 : IsSet w20 g5 r5 m (List.zipWith wor ws vs) := S5_19.out.fr hfn id id
            have s6_20 : IsSet w20 g6 r6 m (List.zipWith wand (List.zipWith wout ws vs) (List.zipWith wand ws vs)) := S6_19.out.fr hfn id id
            have s7_20 : IsSet w20 g7 r7 m (List.zipWith wor (List.zipWith wout ws vs) (List.zipWith wand ws vs)) := S7_19.out.fr hfn id id
            have hB20 : Below W.heap.size W w20 := B_19.out.trans (hfn.below2 (B := W.heap.size) (fun k hk => id) (by omega))
            clear hcall hb hna hfn S1_19 S2_19 S3_19 S4_19 S5_19 S6_19 S7_19 B_19
            have S1_20 := Lib.hid s1_20
            have S2_20 := Lib.hid s2_20
            have S3_20 := Lib.hid s3_20
            have S4_20 := Lib.hid s4_20
            have S5_20 := Lib.hid s5_20
            have S6_20 := Lib.hid s6_20
            have S7_20 := Lib.hid s7_20
            have B_20 := Lib.hid hB20
            clear s1_20 s2_20 s3_20 s4_20 s5_20 s6_20 s7_20 hB20
            have hcall : Calls Tryd.prog 21 #[.pointer (some ⟨g5, 0, none⟩)] w20 fun e w' => e = .returned (.int .i64 ((N3 + N2 : Nat) : Int)) ∧ w20 = w' := by have h := Count_set S5_20.out; rw [HN5.out] at h; exact h
            have HC := Lib.hid hcall
            clear hcall
            go_wp2_with fail
            go_at_call 21
            refine HC.out.mono ?_
            rintro e w' ⟨rfl, rfl⟩
            clear HC
            have hcall : Calls Tryd.prog 21 #[.pointer (some ⟨g3, 0, none⟩)] w20 fun e w' => e = .returned (.int .i64 N3) ∧ w20 = w' := by have h := Count_set S3_20.out; rw [← HN3.out] at h; exact h
            have HC := Lib.hid hcall
            clear hcall
            go_wp2_with fail
            go_at_call 21
            refine HC.out.mono ?_
            rintro e w' ⟨rfl, rfl⟩
            clear HC
            have hcall : Calls Tryd.prog 21 #[.pointer (some ⟨g2, 0, none⟩)] w20 fun e w' => e = .returned (.int .i64 N2) ∧ w20 = w' := by have h := Count_set S2_20.out; rw [← HN2.out] at h; exact h
            have HC := Lib.hid hcall
            clear hcall
            go_wp2_with fail
            go_at_call 21
            refine HC.out.mono ?_
            rintro e w' ⟨rfl, rfl⟩
            clear HC
            go_wp2
            go_ret
            exact ⟨rfl, B_20.out⟩
end Go.Proofs.YthfapneifbjlmaaDoor
