/- The reference of layer 2: one rune. -/
import Derived.Test.YtofinglgnkdflaaLXC
import Derived.BigQuiet
import Derived.BigRegion
namespace Go.Proofs.Ytofinglgnkdflaa
open Go.RowKit
open Go.Proofs.Ytofinglgnkdflaa.PHistoryChecks Go.Proofs.YtofinglgnkdflaaW.PrintWords Go.Proofs.YtofinglgnkdflaaW.PrintLast Go.Proofs.YtofinglgnkdflaaW.PrintMore
set_option linter.unusedVariables false
set_option linter.unusedSimpArgs false
def contV (s : ByteArray) (j lo hi : Int) : Bool := decide (j < (s.size : Int)) && (decide (lo ≤ bt s j) && decide (bt s j ≤ hi))
set_option maxHeartbeats 2000000 in
set_option maxRecDepth 100000 in
theorem cont_any (W : World) (s : ByteArray) (j lo hi : Int) (h0 : 0 ≤ j) : Calls Try.prog 119 #[.string s, .int .i64 j, .int .u8 lo, .int .u8 hi] W (fun e w' => e = .returned (.bool (contV s j lo hi)) ∧ Below W.heap.size W w') := by
  have HB := Lib.hid (Below.refl W.heap.size W)
  obtain ⟨r, hr⟩ : ∃ r, r = contV s j lo hi := ⟨_, rfl⟩
  rw [← hr]
  unfold contV at hr
  by_cases h1 : j < (s.size : Int)
  · have hb := bt_at s j
    obtain ⟨b, hbe⟩ : ∃ b, b = bt s j := ⟨_, rfl⟩
    rw [← hbe] at hb hr
    have c1 : decide (j < (s.size : Int)) = true := decide_eq_true h1
    clear hbe
    by_cases h2 : lo ≤ b
    · have c2 : decide (lo ≤ b) = true := decide_eq_true h2
      by_cases h3 : b ≤ hi
      · have c3 : decide (b ≤ hi) = true := decide_eq_true h3
        have HR := Lib.hid (show r = true from by rw [hr, c1, c2, c3]; rfl)
        clear hr
        go_enter Try.func119, Try.ntmps119
        go_wp2
        go_ret
        exact ⟨by rw [HR.out]; rfl, HB.out⟩
      · have c3 : decide (b ≤ hi) = false := decide_eq_false h3
        have HR := Lib.hid (show r = false from by rw [hr, c1, c2, c3]; rfl)
        clear hr h3
        go_enter Try.func119, Try.ntmps119
        go_wp2
        go_ret
        exact ⟨by rw [HR.out]; rfl, HB.out⟩
    · have c2 : decide (lo ≤ b) = false := decide_eq_false h2
      have HR := Lib.hid (show r = false from by rw [hr, c1, c2]; rfl)
      clear hr h2
      go_enter Try.func119, Try.ntmps119
      go_wp2
      go_ret
      exact ⟨by rw [HR.out]; rfl, HB.out⟩
  · have c1 : decide (j < (s.size : Int)) = false := decide_eq_false h1
    have HR := Lib.hid (show r = false from by rw [hr, c1]; rfl)
    clear hr h1
    go_enter Try.func119, Try.ntmps119
    go_wp2
    go_ret
    exact ⟨by rw [HR.out]; rfl, HB.out⟩
theorem w64i {n : Int} (h0 : 0 ≤ n) (h1 : n ≤ 9223372036854775807) : wrap64 n = n := by unfold wrap64; omega
theorem and31 : ∀ x : Fin 256, Go.bits .and .u8 (x.val : Int) 31 = ((x.val % 32 : Nat) : Int) := by decide +kernel
theorem and15 : ∀ x : Fin 256, Go.bits .and .u8 (x.val : Int) 15 = ((x.val % 16 : Nat) : Int) := by decide +kernel
theorem and7 : ∀ x : Fin 256, Go.bits .and .u8 (x.val : Int) 7 = ((x.val % 8 : Nat) : Int) := by decide +kernel
theorem and63 : ∀ x : Fin 256, Go.bits .and .u8 (x.val : Int) 63 = ((x.val % 64 : Nat) : Int) := by decide +kernel
theorem or64 (a b : Nat) (ha : a < 4294967296) (hb : b < 4294967296) : Go.bits .or .i64 (a : Int) (b : Int) = ((a ||| b : Nat) : Int) := by
  have hx : a ||| b < 2 ^ 32 := Nat.or_lt_two_pow (by omega) (by omega)
  show IntKind.i64.wrap ((BitVec.ofInt 64 (a : Int) ||| BitVec.ofInt 64 (b : Int)).toNat : Int) = _
  rw [BitVec.toNat_or, ofInt_u64 a (by omega), ofInt_u64 b (by omega)]
  exact IntWalk.i64_in _ (by omega)
theorem or_low (i a b : Nat) (hb : b < 2 ^ i) (ha : 2 ^ i * a < 4294967296) (hb2 : b < 4294967296) : Go.bits .or .i64 ((2 ^ i * a : Nat) : Int) (b : Int) = ((2 ^ i * a + b : Nat) : Int) := by
  rw [or64 _ _ ha hb2, Nat.two_pow_add_eq_or_of_lt hb]
def bb (s : ByteArray) (i : Nat) : Nat := (s.get! i).toNat
theorem bb_lt (s : ByteArray) (i : Nat) : bb s i < 256 := UInt8.toNat_lt _
theorem bt_bb (s : ByteArray) (i : Nat) (h : i < s.size) : bt s (i : Int) = (bb s i : Int) := by
  simp [bt, h, bb, ByteArray.get!, ByteArray.get, getElem!_pos]
  rfl
def decB (c1 c2 c3 : Bool) (b0 b1 b2 b3 : Nat) : Nat × Nat :=
  if b0 < 0x80 then (b0, 1)
  else if b0 / 32 == 6 && c1 then
    if (b0 % 32) * 64 + b1 % 64 ≥ 0x80 then ((b0 % 32) * 64 + b1 % 64, 2) else (Utf8.runeError, 1)
  else if b0 / 16 == 14 && c1 && c2 then
    if (b0 % 16) * 4096 + (b1 % 64) * 64 + b2 % 64 ≥ 0x800 && Utf8.valid ((b0 % 16) * 4096 + (b1 % 64) * 64 + b2 % 64 : Nat) then ((b0 % 16) * 4096 + (b1 % 64) * 64 + b2 % 64, 3) else (Utf8.runeError, 1)
  else if b0 / 8 == 30 && c1 && c2 && c3 then
    if (b0 % 8) * 262144 + (b1 % 64) * 4096 + (b2 % 64) * 64 + b3 % 64 ≥ 0x10000 && Utf8.valid ((b0 % 8) * 262144 + (b1 % 64) * 4096 + (b2 % 64) * 64 + b3 % 64 : Nat) then ((b0 % 8) * 262144 + (b1 % 64) * 4096 + (b2 % 64) * 64 + b3 % 64, 4) else (Utf8.runeError, 1)
  else (Utf8.runeError, 1)
def contB (s : ByteArray) (i : Nat) : Bool := decide (i < s.size) && bb s i / 64 == 2
theorem decode_bb (s : ByteArray) (i : Nat) : Utf8.decode s i = decB (contB s (i + 1)) (contB s (i + 2)) (contB s (i + 3)) (bb s i) (bb s (i + 1)) (bb s (i + 2)) (bb s (i + 3)) := rfl
theorem contB_spec {s : ByteArray} {i : Nat} (h : contB s i = true) : i < s.size ∧ 128 ≤ bb s i ∧ bb s i ≤ 191 := by
  unfold contB at h
  simp only [Bool.and_eq_true, decide_eq_true_eq, beq_iff_eq] at h
  omega
def OneR (s : ByteArray) (i : Nat) (R wd : Int) : Prop := wd = ((Utf8.decode s i).2 : Int) ∧ (R = ((Utf8.decode s i).1 : Int) ∨ (R = -1 ∧ (Utf8.decode s i).1 = 65533))
def OneP (s : ByteArray) (i : Nat) (a : Int) (W : World) (e : Ending) (w' : World) : Prop := ∃ R wd : Int, e = .returned (.agg #[.int .i64 R, .int .i64 a, .int .i64 wd]) ∧ OneR s i R wd ∧ Below W.heap.size W w'
theorem one_fin {W w1 : World} {act : Act} {s : ByteArray} {i : Nat} {a R wd : Int} {c : Array Value} (hx : w1.heap[W.heap.size]? = some (.cells c 153 (0, 0))) (h3 : c.size = 3) (hB : Below W.heap.size W w1) (h4 : act.tmps[4]? = some (.pointer (some ⟨W.heap.size, 0, none⟩))) (hd : act.defers = []) (h : OneR s i R wd) :
    bodyPost Try.prog Try.f117 (OneP s i a W) Exit.ret act (((w1.setCell ⟨W.heap.size, 0, none⟩ (.int .i64 R)).setCell ⟨W.heap.size, 1, none⟩ (.int .i64 a)).setCell ⟨W.heap.size, 2, none⟩ (.int .i64 wd)) := by
  obtain ⟨c0, c1, c2, rfl⟩ : ∃ c0 c1 c2, c = #[c0, c1, c2] := by
    match c, h3 with
    | ⟨[a, b, d]⟩, _ => exact ⟨a, b, d, rfl⟩
  obtain ⟨Wf, hWf⟩ : ∃ Wf, Wf = ((w1.setCell ⟨W.heap.size, 0, none⟩ (.int .i64 R)).setCell ⟨W.heap.size, 1, none⟩ (.int .i64 a)).setCell ⟨W.heap.size, 2, none⟩ (.int .i64 wd) := ⟨_, rfl⟩
  have h0 : (w1.setCell ⟨W.heap.size, 0, none⟩ (.int .i64 R)).heap[W.heap.size]? = some (.cells #[.int .i64 R, c1, c2] 153 (0, 0)) := blk_set hx 0 _
  have h1 : ((w1.setCell ⟨W.heap.size, 0, none⟩ (.int .i64 R)).setCell ⟨W.heap.size, 1, none⟩ (.int .i64 a)).heap[W.heap.size]? = some (.cells #[.int .i64 R, .int .i64 a, c2] 153 (0, 0)) := blk_set h0 1 _
  have ha : Wf.heap[W.heap.size]? = some (.cells #[.int .i64 R, .int .i64 a, .int .i64 wd] 153 (0, 0)) := by rw [hWf]; exact blk_set h1 2 _
  have hb : Below W.heap.size W Wf := by
    rw [hWf]
    exact ((hB.setCell (p := ⟨W.heap.size, 0, none⟩) (Nat.le_refl _) _).setCell (p := ⟨W.heap.size, 1, none⟩) (Nat.le_refl _) _).setCell (p := ⟨W.heap.size, 2, none⟩) (Nat.le_refl _) _
  rw [← hWf]
  have t0 : Wf.cell? ⟨W.heap.size, 0, none⟩ = some (.int .i64 R) := (blk_cell ha 0).trans rfl
  have t1 : Wf.cell? ⟨W.heap.size, 1, none⟩ = some (.int .i64 a) := (blk_cell ha 1).trans rfl
  have t2 : Wf.cell? ⟨W.heap.size, 2, none⟩ = some (.int .i64 wd) := (blk_cell ha 2).trans rfl
  exact bodyPost_ret (v := .agg #[.int .i64 R, .int .i64 a, .int .i64 wd]) (by simp [results, Try.results117, go_sem, h4, t0, t1, t2]) hd ⟨R, wd, rfl, h, hb⟩
theorem one_finD {W w1 : World} {act : Act} {s : ByteArray} {i : Nat} {a R wd : Int} {c : Array Value} (hx : w1.heap[W.heap.size]? = some (.cells c 153 (0, 0))) (h3 : c.size = 3) (hB : Below W.heap.size W w1) (h4 : act.tmps[4]? = some (.pointer (some ⟨W.heap.size, 0, none⟩))) (hd : act.defers = []) (h : OneR s i R wd) :
    bodyPost Try.prog Try.f117 (OneP s i a W) Exit.ret act (((w1.setCell ⟨W.heap.size, 0, none⟩ (.int .i64 R)).setCell ⟨W.heap.size, 1, none⟩ (.int .i64 a)).setCell ⟨W.heap.size, 2, none⟩ (.int .i64 wd)).drew := by
  obtain ⟨c0, c1, c2, rfl⟩ : ∃ c0 c1 c2, c = #[c0, c1, c2] := by
    match c, h3 with
    | ⟨[a, b, d]⟩, _ => exact ⟨a, b, d, rfl⟩
  obtain ⟨Wf, hWf⟩ : ∃ Wf, Wf = (((w1.setCell ⟨W.heap.size, 0, none⟩ (.int .i64 R)).setCell ⟨W.heap.size, 1, none⟩ (.int .i64 a)).setCell ⟨W.heap.size, 2, none⟩ (.int .i64 wd)).drew := ⟨_, rfl⟩
  have h0 : (w1.setCell ⟨W.heap.size, 0, none⟩ (.int .i64 R)).heap[W.heap.size]? = some (.cells #[.int .i64 R, c1, c2] 153 (0, 0)) := blk_set hx 0 _
  have h1 : ((w1.setCell ⟨W.heap.size, 0, none⟩ (.int .i64 R)).setCell ⟨W.heap.size, 1, none⟩ (.int .i64 a)).heap[W.heap.size]? = some (.cells #[.int .i64 R, .int .i64 a, c2] 153 (0, 0)) := blk_set h0 1 _
  have ha : Wf.heap[W.heap.size]? = some (.cells #[.int .i64 R, .int .i64 a, .int .i64 wd] 153 (0, 0)) := by rw [hWf]; exact blk_set h1 2 _
  have hb : Below W.heap.size W Wf := by
    rw [hWf]
    exact below_drew (((hB.setCell (p := ⟨W.heap.size, 0, none⟩) (Nat.le_refl _) _).setCell (p := ⟨W.heap.size, 1, none⟩) (Nat.le_refl _) _).setCell (p := ⟨W.heap.size, 2, none⟩) (Nat.le_refl _) _)
  rw [← hWf]
  have t0 : Wf.cell? ⟨W.heap.size, 0, none⟩ = some (.int .i64 R) := (blk_cell ha 0).trans rfl
  have t1 : Wf.cell? ⟨W.heap.size, 1, none⟩ = some (.int .i64 a) := (blk_cell ha 1).trans rfl
  have t2 : Wf.cell? ⟨W.heap.size, 2, none⟩ = some (.int .i64 wd) := (blk_cell ha 2).trans rfl
  exact bodyPost_ret (v := .agg #[.int .i64 R, .int .i64 a, .int .i64 wd]) (by simp [results, Try.results117, go_sem, h4, t0, t1, t2]) hd ⟨R, wd, rfl, h, hb⟩
theorem one_fin0 {W : World} {act : Act} {s : ByteArray} {i : Nat} {a R wd : Int} (h4 : act.tmps[4]? = some (.pointer (some ⟨W.heap.size, 0, none⟩))) (hd : act.defers = []) (h : OneR s i R wd) :
    bodyPost Try.prog Try.f117 (OneP s i a W) Exit.ret act (W.alloc (.cells #[.int .i64 R, .int .i64 a, .int .i64 wd] 153)) := by
  obtain ⟨Wf, hWf⟩ : ∃ Wf, Wf = W.alloc (.cells #[.int .i64 R, .int .i64 a, .int .i64 wd] 153) := ⟨_, rfl⟩
  have ha := heap_alloc_new W (.cells #[.int .i64 R, .int .i64 a, .int .i64 wd] 153)
  have hb := below_alloc (Below.refl W.heap.size W) (.cells #[.int .i64 R, .int .i64 a, .int .i64 wd] 153)
  rw [← hWf] at ha hb ⊢
  have t0 : Wf.cell? ⟨W.heap.size, 0, none⟩ = some (.int .i64 R) := (blk_cell ha 0).trans rfl
  have t1 : Wf.cell? ⟨W.heap.size, 1, none⟩ = some (.int .i64 a) := (blk_cell ha 1).trans rfl
  have t2 : Wf.cell? ⟨W.heap.size, 2, none⟩ = some (.int .i64 wd) := (blk_cell ha 2).trans rfl
  exact bodyPost_ret (v := .agg #[.int .i64 R, .int .i64 a, .int .i64 wd]) (by simp [results, Try.results117, go_sem, h4, t0, t1, t2]) hd ⟨R, wd, rfl, h, hb⟩
theorem contV_bb (s : ByteArray) (i : Nat) (lo hi : Nat) (hlo : 128 ≤ lo) (hhi : hi ≤ 191) : contV s (i : Int) (lo : Int) (hi : Int) = (contB s i && (decide (lo ≤ bb s i) && decide (bb s i ≤ hi))) := by
  unfold contB contV
  by_cases h : i < s.size
  · rw [bt_bb s i h]
    have := bb_lt s i
    rw [Bool.eq_iff_iff]
    simp only [Bool.and_eq_true, decide_eq_true_eq, beq_iff_eq]
    omega
  · have h' : ¬ ((i : Int) < (s.size : Int)) := by omega
    simp [h, h']
theorem dec_low {s : ByteArray} {i : Nat} (h : bb s i < 128) : Utf8.decode s i = (bb s i, 1) := by
  rw [decode_bb]; unfold decB; rw [if_pos h]
theorem one_bad {s : ByteArray} {i : Nat} (h : Utf8.decode s i = (65533, 1)) : OneR s i (-1) 1 := by
  unfold OneR; rw [h]; exact ⟨rfl, .inr ⟨rfl, rfl⟩⟩
theorem one_good {s : ByteArray} {i : Nat} {c n : Nat} {R wd : Int} (h : Utf8.decode s i = (c, n)) (hR : R = (c : Int)) (hw : wd = (n : Int)) : OneR s i R wd := by
  unfold OneR; rw [h]; exact ⟨hw, .inl hR⟩
theorem dec_bad {s : ByteArray} {i : Nat} (h : (128 ≤ bb s i ∧ bb s i ≤ 193) ∨ 245 ≤ bb s i) : Utf8.decode s i = (65533, 1) := by
  have hb := bb_lt s i
  rw [decode_bb]; unfold decB
  rw [if_neg (by omega)]
  by_cases c6 : (bb s i / 32 == 6 && contB s (i + 1)) = true
  · rw [if_pos c6]
    simp only [Bool.and_eq_true, beq_iff_eq] at c6
    rw [if_neg (by omega)]; rfl
  · rw [if_neg c6]
    by_cases c7 : (bb s i / 16 == 14 && contB s (i + 1) && contB s (i + 2)) = true
    · simp only [Bool.and_eq_true, beq_iff_eq] at c7
      omega
    · rw [if_neg c7]
      by_cases c8 : (bb s i / 8 == 30 && contB s (i + 1) && contB s (i + 2) && contB s (i + 3)) = true
      · rw [if_pos c8]
        simp only [Bool.and_eq_true, beq_iff_eq] at c8
        have hv : (bb s i % 8 * 262144 + bb s (i + 1) % 64 * 4096 + bb s (i + 2) % 64 * 64 + bb s (i + 3) % 64 ≥ 0x10000 && Utf8.valid ((bb s i % 8 * 262144 + bb s (i + 1) % 64 * 4096 + bb s (i + 2) % 64 * 64 + bb s (i + 3) % 64 : Nat) : Int)) = false := by
          rw [Bool.eq_false_iff]
          intro hh
          unfold Utf8.valid at hh
          simp only [Bool.and_eq_true, Bool.or_eq_true, decide_eq_true_eq] at hh
          omega
        rw [if_neg (by rw [hv]; decide)]; rfl
      · rw [if_neg c8]; rfl
theorem dec_two {s : ByteArray} {i : Nat} (h1 : 194 ≤ bb s i) (h2 : bb s i ≤ 223) : Utf8.decode s i = if contB s (i + 1) then (bb s i % 32 * 64 + bb s (i + 1) % 64, 2) else (65533, 1) := by
  have hd6 : (bb s i / 32 == 6) = true := by rw [beq_iff_eq]; omega
  have hd14 : (bb s i / 16 == 14) = false := by rw [beq_eq_false_iff_ne]; omega
  have hd30 : (bb s i / 8 == 30) = false := by rw [beq_eq_false_iff_ne]; omega
  rw [decode_bb]; unfold decB
  rw [if_neg (by omega), hd6, hd14, hd30]
  simp only [Bool.true_and, Bool.false_and, Bool.false_eq_true, if_false]
  cases contB s (i + 1)
  · rfl
  · simp only [if_true]; rw [if_pos (by omega)]
theorem dec_three {s : ByteArray} {i lo hi : Nat} (h1 : 224 ≤ bb s i) (h2 : bb s i ≤ 239) (hlo : lo = if bb s i = 224 then 160 else 128) (hhi : hi = if bb s i = 237 then 159 else 191) :
    Utf8.decode s i = if (contB s (i + 1) && (decide (lo ≤ bb s (i + 1)) && decide (bb s (i + 1) ≤ hi))) && contB s (i + 2) then (bb s i % 16 * 4096 + bb s (i + 1) % 64 * 64 + bb s (i + 2) % 64, 3) else (65533, 1) := by
  have hd6 : (bb s i / 32 == 6) = false := by rw [beq_eq_false_iff_ne]; omega
  have hd14 : (bb s i / 16 == 14) = true := by rw [beq_iff_eq]; omega
  have hd30 : (bb s i / 8 == 30) = false := by rw [beq_eq_false_iff_ne]; omega
  rw [decode_bb]; unfold decB
  rw [if_neg (by omega), hd6, hd14, hd30]
  simp only [Bool.true_and, Bool.false_and, Bool.false_eq_true, if_false]
  rcases hc1 : contB s (i + 1)
  · simp; rfl
  · rcases hc2 : contB s (i + 2)
    · simp; rfl
    · have e1 := contB_spec hc1
      have e2 := contB_spec hc2
      simp only [Bool.and_true, Bool.true_and, if_true]
      by_cases hin : lo ≤ bb s (i + 1) ∧ bb s (i + 1) ≤ hi
      · have hv : (bb s i % 16 * 4096 + bb s (i + 1) % 64 * 64 + bb s (i + 2) % 64 ≥ 0x800 && Utf8.valid ((bb s i % 16 * 4096 + bb s (i + 1) % 64 * 64 + bb s (i + 2) % 64 : Nat) : Int)) = true := by
          unfold Utf8.valid
          simp only [Bool.and_eq_true, Bool.or_eq_true, decide_eq_true_eq]
          split at hlo <;> split at hhi <;> omega
        rw [if_pos hv, decide_eq_true hin.1, decide_eq_true hin.2]; rfl
      · have hv : (bb s i % 16 * 4096 + bb s (i + 1) % 64 * 64 + bb s (i + 2) % 64 ≥ 0x800 && Utf8.valid ((bb s i % 16 * 4096 + bb s (i + 1) % 64 * 64 + bb s (i + 2) % 64 : Nat) : Int)) = false := by
          rw [Bool.eq_false_iff]
          intro h
          unfold Utf8.valid at h
          simp only [Bool.and_eq_true, Bool.or_eq_true, decide_eq_true_eq] at h
          split at hlo <;> split at hhi <;> omega
        have hd : (decide (lo ≤ bb s (i + 1)) && decide (bb s (i + 1) ≤ hi)) = false := by
          rw [Bool.eq_false_iff]; intro h; simp only [Bool.and_eq_true, decide_eq_true_eq] at h; exact hin h
        rw [if_neg (by rw [hv]; decide), hd]; rfl
theorem dec_four {s : ByteArray} {i lo hi : Nat} (h1 : 240 ≤ bb s i) (h2 : bb s i ≤ 244) (hlo : lo = if bb s i = 240 then 144 else 128) (hhi : hi = if bb s i = 244 then 143 else 191) :
    Utf8.decode s i = if ((contB s (i + 1) && (decide (lo ≤ bb s (i + 1)) && decide (bb s (i + 1) ≤ hi))) && contB s (i + 2)) && contB s (i + 3) then (bb s i % 8 * 262144 + bb s (i + 1) % 64 * 4096 + bb s (i + 2) % 64 * 64 + bb s (i + 3) % 64, 4) else (65533, 1) := by
  have hd6 : (bb s i / 32 == 6) = false := by rw [beq_eq_false_iff_ne]; omega
  have hd14 : (bb s i / 16 == 14) = false := by rw [beq_eq_false_iff_ne]; omega
  have hd30 : (bb s i / 8 == 30) = true := by rw [beq_iff_eq]; omega
  rw [decode_bb]; unfold decB
  rw [if_neg (by omega), hd6, hd14, hd30]
  simp only [Bool.true_and, Bool.false_and, Bool.false_eq_true, if_false]
  rcases hc1 : contB s (i + 1)
  · simp; rfl
  · rcases hc2 : contB s (i + 2)
    · simp; rfl
    · rcases hc3 : contB s (i + 3)
      · simp; rfl
      · have e1 := contB_spec hc1
        have e2 := contB_spec hc2
        have e3 := contB_spec hc3
        simp only [Bool.and_true, Bool.true_and, if_true]
        by_cases hin : lo ≤ bb s (i + 1) ∧ bb s (i + 1) ≤ hi
        · have hv : (bb s i % 8 * 262144 + bb s (i + 1) % 64 * 4096 + bb s (i + 2) % 64 * 64 + bb s (i + 3) % 64 ≥ 0x10000 && Utf8.valid ((bb s i % 8 * 262144 + bb s (i + 1) % 64 * 4096 + bb s (i + 2) % 64 * 64 + bb s (i + 3) % 64 : Nat) : Int)) = true := by
            unfold Utf8.valid
            simp only [Bool.and_eq_true, Bool.or_eq_true, decide_eq_true_eq]
            split at hlo <;> split at hhi <;> omega
          rw [if_pos hv, decide_eq_true hin.1, decide_eq_true hin.2]; rfl
        · have hv : (bb s i % 8 * 262144 + bb s (i + 1) % 64 * 4096 + bb s (i + 2) % 64 * 64 + bb s (i + 3) % 64 ≥ 0x10000 && Utf8.valid ((bb s i % 8 * 262144 + bb s (i + 1) % 64 * 4096 + bb s (i + 2) % 64 * 64 + bb s (i + 3) % 64 : Nat) : Int)) = false := by
            rw [Bool.eq_false_iff]
            intro h
            unfold Utf8.valid at h
            simp only [Bool.and_eq_true, Bool.or_eq_true, decide_eq_true_eq] at h
            split at hlo <;> split at hhi <;> omega
          have hd : (decide (lo ≤ bb s (i + 1)) && decide (bb s (i + 1) ≤ hi)) = false := by
            rw [Bool.eq_false_iff]; intro h; simp only [Bool.and_eq_true, decide_eq_true_eq] at h; exact hin h
          rw [if_neg (by rw [hv]; decide), hd]; rfl
end Go.Proofs.Ytofinglgnkdflaa
