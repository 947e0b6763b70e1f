/- Layer 3: Of, of the program and of the reference, in one; the reference's set out of what New and Of hand back. -/
import Derived.Test.YthfapneifbjlmaaDoorPBitsOfx2
import Derived.Test.YthfapneifbjlmaaDoorMC
import Derived.Test.YthfapneifbjlmaaDoorMD
import Derived.Maps.OwnIn
import Derived.StillTailTactics
import Derived.Test.YthfapneifbjlmaaDoorMB
section
namespace Go.Proofs.YthfapneifbjlmaaDoor
open Go.RowKit Go.Shelf
open Go.Proofs.YthfapneifbjlmaaDoor.PBitsOf Go.Proofs.YthfapneifbjlmaaDoorW.PrintWords
set_option linter.unusedVariables false
set_option linter.unusedSimpArgs false

/-- The truths of a set's numbers. -/
def inOf (room : Nat) (ws : List Nat) : List Bool := (List.range room).map (memb ws)
theorem inOf_length (room : Nat) (ws : List Nat) : (inOf room ws).length = room := by simp [inOf]
theorem inOf_at (room : Nat) (ws : List Nat) (i : Nat) (hi : i < room) : (inOf room ws).getD i false = memb ws i := by simp [inOf, hi]
/-- No number at or past the room. -/
def NoHigh (room : Nat) (ws : List Nat) : Prop := ∀ i, room ≤ i → memb ws i = false
def allL (In : List Bool) : List Int := ((List.range In.length).filter fun i => In.getD i false).map fun i : Nat => (i : Int)
theorem All_pure (In : List Bool) (made : Bool) (hl : In.length ≤ 4096) : ∃ k, sextantref03_Set_All.f k made In = some (allL In, made) := by
  have loop : ∀ (d i : Nat) (acc : List Int), i + d = In.length → acc.length ≤ i → Ev (fun k => sextantref03_Set_All.l0 k acc (i : Int) made In) (acc ++ ((List.range' i d).filter fun i => In.getD i false).map (fun i : Nat => (i : Int)), made) := by
    intro d
    induction d with
    | zero =>
      intro i acc hi ha
      refine Ev.step (f := fun _ => some (acc, made)) (fun k => ?_) (by simpa using Ev.now (acc, made))
      simp only [sextantref03_Set_All.l0]; rw [if_neg (by omega)]
    | succ d ih =>
      intro i acc hi ha
      have hr : rdOf false In (i : Int) = In.getD i false := by simp [rdOf]
      have hw : wrap64 ((i : Int) + 1) = ((i + 1 : Nat) : Int) := by rw [w64 (by omega) (by omega)]; omega
      by_cases hb : In.getD i false = true
      · refine Ev.step (f := fun k => sextantref03_Set_All.l0 k (acc ++ [(i : Int)]) ((i + 1 : Nat) : Int) made In) (fun k => ?_) ?_
        · simp only [sextantref03_Set_All.l0]
          rw [if_pos (by omega), if_pos (by omega), hr, if_pos hb, if_pos (by omega), hw]
        · have := ih (i + 1) (acc ++ [(i : Int)]) (by omega) (by simp; omega)
          rw [List.range'_succ, List.filter_cons, if_pos hb, List.map_cons]
          rwa [List.append_assoc] at this
      · refine Ev.step (f := fun k => sextantref03_Set_All.l0 k acc ((i + 1 : Nat) : Int) made In) (fun k => ?_) ?_
        · simp only [sextantref03_Set_All.l0]
          rw [if_pos (by omega), if_pos (by omega), hr, if_neg hb, hw]
        · have := ih (i + 1) acc (by omega) (by omega)
          rw [List.range'_succ, List.filter_cons, if_neg hb]
          exact this
  have := (loop In.length 0 [] (by omega) (by simp)).rounds
  simpa [sextantref03_Set_All.f, allL, List.range_eq_range'] using this
theorem Has_pure (In : List Bool) (made : Bool) (n : Int) : sextantref03_Set_Has.f made In n = some (decide (0 ≤ n ∧ n < In.length) && In.getD n.toNat false, made) := by
  unfold sextantref03_Set_Has.f
  by_cases h0 : 0 ≤ n
  · by_cases h1 : n < (In.length : Int)
    · rw [if_pos (by omega), if_pos h1, if_pos h0]; simp [rdOf, h0, h1]
    · rw [if_pos (by omega), if_neg h1]; simp [h1]
  · rw [if_neg (by omega)]; simp [h0]
/-- The program's numbers are the reference's. -/
theorem mems_filter : ∀ (ws : List Nat) (i : Nat), mems i ws = ((List.range' (64 * i) (64 * ws.length)).filter fun q => (wd ws (q / 64 - i)).testBit (q % 64))
  | [], i => by simp [mems]
  | w :: ws, i => by
    have ih := mems_filter ws (i + 1)
    rw [mems, ih, List.length_cons, show 64 * (ws.length + 1) = 64 + 64 * ws.length from by omega, ← List.range'_append_1, List.filter_append]
    congr 1
    · unfold wbits
      rw [List.range'_eq_map_range, List.filter_map]
      congr 1
      apply List.filter_congr
      intro j hj
      have hj' := List.mem_range.1 hj
      simp only [Function.comp]
      rw [show (64 * i + j) / 64 - i = 0 from by omega, show (64 * i + j) % 64 = j from by omega]
      rfl
    · rw [show 64 * (i + 1) = 64 * i + 64 from by omega]
      apply List.filter_congr
      intro q hq
      have hq' := List.mem_range'_1.1 hq
      have e : q / 64 - i = (q / 64 - (i + 1)) + 1 := by omega
      rw [e]
      rfl
theorem allL_mems (room : Nat) (ws : List Nat) (hl : room ≤ 64 * ws.length) (hh : NoHigh room ws) : allL (inOf room ws) = (mems 0 ws).map fun i : Nat => (i : Int) := by
  unfold allL
  congr 1
  rw [inOf_length, mems_filter, Nat.mul_zero, show 64 * ws.length = room + (64 * ws.length - room) from by omega, ← List.range'_append_1, List.filter_append, List.range_eq_range']
  have h2 : (List.range' (0 + room) (64 * ws.length - room)).filter (fun q => (wd ws (q / 64 - 0)).testBit (q % 64)) = [] := by
    rw [List.filter_eq_nil_iff]
    intro q hq
    have hq' := List.mem_range'_1.1 hq
    have := hh q (by omega)
    simpa [memb] using this
  rw [h2, List.append_nil]
  apply List.filter_congr
  intro q hq
  have hq' := List.mem_range'_1.1 hq
  rw [inOf_at _ _ _ (by omega)]; simp [memb]
end Go.Proofs.YthfapneifbjlmaaDoor
end

section
namespace Go.Proofs.YthfapneifbjlmaaDoor
open Go.RowKit Go.Shelf
open Go.Proofs.YthfapneifbjlmaaDoor.PBitsOf Go.Proofs.YthfapneifbjlmaaDoorW.PrintWords
set_option linter.unusedVariables false
set_option linter.unusedSimpArgs false

def ints64 (ws : List Nat) : List Int := ws.map fun w : Nat => (w : Int)
theorem ints64_rd (ws : List Nat) (j : Nat) : rd (ints64 ws) (j : Int) = (wd ws j : Int) := by
  simp only [rd, ints64, wd, Int.toNat_natCast, List.getD_eq_getElem?_getD, List.getElem?_map]
  cases ws[j]? <;> rfl
theorem ints64_set (ws : List Nat) (j x : Nat) : (ints64 ws).set j (x : Int) = ints64 (ws.set j x) := by simp [ints64, List.map_set]
/-- The words behind the first i truths. -/
def part (In : List Bool) (n : Nat) : Nat → List Nat
  | 0 => List.replicate n 0
  | i + 1 => if In.getD i false = true then putBit (part In n i) i else part In n i
theorem part_length (In : List Bool) (n : Nat) : ∀ i, (part In n i).length = n
  | 0 => by simp [part]
  | i + 1 => by
    unfold part
    split
    · simp [putBit, part_length In n i]
    · exact part_length In n i
theorem wd_set (ws : List Nat) (a x j : Nat) (ha : a < ws.length) : wd (ws.set a x) j = if j = a then x else wd ws j := by
  unfold wd
  simp only [List.getD_eq_getElem?_getD, List.getElem?_set]
  by_cases h : a = j
  · subst h; simp [ha]
  · simp [h, Ne.symm h, show ¬ j = a from fun e => h e.symm]
theorem part_lt (In : List Bool) (n : Nat) (hl : In.length ≤ 64 * n) : ∀ i, i ≤ In.length → ∀ j, wd (part In n i) j < 18446744073709551616
  | 0, _, j => by
    simp only [part, wd, List.getD_eq_getElem?_getD, List.getElem?_replicate]
    split <;> simp
  | i + 1, hi, j => by
    have ih := part_lt In n hl i (by omega)
    unfold part
    split
    · unfold putBit
      rw [wd_set _ _ _ _ (by rw [part_length]; omega)]
      split
      · exact or_lt (ih _) (bitOf_lt i)
      · exact ih j
    · exact ih j
theorem bitOf_bit (i j : Nat) (hj : j < 64) : (bitOf i).testBit j = decide (j = i % 64) := by
  unfold bitOf
  rw [Nat.testBit_two_pow]
  simp [eq_comm]
/-- Which bits the words behind the first i truths have. -/
theorem part_bit (In : List Bool) (n : Nat) (hl : In.length ≤ 64 * n) : ∀ i, i ≤ In.length → ∀ q, memb (part In n i) q = (decide (q < i) && In.getD q false)
  | 0, _, q => by
    have : wd (List.replicate n 0) (q / 64) = 0 := by
      simp only [wd, List.getD_eq_getElem?_getD, List.getElem?_replicate]
      split <;> simp
    simp [part, memb, this]
  | i + 1, hi, q => by
    have ih := part_bit In n hl i (by omega) q
    unfold part
    by_cases hb : In.getD i false = true
    · rw [if_pos hb]
      unfold memb putBit
      rw [wd_set _ _ _ _ (by rw [part_length]; omega)]
      by_cases h64 : q / 64 = i / 64
      · rw [if_pos h64, Nat.testBit_or, bitOf_bit _ _ (by omega), ← h64]
        rw [show (wd (part In n i) (q / 64)).testBit (q % 64) = memb (part In n i) q from rfl, ih]
        by_cases hq : q = i
        · subst hq; rw [hb]; simp
        · have : q % 64 ≠ i % 64 := by omega
          by_cases hlt : q < i
          · simp [hlt, this, show q < i + 1 from by omega]
          · simp [hlt, this, show ¬ q < i + 1 from by omega]
      · rw [if_neg h64, show (wd (part In n i) (q / 64)).testBit (q % 64) = memb (part In n i) q from rfl, ih]
        have hq : q ≠ i := fun e => h64 (by rw [e])
        by_cases hlt : q < i
        · simp [hlt, show q < i + 1 from by omega]
        · simp [hlt, show ¬ q < i + 1 from by omega]
    · rw [if_neg hb, ih]
      by_cases hq : q = i
      · subst hq; simp at hb; simp [hb]
      · by_cases hlt : q < i
        · simp [hlt, show q < i + 1 from by omega]
        · simp [hlt, show ¬ q < i + 1 from by omega]
theorem words_ext {ws vs : List Nat} (hl : ws.length = vs.length) (h1 : Words64 ws) (h2 : Words64 vs) (h : ∀ q, memb ws q = memb vs q) : ws = vs := by
  refine List.ext_getElem hl (fun j a b => ?_)
  have hw : wd ws j = wd vs j := Nat.eq_of_testBit_eq fun i => by
    by_cases hi : i < 64
    · have := h (64 * j + i)
      unfold memb at this
      rwa [show (64 * j + i) / 64 = j from by omega, show (64 * j + i) % 64 = i from by omega] at this
    · rw [big_bit _ i (wd_lt h1 j) (by omega), big_bit _ i (wd_lt h2 j) (by omega)]
  simpa [wd, a, b] using hw
theorem part_all (room : Nat) (ws : List Nat) (hl : ws.length = (room + 63) / 64) (hw : Words64 ws) (hh : NoHigh room ws) : part (inOf room ws) ws.length room = ws := by
  have hlen := inOf_length room ws
  refine words_ext (part_length _ _ _) ?_ hw fun q => ?_
  · intro x hx
    obtain ⟨j, hj, rfl⟩ := List.getElem_of_mem hx
    have := part_lt (inOf room ws) ws.length (by omega) room (by omega) j
    simpa [wd, hj] using this
  · rw [part_bit _ _ (by omega) room (by omega)]
    by_cases hq : q < room
    · rw [inOf_at _ _ _ hq]; simp [hq]
    · simp [hq, hh q (by omega)]
theorem shl_bit (i : Nat) : shl .u64 1 ((i % 64 : Nat) : Int) = (bitOf i : Int) := by
  show IntKind.u64.wrap (1 * 2 ^ min ((i % 64 : Nat) : Int).toNat 64) = _
  rw [Int.toNat_natCast, Nat.min_eq_left (by omega), Int.one_mul]
  exact wrap_bit i
theorem Words_pure (In : List Bool) (made : Bool) (n : Nat) (hl : In.length ≤ 4096) (hn : n = (In.length + 63) / 64) : ∃ k, sextantref03_Set_Words.f k made In = some (ints64 (part In n In.length), made) := by
  have loop : ∀ (d i : Nat), i + d = In.length → Ev (fun k => sextantref03_Set_Words.l0 k (ints64 (part In n i)) (i : Int) made In) (ints64 (part In n In.length), made) := by
    intro d
    induction d with
    | zero =>
      intro i hi
      obtain rfl : i = In.length := by omega
      refine Ev.step (f := fun _ => some (ints64 (part In n In.length), made)) (fun k => ?_) (Ev.now _)
      simp only [sextantref03_Set_Words.l0]; rw [if_neg (by omega)]
    | succ d ih =>
      intro i hi
      have hr : rdOf false In (i : Int) = In.getD i false := by simp [rdOf]
      have hw : wrap64 ((i : Int) + 1) = ((i + 1 : Nat) : Int) := by rw [w64 (by omega) (by omega)]; omega
      have hp : part In n (i + 1) = if In.getD i false = true then putBit (part In n i) i else part In n i := rfl
      have h1 := ih (i + 1) (by omega)
      by_cases hb : In.getD i false = true
      · rw [if_pos hb] at hp
        have hlen : (ints64 (part In n i)).length = n := by simp [ints64, part_length]
        have ht : wrap64 (Int.tdiv (i : Int) 64) = ((i / 64 : Nat) : Int) := by
          rw [Int.tdiv_eq_ediv_of_nonneg (by omega), w64 (by omega) (by omega)]; omega
        have hm : IntKind.u64.wrap (Int.tmod (i : Int) 64) = ((i % 64 : Nat) : Int) := by
          rw [Int.tmod_eq_emod_of_nonneg (by omega), IntKind.wrap_u64]; omega
        refine Ev.step (f := fun k => sextantref03_Set_Words.l0 k (ints64 (part In n (i + 1))) ((i + 1 : Nat) : Int) made In) (fun k => ?_) h1
        simp only [sextantref03_Set_Words.l0]
        rw [if_pos (by omega), if_pos (by omega), hr, if_pos hb, ht, hm, if_pos (by omega), if_pos (by omega), if_pos (by omega), hw, ints64_rd, hp]
        congr 1
        rw [show shl .u64 1 ((i % 64 : Nat) : Int) = (bitOf i : Int) from shl_bit i, u64_or_nat _ _ (part_lt In n (by omega) i (by omega) _) (bitOf_lt i), Int.toNat_natCast, ints64_set]
        rfl
      · rw [if_neg hb] at hp
        rw [hp] at h1
        refine Ev.step (f := fun k => sextantref03_Set_Words.l0 k (ints64 (part In n i)) ((i + 1 : Nat) : Int) made In) (fun k => ?_) h1
        simp only [sextantref03_Set_Words.l0]
        rw [if_pos (by omega), if_pos (by omega), hr, if_neg hb, hw]
  obtain ⟨k, hk⟩ := (loop In.length 0 (by omega)).rounds
  refine ⟨k, ?_⟩
  unfold sextantref03_Set_Words.f
  have ht : wrap64 (Int.tdiv (wrap64 ((In.length : Int) + 63)) 64) = (n : Int) := by
    rw [w64 (n := (In.length : Int) + 63) (by omega) (by omega), Int.tdiv_eq_ediv_of_nonneg (by omega), w64 (by omega) (by omega)]; omega
  rw [ht, if_pos (by omega), if_pos (by omega), Int.toNat_natCast]
  have : ints64 (part In n 0) = List.replicate n 0 := by simp [ints64, part]
  rw [← this]
  exact hk
end Go.Proofs.YthfapneifbjlmaaDoor
end

section
namespace Go.Proofs.YthfapneifbjlmaaDoor
open Go.RowKit Go.Shelf
open Go.Proofs.YthfapneifbjlmaaDoor.PBitsOf Go.Proofs.YthfapneifbjlmaaDoorW.PrintWords
set_option linter.unusedVariables false
set_option linter.unusedSimpArgs false

theorem bit_expr (ws : List Nat) (i : Nat) (hw : Words64 ws) : Go.bits .and .u64 (shr .u64 (rd (ints64 ws) ((i / 64 : Nat) : Int)) ((i % 64 : Nat) : Int)) 1 = if memb ws i then 1 else 0 := by
  rw [ints64_rd]
  have e : shr .u64 (wd ws (i / 64) : Int) ((i % 64 : Nat) : Int) = ((wd ws (i / 64) / 2 ^ (i % 64) : Nat) : Int) := by
    show ((wd ws (i / 64) : Nat) : Int) / 2 ^ min ((i % 64 : Nat) : Int).toNat 64 = _
    rw [Int.toNat_natCast, Nat.min_eq_left (by omega)]
    push_cast; rfl
  have h1 := bits_and_u64_nat (wd ws (i / 64) / 2 ^ (i % 64)) 1 (Nat.lt_of_le_of_lt (Nat.div_le_self _ _) (wd_lt hw _)) (by decide)
  rw [e]
  refine h1.trans ?_
  rw [Nat.and_one_is_mod]
  unfold memb
  rw [Nat.testBit_eq_decide_div_mod_eq]
  have : wd ws (i / 64) / 2 ^ (i % 64) % 2 < 2 := Nat.mod_lt _ (by omega)
  by_cases h : wd ws (i / 64) / 2 ^ (i % 64) % 2 = 1
  · simp [h]
  · have h0 : wd ws (i / 64) / 2 ^ (i % 64) % 2 = 0 := by omega
    simp [h0]
/-- The truths of the first i numbers. -/
def inTo (n : Nat) (ws : List Nat) (i : Nat) : List Bool := (List.range n).map fun q => decide (q < i) && memb ws q
theorem inTo_zero (n : Nat) (ws : List Nat) : inTo n ws 0 = List.replicate n false := by
  refine List.ext_getElem (by simp [inTo]) (fun j a b => by simp [inTo])
theorem inTo_all (n : Nat) (ws : List Nat) (i : Nat) (h : n ≤ i) : inTo n ws i = inOf n ws := by
  refine List.ext_getElem (by simp [inTo, inOf]) (fun j a b => ?_)
  have : j < n := by simpa [inTo] using a
  simp [inTo, inOf, show j < i by omega]
theorem inTo_set (n : Nat) (ws : List Nat) (i : Nat) : (inTo n ws i).set i (memb ws i) = inTo n ws (i + 1) := by
  refine List.ext_getElem (by simp [inTo]) (fun j a b => ?_)
  rw [List.getElem_set]
  by_cases h : i = j
  · subst h; simp [inTo]
  · simp only [if_neg h]
    simp only [inTo, List.getElem_map, List.getElem_range]
    by_cases hj : j < i
    · simp [hj, show j < i + 1 by omega]
    · simp [hj, show ¬ j < i + 1 by omega]
theorem Of_bad (n : Int) (l : List Int) (h : n < 0 ∨ 4096 < n) : ∃ k, sextantref03_Of.f k n l = some (false, [], 30) := by
  refine ⟨1, ?_⟩
  unfold sextantref03_Of.f sextantref03_New.f
  by_cases h0 : n < 0
  · rw [if_pos h0]; simp [sextantref03_Of.j0]
  · rw [if_neg h0, if_pos (by omega)]; simp [sextantref03_Of.j0]
theorem New_pure (n : Nat) (h : n ≤ 4096) : sextantref03_New.f n = some (true, List.replicate n false, 0) := by
  unfold sextantref03_New.f
  rw [if_neg (by omega), if_neg (by omega), if_pos (by omega), if_pos (by omega)]; simp
theorem Of_words (n : Nat) : wrap64 (Int.tdiv (wrap64 ((n : Int) + 63)) 64) = if n ≤ 4096 then (((n + 63) / 64 : Nat) : Int) else wrap64 (Int.tdiv (wrap64 ((n : Int) + 63)) 64) := by
  split
  · rw [w64 (n := (n : Int) + 63) (by omega) (by omega), Int.tdiv_eq_ediv_of_nonneg (by omega), w64 (by omega) (by omega)]; omega
  · rfl
theorem Of_long (n : Nat) (hn : n ≤ 4096) (l : List Int) (h : l.length ≠ (n + 63) / 64) : ∃ k, sextantref03_Of.f k n l = some (false, [], 30) := by
  refine ⟨1, ?_⟩
  unfold sextantref03_Of.f
  rw [New_pure n hn, Of_words, if_pos hn]
  have : ((l.length : Int) != (((n + 63) / 64 : Nat) : Int)) = true := by rw [bne_iff_ne]; omega
  simp only [Option.bind_some, if_pos, this]
  simp [sextantref03_Of.j0]
theorem Of_len64 (ws : List Nat) (h : ws.length ≤ 64) : wrap64 (64 * ((ints64 ws).length : Int)) = ((64 * ws.length : Nat) : Int) := by
  have hlen : (ints64 ws).length = ws.length := by simp [ints64]
  rw [hlen, w64 (by omega) (by omega)]; omega
theorem at_div (i : Nat) (h : i ≤ 5000) : wrap64 (Int.tdiv (i : Int) 64) = ((i / 64 : Nat) : Int) := by
  rw [Int.tdiv_eq_ediv_of_nonneg (by omega), w64 (by omega) (by omega)]; omega
theorem at_mod (i : Nat) (h : i ≤ 5000) : IntKind.u64.wrap (Int.tmod (i : Int) 64) = ((i % 64 : Nat) : Int) := by
  rw [Int.tmod_eq_emod_of_nonneg (by omega), IntKind.wrap_u64]; omega
theorem at_next (i : Nat) (h : i ≤ 5000) : wrap64 ((i : Int) + 1) = ((i + 1 : Nat) : Int) := by rw [w64 (by omega) (by omega)]; omega
theorem bit_one (b : Bool) : ((if b = true then (1 : Int) else 0) == 1) = b := by cases b <;> rfl
/-- One round of the loop. -/
theorem Of_end (n : Nat) (ws : List Nat) (h : ws.length ≤ 64) (i : Nat) (hi : 64 * ws.length ≤ i) (In : List Bool) (k : Nat) : sextantref03_Of.l0 (k + 1) n (ints64 ws) (i : Int) true In = some (true, In, 0) := by
  unfold sextantref03_Of.l0
  rw [Of_len64 ws h, if_neg (by omega)]
theorem Of_low (n : Nat) (ws : List Nat) (h : ws.length ≤ 64) (hw : Words64 ws) (i : Nat) (hi : i < 64 * ws.length) (In : List Bool) (hin : i < n) (hI : In.length = n) (k : Nat) :
    sextantref03_Of.l0 (k + 1) n (ints64 ws) (i : Int) true In = sextantref03_Of.l0 k n (ints64 ws) ((i + 1 : Nat) : Int) true (In.set i (memb ws i)) := by
  have hlen : (ints64 ws).length = ws.length := by simp [ints64]
  have h1 : ((i / 64 : Nat) : Int) < ((ints64 ws).length : Int) := by rw [hlen]; omega
  have h2 : (i : Int) < (In.length : Int) := by rw [hI]; omega
  have h3 : (i : Int) < (n : Int) := by omega
  have h4 : (i : Int) < ((64 * ws.length : Nat) : Int) := by omega
  have h5 : (0 : Int) ≤ ((i / 64 : Nat) : Int) := by omega
  have h6 : (0 : Int) ≤ ((i % 64 : Nat) : Int) := by omega
  have h7 : (0 : Int) ≤ (i : Int) := by omega
  conv => lhs; unfold sextantref03_Of.l0
  rw [Of_len64 ws h, at_div i (by omega), at_mod i (by omega), at_next i (by omega), bit_expr ws i hw, bit_one, if_pos h4, if_pos h5, if_pos h1, if_pos h6, if_pos h3, if_pos h7, if_pos h2, Int.toNat_natCast]
theorem Of_high' (n : Nat) (ws : List Nat) (h : ws.length ≤ 64) (hw : Words64 ws) (i : Nat) (hi : i < 64 * ws.length) (In : List Bool) (hin : n ≤ i) (k : Nat) :
    sextantref03_Of.l0 (k + 1) n (ints64 ws) (i : Int) true In = if memb ws i = true then some (false, [], 30) else sextantref03_Of.l0 k n (ints64 ws) ((i + 1 : Nat) : Int) true In := by
  have hlen : (ints64 ws).length = ws.length := by simp [ints64]
  have h1 : ((i / 64 : Nat) : Int) < ((ints64 ws).length : Int) := by rw [hlen]; omega
  have h3 : ¬ (i : Int) < (n : Int) := by omega
  have h4 : (i : Int) < ((64 * ws.length : Nat) : Int) := by omega
  have h5 : (0 : Int) ≤ ((i / 64 : Nat) : Int) := by omega
  have h6 : (0 : Int) ≤ ((i % 64 : Nat) : Int) := by omega
  conv => lhs; unfold sextantref03_Of.l0
  rw [Of_len64 ws h, at_div i (by omega), at_mod i (by omega), at_next i (by omega), bit_expr ws i hw, if_pos h4, if_pos h5, if_pos h1, if_pos h6, if_neg h3]
  cases memb ws i <;> simp
/-- The loop: the numbers below the room are laid down, one at or past it ends it. -/
theorem Of_loop (n : Nat) (ws : List Nat) (hl : ws.length ≤ 64) (hw : Words64 ws) (hn : n ≤ 64 * ws.length) (R : Bool × List Bool × Int)
    (h1 : (∀ q, n ≤ q → q < 64 * ws.length → memb ws q = false) → R = (true, inOf n ws, 0)) (h2 : ∀ q, n ≤ q → q < 64 * ws.length → memb ws q = true → R = (false, [], 30)) : ∀ (d i : Nat), i + d = 64 * ws.length → (∀ q, n ≤ q → q < i → memb ws q = false) →
    Ev (fun k => sextantref03_Of.l0 k n (ints64 ws) (i : Int) true (inTo n ws i)) R := by
  intro d
  induction d with
  | zero =>
    intro i hi hlo
    refine Ev.step (Of_end n ws hl i (by omega) (inTo n ws i)) ?_
    rw [inTo_all n ws i (by omega), ← h1 (fun q a b => hlo q a (by omega))]
    exact Ev.now R
  | succ d ih =>
    intro i hi hlo
    by_cases hin : i < n
    · refine Ev.step (Of_low n ws hl hw i (by omega) (inTo n ws i) hin (by simp [inTo])) ?_
      rw [inTo_set]
      exact ih (i + 1) (by omega) (fun q a b => absurd a (by omega))
    · refine Ev.step (Of_high' n ws hl hw i (by omega) (inTo n ws i) (by omega)) ?_
      by_cases hb : memb ws i = true
      · simp only [if_pos hb]
        rw [h2 i (by omega) (by omega) hb]
        exact Ev.now _
      · simp only [if_neg hb]
        have e : inTo n ws i = inTo n ws (i + 1) := by rw [inTo_all n ws i (by omega), inTo_all n ws (i + 1) (by omega)]
        rw [e]
        refine ih (i + 1) (by omega) (fun q a b => ?_)
        by_cases hq : q = i
        · rw [hq]; simpa using hb
        · exact hlo q a (by omega)
theorem Of_fine (n : Nat) (hn : n ≤ 4096) (ws : List Nat) (hl : ws.length = (n + 63) / 64) (hw : Words64 ws) (R : Bool × List Bool × Int)
    (h1 : (∀ q, n ≤ q → q < 64 * ws.length → memb ws q = false) → R = (true, inOf n ws, 0)) (h2 : ∀ q, n ≤ q → q < 64 * ws.length → memb ws q = true → R = (false, [], 30)) : ∃ k, sextantref03_Of.f k n (ints64 ws) = some R := by
  have := Of_loop n ws (by omega) hw (by omega) R h1 h2 (64 * ws.length) 0 (by omega) (fun q _ h => absurd h (Nat.not_lt_zero _))
  rw [inTo_zero] at this
  have hlen : (ints64 ws).length = ws.length := by simp [ints64]
  have hc : (((ints64 ws).length : Int) != (((n + 63) / 64 : Nat) : Int)) = false := by rw [bne_eq_false_iff_eq, hlen, hl]
  obtain ⟨k, hk⟩ := this.rounds
  refine ⟨k + 1, ?_⟩
  unfold sextantref03_Of.f
  rw [New_pure n hn, Of_words, if_pos hn, hc]
  simp only [Option.bind_some, if_pos]
  simp only [sextantref03_Of.j0]
  simpa using hk
end Go.Proofs.YthfapneifbjlmaaDoor
end

section
namespace Go.Proofs.YthfapneifbjlmaaDoor
open Go.RowKit Go.Shelf
open Go.Proofs.YthfapneifbjlmaaDoor.PBitsOf Go.Proofs.YthfapneifbjlmaaDoorW.PrintWords
set_option linter.unusedVariables false
set_option linter.unusedSimpArgs false

theorem bblock' (a : Addr) (j : Nat) : (a.add j).block = a.block := by unfold Addr.add; split <;> rfl
/-- Block gp is a set of the reference, its truths lie in an earlier block. -/
def RefSet (W : World) (gp : Nat) (In : List Bool) : Prop :=
  ∃ A1 c1, W.heap[gp]? = some (.cells #[.bool true, .slice A1 In.length c1] 39 (0, 0)) ∧ In.length ≤ 4096 ∧ ∀ j, j < In.length → ∃ ad, A1 = some ad ∧ ad.block < gp ∧ W.cell? (ad.add j) = some (.bool (In.getD j false))
/-- The world cut off at a block. -/
def cutW (W : World) (g : Nat) : World := { W with heap := W.heap.extract 0 g }
theorem cutW_size (W : World) (g : Nat) (hg : g ≤ W.heap.size) : (cutW W g).heap.size = g := by simp [cutW]; omega
theorem cutW_below (W : World) (g : Nat) (hg : g ≤ W.heap.size) : Below (cutW W g).heap.size (cutW W g) W := by
  refine ⟨rfl, rfl, rfl, by rw [cutW_size W g hg]; exact hg, fun k hk => ?_⟩
  rw [cutW_size W g hg] at hk
  simp [cutW, Array.getElem?_extract, hk]
  omega
theorem RefSet.lt {W : World} {gp : Nat} {In : List Bool} (h : RefSet W gp In) : gp < W.heap.size := by
  obtain ⟨_, _, h, _⟩ := h
  exact (Array.getElem?_eq_some_iff.1 h).1
theorem RefSet.cut {W : World} {gp : Nat} {In : List Bool} (h : RefSet W gp In) : IsS39 (cutW W gp) W gp true In ∧ Below (cutW W gp).heap.size (cutW W gp) W := by
  have hlt := h.lt
  have hb := cutW_below W gp (by omega)
  obtain ⟨A1, c1, h1, hl, h2⟩ := h
  refine ⟨⟨A1, c1, h1, by rw [cutW_size W gp (by omega)]; exact Nat.le_refl _, ?_⟩, hb⟩
  refine Kd.C_of_reads (d := false) ⟨rfl, by omega, fun hn => ?_⟩
  obtain ⟨ad, rfl, had, _⟩ := h2 0 hn
  refine ⟨ad, rfl, fun j hj => ?_⟩
  obtain ⟨ad', e, _, hc⟩ := h2 j hj
  cases e
  have := hb.block (ad.add j).block (by rw [cutW_size W gp (by omega), bblock']; exact had)
  exact (World.cell?_of_block this).symm.trans hc
theorem RefSet.back {w0 W : World} {gp : Nat} {In : List Bool} (h : IsS39 w0 W gp true In) (hb : Below w0.heap.size w0 W) (hl : In.length ≤ 4096) : RefSet W gp In := by
  obtain ⟨A1, c1, h1, h2, h3⟩ := h
  refine ⟨A1, c1, h1, hl, fun j hj => ?_⟩
  obtain ⟨_, _, hr⟩ := h3
  obtain ⟨ad, rfl, hc⟩ := hr (by omega)
  obtain ⟨c, hcl, hK, hcell⟩ := hc j (In[j]) (List.getElem?_eq_getElem hj)
  have hk : c = [Value.bool In[j]] := hK
  subst hk
  have h5 := hcell 0 _ rfl
  have h6 : w0.cell? (ad.add j) = some (.bool In[j]) := by simpa [Kd.bool, Kd.scalar] using h5
  have h7 := World.block_lt_of_cell? w0 _ h6
  rw [bblock'] at h7
  refine ⟨ad, rfl, by omega, ?_⟩
  rw [(hb.cell (p := ad.add j) (by rw [bblock']; exact h7)).trans h6]
  simp [List.getElem?_eq_getElem hj]
end Go.Proofs.YthfapneifbjlmaaDoor
end

section
namespace Go.Proofs.YthfapneifbjlmaaDoor
open Go.RowKit Go.Shelf
open Go.Proofs.YthfapneifbjlmaaDoor.PBitsOf Go.Proofs.YthfapneifbjlmaaDoorW.PrintWords
set_option linter.unusedVariables false
set_option linter.unusedSimpArgs false

theorem fr_of_keep {w0 W w' : World} {gp : Nat} (h1 : Below w0.heap.size w0 W) (h2 : Below w0.heap.size w0 w') (hk : KeepBut W w' gp none) : Fr (fun k => k = gp) W w' :=
  ⟨h2.os.trans h1.os.symm, h2.tape.trans h1.tape.symm, h2.output.trans h1.output.symm, hk.1, fun i hi hn => hk.2 i hi hn (by simp)⟩
/-- A row of the call's own, read. -/
def NewRow (W w' : World) (k : IntKind) (A : Option Addr) (xs : List Int) : Prop := ∀ j, j < xs.length → ∃ ad, A = some ad ∧ W.heap.size ≤ ad.block ∧ w'.cell? (ad.add j) = some (.int k (nd xs j))
theorem newRow_of {W w' : World} {k : IntKind} {t : Nat} {v : Value} {xs : List Int} (h : Kd.R (Kd.int k) t w' W.heap.size (fun _ => True) v xs) : ∃ A c, v = .slice A xs.length c ∧ xs.length ≤ c ∧ NewRow W w' k A xs ∧ Kd.C (Kd.int k) w' A xs.length xs := by
  obtain ⟨A, c, rfl, hc, hC⟩ := Kd.R_reads h
  refine ⟨A, c, rfl, hc, fun j hj => ?_, hC⟩
  have hb := Kd.R_base h
  obtain ⟨_, _, hr⟩ := hC
  obtain ⟨ad, rfl, hcl⟩ := hr (by omega)
  obtain ⟨q, hq1, hK, hcell⟩ := hcl j (xs[j]) (List.getElem?_eq_getElem hj)
  have hk : q = [Value.int k xs[j]] := hK
  subst hk
  have h5 := hcell 0 _ rfl
  refine ⟨ad, rfl, hb ad.block rfl, ?_⟩
  have h6 : w'.cell? (ad.add j) = some (.int k xs[j]) := by simpa [Kd.int, Kd.scalar] using h5
  rw [h6]; simp [nd, List.getElem?_eq_getElem hj]
theorem refWords {W : World} {gp : Nat} {room : Nat} {ws : List Nat} (h : RefSet W gp (inOf room ws)) (hl : ws.length = (room + 63) / 64) (hw : Words64 ws) (hh : NoHigh room ws) :
    Calls Tryd.prog 36 #[.pointer (some ⟨gp, 0, none⟩)] W fun e w' => ∃ A c, e = .returned (.slice A ws.length c) ∧ NewRow W w' .u64 A (ints64 ws) ∧ RefSet w' gp (inOf room ws) ∧ Fr (fun k => k = gp) W w' := by
  obtain ⟨h1, h2⟩ := h.cut
  have hroom : (inOf room ws).length ≤ 4096 := by obtain ⟨_, _, _, a, _⟩ := h; exact a
  have hrl := inOf_length room ws
  obtain ⟨k, hk⟩ := Words_pure (inOf room ws) true ws.length hroom (by rw [hrl]; exact hl)
  rw [hrl, part_all room ws hl hw hh] at hk
  refine (sextantref03_Set_Words.calls k gp true (inOf room ws) (ints64 ws) true (cutW W gp) W h1 h2 hk).mono ?_
  rintro e w' ⟨v, rfl, hR, hI, hB, hK⟩
  obtain ⟨A, c, rfl, hc, hn, _⟩ := newRow_of hR
  refine ⟨A, c, by simp [ints64], hn, RefSet.back hI hB hroom, fr_of_keep h2 hB hK⟩
theorem refAll {W : World} {gp : Nat} {room : Nat} {ws : List Nat} (h : RefSet W gp (inOf room ws)) (hl : ws.length = (room + 63) / 64) (hh : NoHigh room ws) :
    Calls Tryd.prog 37 #[.pointer (some ⟨gp, 0, none⟩)] W fun e w' => ∃ A c, e = .returned (.slice A (mems 0 ws).length c) ∧ (mems 0 ws).length ≤ c ∧ Kd.C (Kd.int .i64) w' A (mems 0 ws).length ((mems 0 ws).map fun i : Nat => (i : Int)) ∧ RefSet w' gp (inOf room ws) ∧ Fr (fun k => k = gp) W w' := by
  obtain ⟨h1, h2⟩ := h.cut
  have hroom : (inOf room ws).length ≤ 4096 := by obtain ⟨_, _, _, a, _⟩ := h; exact a
  obtain ⟨k, hk⟩ := All_pure (inOf room ws) true hroom
  rw [allL_mems room ws (by omega) hh] at hk
  refine (sextantref03_Set_All.calls k gp true (inOf room ws) _ true (cutW W gp) W h1 h2 hk).mono ?_
  rintro e w' ⟨v, rfl, hR, hI, hB, hK⟩
  obtain ⟨A, c, rfl, hc, hn, hC⟩ := newRow_of hR
  refine ⟨A, c, by simp, by simpa using hc, by simpa using hC, RefSet.back hI hB hroom, fr_of_keep h2 hB hK⟩
theorem refHas {W : World} {gp : Nat} {room : Nat} {ws : List Nat} (h : RefSet W gp (inOf room ws)) (n : Int) :
    Calls Tryd.prog 39 #[.pointer (some ⟨gp, 0, none⟩), .int .i64 n] W fun e w' => e = .returned (.bool (decide (0 ≤ n ∧ n < room) && memb ws n.toNat)) ∧ RefSet w' gp (inOf room ws) ∧ Fr (fun k => k = gp) W w' := by
  obtain ⟨h1, h2⟩ := h.cut
  have hroom : (inOf room ws).length ≤ 4096 := by obtain ⟨_, _, _, a, _⟩ := h; exact a
  refine (sextantref03_Set_Has.calls gp true (inOf room ws) n _ true (cutW W gp) W h1 h2 (Has_pure (inOf room ws) true n)).mono ?_
  rintro e w' ⟨rfl, hI, hB, hK⟩
  refine ⟨?_, RefSet.back hI hB hroom, fr_of_keep h2 hB hK⟩
  rw [inOf_length]
  by_cases hn : 0 ≤ n ∧ n < (room : Int)
  · rw [inOf_at _ _ _ (by omega)]
  · simp [hn]
end Go.Proofs.YthfapneifbjlmaaDoor
end

section
namespace Go.Proofs.YthfapneifbjlmaaDoor
set_option linter.unusedVariables false
set_option linter.unusedSimpArgs false

def dropI (room : Nat) (ws : List Nat) (i : Nat) : List Nat := if i < room then dropBit ws i else ws
def putI (room : Nat) (ws : List Nat) (i : Nat) : List Nat := if i < room then putBit ws i else ws
theorem dropI_length (room : Nat) (ws : List Nat) (i : Nat) : (dropI room ws i).length = ws.length := by unfold dropI dropBit; split <;> simp
theorem putI_length (room : Nat) (ws : List Nat) (i : Nat) : (putI room ws i).length = ws.length := by unfold putI putBit; split <;> simp
theorem mem_set_lt {ws : List Nat} (h : Words64 ws) (a x : Nat) (hx : x < 18446744073709551616) : Words64 (ws.set a x) := fun y hy => by
  rcases List.mem_or_eq_of_mem_set hy with h1 | h1
  · exact h y h1
  · rw [h1]; exact hx
theorem dropI_lt {room : Nat} {ws : List Nat} (h : Words64 ws) (i : Nat) : Words64 (dropI room ws i) := by
  unfold dropI dropBit; split
  · exact mem_set_lt h _ _ (and_lt _ (wd_lt h _))
  · exact h
theorem putI_lt {room : Nat} {ws : List Nat} (h : Words64 ws) (i : Nat) : Words64 (putI room ws i) := by
  unfold putI putBit; split
  · exact mem_set_lt h _ _ (or_lt (wd_lt h _) (bitOf_lt i))
  · exact h
theorem memb_out {ws : List Nat} {q : Nat} (h : 64 * ws.length ≤ q) : memb ws q = false := by
  unfold memb wd
  rw [List.getD_eq_getElem?_getD, List.getElem?_eq_none (by omega)]; simp
theorem memb_putI {room : Nat} {ws : List Nat} (hl : room ≤ 64 * ws.length) (i q : Nat) : memb (putI room ws i) q = (memb ws q || (decide (q = i) && decide (i < room))) := by
  unfold putI
  by_cases hi : i < room
  · rw [if_pos hi]
    unfold memb putBit
    rw [wd_set _ _ _ _ (by omega)]
    by_cases h64 : q / 64 = i / 64
    · rw [if_pos h64, Nat.testBit_or, bitOf_bit _ _ (by omega), ← h64]
      by_cases hq : q = i
      · subst hq; simp [hi]
      · have : q % 64 ≠ i % 64 := by omega
        simp [this, hq]
    · rw [if_neg h64]
      have hq : q ≠ i := fun e => h64 (by rw [e])
      simp [hq]
  · rw [if_neg hi]; simp [hi]
theorem memb_dropI {room : Nat} {ws : List Nat} (hl : room ≤ 64 * ws.length) (hw : Words64 ws) (i q : Nat) : memb (dropI room ws i) q = (memb ws q && !(decide (q = i) && decide (i < room))) := by
  unfold dropI
  by_cases hi : i < room
  · rw [if_pos hi]
    unfold memb dropBit
    rw [wd_set _ _ _ _ (by omega)]
    by_cases h64 : q / 64 = i / 64
    · rw [if_pos h64, show (wd ws (i / 64) &&& (18446744073709551615 - bitOf i)) = wout (wd ws (i / 64)) (bitOf i) from rfl, wout_bit _ _ _ (wd_lt hw _) (bitOf_lt i), bitOf_bit _ _ (by omega), ← h64]
      by_cases hq : q = i
      · subst hq; simp [hi]
      · have : q % 64 ≠ i % 64 := by omega
        simp [this, hq]
    · rw [if_neg h64]
      have hq : q ≠ i := fun e => h64 (by rw [e])
      simp [hq]
  · rw [if_neg hi]; simp [hi]
theorem drops_all (room : Nat) : ∀ (l ws : List Nat), room ≤ 64 * ws.length → Words64 ws → (l.foldl (dropI room) ws).length = ws.length ∧ Words64 (l.foldl (dropI room) ws) ∧ ∀ q, memb (l.foldl (dropI room) ws) q = (memb ws q && !(decide (q ∈ l) && decide (q < room)))
  | [], ws, hl, hw => ⟨rfl, hw, fun q => by simp⟩
  | i :: l, ws, hl, hw => by
    obtain ⟨h1, h2, h3⟩ := drops_all room l (dropI room ws i) (by rw [dropI_length]; exact hl) (dropI_lt hw i)
    refine ⟨by rw [List.foldl_cons, h1, dropI_length], h2, fun q => ?_⟩
    rw [List.foldl_cons, h3, memb_dropI hl hw]
    by_cases hq : q = i
    · subst hq
      cases memb ws q <;> cases decide (q ∈ l) <;> cases decide (q < room) <;> simp
    · cases memb ws q <;> simp [hq]
theorem puts_all (room : Nat) : ∀ (l ws : List Nat), room ≤ 64 * ws.length → Words64 ws → (l.foldl (putI room) ws).length = ws.length ∧ Words64 (l.foldl (putI room) ws) ∧ ∀ q, memb (l.foldl (putI room) ws) q = (memb ws q || (decide (q ∈ l) && decide (q < room)))
  | [], ws, hl, hw => ⟨rfl, hw, fun q => by simp⟩
  | i :: l, ws, hl, hw => by
    obtain ⟨h1, h2, h3⟩ := puts_all room l (putI room ws i) (by rw [putI_length]; exact hl) (putI_lt hw i)
    refine ⟨by rw [List.foldl_cons, h1, putI_length], h2, fun q => ?_⟩
    rw [List.foldl_cons, h3, memb_putI hl]
    by_cases hq : q = i
    · subst hq
      cases memb ws q <;> cases decide (q ∈ l) <;> cases decide (q < room) <;> simp
    · cases memb ws q <;> simp [hq]
theorem mem_mems {ws : List Nat} {q : Nat} : q ∈ mems 0 ws ↔ memb ws q = true := by
  rw [mems_filter, List.mem_filter, List.mem_range'_1]
  simp only [Nat.mul_zero, Nat.sub_zero, Nat.zero_add]
  constructor
  · rintro ⟨_, h⟩; simpa [memb] using h
  · intro h
    refine ⟨⟨Nat.zero_le _, ?_⟩, by simpa [memb] using h⟩
    by_cases hq : q < 64 * ws.length
    · exact hq
    · rw [memb_out (by omega)] at h; cases h
/-- THE LAW: dropped and put in again, all is as it was. -/
theorem back_again (room : Nat) (ws : List Nat) (hl : ws.length = (room + 63) / 64) (hw : Words64 ws) : (mems 0 ws).foldl (putI room) ((mems 0 ws).foldl (dropI room) ws) = ws := by
  obtain ⟨a1, a2, a3⟩ := drops_all room (mems 0 ws) ws (by omega) hw
  obtain ⟨b1, b2, b3⟩ := puts_all room (mems 0 ws) _ (by rw [a1]; omega) a2
  refine words_ext (by rw [b1, a1]) b2 hw fun q => ?_
  rw [b3, a3]
  by_cases hq : memb ws q = true
  · have : q ∈ mems 0 ws := mem_mems.2 hq
    by_cases hr : q < room <;> simp [hq, this, hr]
  · have : q ∉ mems 0 ws := fun h => hq (mem_mems.1 h)
    simp at hq
    simp [hq, this]
end Go.Proofs.YthfapneifbjlmaaDoor
end

section
namespace Go.Proofs.YthfapneifbjlmaaDoor
open Go.RowKit Go.Shelf
set_option linter.unusedVariables false
set_option linter.unusedSimpArgs false

/-- Put, whatever the number. -/
theorem Put_some {W : World} {g h room : Nat} {ws : List Nat} (H : IsSet W g h room ws) (i : Int) :
    Calls Tryd.prog 16 #[.pointer (some ⟨g, 0, none⟩), .int .i64 i] W fun e w' => ∃ (r : Int) (ws' : List Nat), e = .returned (.int .i64 r) ∧ IsSet w' g h room ws' ∧ Fr (fun k => k = h) W w' := by
  by_cases hi : 0 ≤ i ∧ i < room
  · exact (Put_set H i hi.1 hi.2).mono fun e w' ⟨h1, h2, h3⟩ => ⟨0, _, h1, h2, (Fr.of_grownBy h3).mono (fun k _ hk => by injection hk)⟩
  · exact (Put_out H i hi).mono fun e w' ⟨h1, h2⟩ => ⟨30, ws, h1, h2 ▸ H, h2 ▸ Fr.refl _ _⟩
theorem IsSet.fr {W W' : World} {g h room : Nat} {ws : List Nat} {M : Nat → Prop} (H : IsSet W g h room ws) (hf : Fr M W W') (hg : ¬ M g) (hh : ¬ M h) : IsSet W' g h room ws :=
  H.move (hf.block g H.lt.1 hg) (hf.block h H.lt.2.1 hh)
theorem z_w (ws vs : List Nat) (hvl : vs.length = ws.length) (hW1 : Words64 ws) (hW2 : Words64 vs) : ∀ j, j < (List.zipWith wout ws vs).length → wout (wd (List.zipWith wout ws vs) j) (wd ws j) = 0 := fun j hj => by
  have hj' : j < ws.length := by simpa [hvl] using hj
  rw [wd_zip _ _ _ hvl j hj']
  exact l_w (wd_lt hW1 j) (wd_lt hW2 j)
theorem z_u (ws vs : List Nat) (hvl : vs.length = ws.length) (hW1 : Words64 ws) (hW2 : Words64 vs) : ∀ j, j < (List.zipWith wand ws vs).length → wout (wd (List.zipWith wand ws vs) j) (wd vs j) = 0 := fun j hj => by
  have hj' : j < ws.length := by simpa [hvl] using hj
  rw [wd_zip _ _ _ hvl j hj']
  exact l_u (wd_lt hW1 j) (wd_lt hW2 j)
theorem Fr.below2 {M : Nat → Prop} {B : Nat} {a b : World} (h : Fr M a b) (hm : ∀ k, k < B → ¬ M k) (hB : B ≤ a.heap.size) : Below B a b := ⟨h.os, h.tape, h.output, h.size, fun i hi => h.block i (by omega) (hm i hi)⟩
/-- Numbers that lie in a row that came in. -/
def Nums (W : World) (A : Option Addr) (xs : List Int) : Prop := ∀ j, j < xs.length → ∃ ad, A = some ad ∧ W.cell? (ad.add j) = some (.int .i64 (nd xs j))
theorem bblock (a : Addr) (j : Nat) : (a.add j).block = a.block := by unfold Addr.add; split <;> rfl
theorem Nums.below {W W' : World} {A : Option Addr} {xs : List Int} (h : Nums W A xs) (hb : Below W.heap.size W W') : Nums W' A xs := fun j hj => by
  obtain ⟨ad, h1, h2⟩ := h j hj
  exact ⟨ad, h1, (hb.cell (by have := World.block_lt_of_cell? W _ h2; exact this)).trans h2⟩

set_option maxHeartbeats 1000000 in
theorem BitsParts_walk (W : World) (hT : Tab W) (n : Int) (A1 : Option Addr) (c1 : Nat) (xs : List Int) (A2 : Option Addr) (c2 : Nat) (ys : List Int) (h1 : Nums W A1 xs) (h2 : Nums W A2 ys) (hl1 : xs.length ≤ 1048576) (hl2 : ys.length ≤ 1048576) :
    Calls Tryd.prog 5 #[.int .i64 n, .slice A1 xs.length c1, .slice A2 ys.length c2] W fun e w' => e = .returned (.bool true) ∧ Below W.heap.size W w' := by
  by_cases hn : n < 0 ∨ 4096 < n
  · have hnew := Lib.hid (New_bad W n hn)
    have hh := Lib.hid (heads_any W hT)
    clear hn hT h1 h2
    go_enter Tryd.func5, Tryd.ntmps5
    go_wp2_with (first | (go_at_call 15; refine hnew.out.mono ?_; rintro e w1 ⟨rfl, rfl⟩) | (go_at_call 9; refine hh.out.mono ?_; rintro e w1 ⟨rfl, hb⟩))
    go_ret
    exact ⟨rfl, hb⟩
  · obtain ⟨m, rfl⟩ := Int.eq_ofNat_of_zero_le (show 0 ≤ n by omega)
    have hm : m ≤ 4096 := by omega
    have hnew := Lib.hid (New_ok W m hm)
    have HT := Lib.hid hT
    have H1 := Lib.hid h1
    have H2 := Lib.hid h2
    clear hn hT h1 h2
    go_enter Tryd.func5, Tryd.ntmps5
    go_wp2_with fail
    go_at_call 15
    refine hnew.out.mono ?_
    rintro e w1 ⟨g1, r1, rfl, hs1, hg1, hr1, hb1⟩
    have hnew2 := Lib.hid (New_ok w1 m hm)
    have HS1 := Lib.hid hs1
    have HB1 := Lib.hid hb1
    have hz1 := hb1.size
    have hk1 := hs1.lt
    clear hs1 hb1 hnew
    go_wp2_with fail
    go_at_call 15
    refine hnew2.out.mono ?_
    rintro e w2 ⟨g2, r2, rfl, hs2, hg2, hr2, hb2⟩
    have HS2 := Lib.hid hs2
    have HB2 := Lib.hid hb2
    have hz2 := hb2.size
    have hk2 := hs2.lt
    have hh := Lib.hid (heads_any w2 (HT.out.kept (M := fun _ => False) (.of_below (HB1.out.trans (hb2.mono hz1))) id))
    clear hs2 hb2 hnew2
    go_wp2_with fail
    go_at_call 9
    refine hh.out.mono ?_
    rintro e w3 ⟨rfl, hb3⟩
    have hz3 := hb3.size
    have hs3 : IsSet w3 g1 r1 m _ := (HS1.out.below HB2.out hk1.1 hk1.2.1).below hb3 (by omega) (by omega)
    have ht3 : IsSet w3 g2 r2 m _ := HS2.out.below hb3 hk2.1 hk2.2.1
    have hB3 : Below W.heap.size W w3 := (HB1.out.trans (HB2.out.mono hz1)).trans (hb3.mono (by omega))
    have HS3 := Lib.hid hs3
    have HT3 := Lib.hid ht3
    have HB3 := Lib.hid hB3
    clear hs3 ht3 hB3 hb3 hh
    go_wp2_with fail
    go_loopw [11] (fun i wr => ∃ (k : Nat) (us : List Nat), k ≤ xs.length ∧ i = .int .i64 k ∧ IsSet wr g1 r1 m us ∧ Fr (fun k => k = r1) w3 wr) (fun i _ => xs.length - (intOf i).toNat)
    case atStart => exact ⟨0, _, Nat.zero_le _, rfl, HS3.out, Fr.refl _ _⟩
    case round =>
      obtain ⟨k1, ws, hkk1, rfl, hset, hfr⟩ := hrel
      by_cases hlt : k1 < xs.length
      · obtain ⟨ad, rfl, hc⟩ := (H1.out.below (HB3.out.trans (hfr.below2 (B := W.heap.size) (fun k hk => by omega) (by omega)))) k1 hlt
        have hput := Lib.hid (Put_some hset (nd xs k1))
        have HFR := Lib.hid hfr
        clear hset hfr
        go_wp2_with fail
        go_at_call 16
        refine hput.out.mono ?_
        rintro e w' ⟨r, us', rfl, hs', hf'⟩
        have HS' := Lib.hid hs'
        have HF' := Lib.hid hf'
        clear hs' hf'
        go_wp2
        go_roundw
        case rel => exact ⟨k1 + 1, us', by omega, by simp, HS'.out, HFR.out.trans HF'.out⟩
        case measure => simp [intOf]; omega
      · obtain ⟨w4, hwn⟩ : ∃ w, w = wr := ⟨wr, rfl⟩
        subst hwn
        have hz4 := hfr.size
        have hB : Below W.heap.size W w4 := HB3.out.trans (hfr.below2 (B := W.heap.size) (fun k hk => by omega) (by omega))
        have hT' := HT3.out.fr hfr (by omega) (by omega)
        have hk41 := hset.lt
        have hk42 := hT'.lt
        have HS4 := Lib.hid hset
        have HT4 := Lib.hid hT'
        have HB4 := Lib.hid hB
        clear hset hfr hT' hB
        go_wp2_with fail
        go_loopw [12] (fun i wr => ∃ (k : Nat) (us : List Nat), k ≤ ys.length ∧ i = .int .i64 k ∧ IsSet wr g2 r2 m us ∧ Fr (fun k => k = r2) w4 wr) (fun i _ => ys.length - (intOf i).toNat)
        case atStart => exact ⟨0, _, Nat.zero_le _, rfl, HT4.out, Fr.refl _ _⟩
        case round =>
          obtain ⟨k2, vs, hkk2, rfl, hset, hfr⟩ := hrel
          by_cases hlt : k2 < ys.length
          · obtain ⟨ad, rfl, hc⟩ := (H2.out.below (HB4.out.trans (hfr.below2 (B := W.heap.size) (fun k hk => by omega) (by omega)))) k2 hlt
            have hput := Lib.hid (Put_some hset (nd ys k2))
            have HFR := Lib.hid hfr
            clear hset hfr
            go_wp2_with fail
            go_at_call 16
            refine hput.out.mono ?_
            rintro e w' ⟨r, us', rfl, hs', hf'⟩
            have HS' := Lib.hid hs'
            have HF' := Lib.hid hf'
            clear hs' hf'
            go_wp2
            go_roundw
            case rel => exact ⟨k2 + 1, us', by omega, by simp, HS'.out, HFR.out.trans HF'.out⟩
            case measure => simp [intOf]; omega
          · obtain ⟨w5, hwn⟩ : ∃ w, w = wr := ⟨wr, rfl⟩
            subst hwn
            have hz5 := hfr.size
            have hB5 : Below W.heap.size W w5 := HB4.out.trans (hfr.below2 (B := W.heap.size) (fun k hk => by omega) (by omega))
            have s1_5 : IsSet w5 g1 r1 m ws := HS4.out.fr hfr (by omega) (by omega)
            have s2_5 : IsSet w5 g2 r2 m vs := hset
            have hW1 : Words64 ws := s1_5.len.2.2
            have hW2 : Words64 vs := s2_5.len.2.2
            have hvl : vs.length = ws.length := by rw [s1_5.len.1, s2_5.len.1]
            have hlen : ws.length ≤ 64 := s1_5.small.1
            have l1 := s1_5.lt
            have l2 := s2_5.lt
            clear HS4 HT4 hset hfr
            have S1_5 := Lib.hid s1_5
            have S2_5 := Lib.hid s2_5
            have B_5 := Lib.hid hB5
            clear s1_5 s2_5 hB5
            have hcall := Lib.hid (Copy_set S1_5.out)
            go_wp2_with fail
            go_at_call 17
            refine hcall.out.mono ?_
            rintro e w6 ⟨g3, r3, rfl, s3_6, hg3, hr3, hb⟩
            have hz6 := hb.size
            have l3 := s3_6.lt
            have s1_6 : IsSet w6 g1 r1 m ws := S1_5.out.below hb (by omega) (by omega)
            have s2_6 : IsSet w6 g2 r2 m vs := S2_5.out.below hb (by omega) (by omega)
            have hB6 : Below W.heap.size W w6 := B_5.out.trans (hb.mono (by omega))
            clear hcall hb S1_5 S2_5 B_5
            have S1_6 := Lib.hid s1_6
            have S2_6 := Lib.hid s2_6
            have S3_6 := Lib.hid s3_6
            have B_6 := Lib.hid hB6
            clear s1_6 s2_6 s3_6 hB6
            have hcall := Lib.hid (Copy_set S1_6.out)
            go_wp2_with fail
            go_at_call 17
            refine hcall.out.mono ?_
            rintro e w7 ⟨g4, r4, rfl, s4_7, hg4, hr4, hb⟩
            have hz7 := hb.size
            have l4 := s4_7.lt
            have s1_7 : IsSet w7 g1 r1 m ws := S1_6.out.below hb (by omega) (by omega)
            have s2_7 : IsSet w7 g2 r2 m vs := S2_6.out.below hb (by omega) (by omega)
            have s3_7 : IsSet w7 g3 r3 m ws := S3_6.out.below hb (by omega) (by omega)
            have hB7 : Below W.heap.size W w7 := B_6.out.trans (hb.mono (by omega))
            clear hcall hb S1_6 S2_6 S3_6 B_6
            have S1_7 := Lib.hid s1_7
            have S2_7 := Lib.hid s2_7
            have S3_7 := Lib.hid s3_7
            have S4_7 := Lib.hid s4_7
            have B_7 := Lib.hid hB7
            clear s1_7 s2_7 s3_7 s4_7 hB7
            have hcall := Lib.hid (Copy_set S1_7.out)
            go_wp2_with fail
            go_at_call 17
            refine hcall.out.mono ?_
            rintro e w8 ⟨g5, r5, rfl, s5_8, hg5, hr5, hb⟩
            have hz8 := hb.size
            have l5 := s5_8.lt
            have s1_8 : IsSet w8 g1 r1 m ws := S1_7.out.below hb (by omega) (by omega)
            have s2_8 : IsSet w8 g2 r2 m vs := S2_7.out.below hb (by omega) (by omega)
            have s3_8 : IsSet w8 g3 r3 m ws := S3_7.out.below hb (by omega) (by omega)
            have s4_8 : IsSet w8 g4 r4 m ws := S4_7.out.below hb (by omega) (by omega)
            have hB8 : Below W.heap.size W w8 := B_7.out.trans (hb.mono (by omega))
            clear hcall hb S1_7 S2_7 S3_7 S4_7 B_7
            have S1_8 := Lib.hid s1_8
            have S2_8 := Lib.hid s2_8
            have S3_8 := Lib.hid s3_8
            have S4_8 := Lib.hid s4_8
            have S5_8 := Lib.hid s5_8
            have B_8 := Lib.hid hB8
            clear s1_8 s2_8 s3_8 s4_8 s5_8 hB8
            have hcall := Lib.hid (Without_set S3_8.out S2_8.out)
            go_wp2_with fail
            go_at_call 18
            refine hcall.out.mono ?_
            rintro e w9 ⟨rfl, s3_9, hf⟩
            have hz9 := hf.size
            have s1_9 : IsSet w9 g1 r1 m ws := S1_8.out.fr hf (by omega) (by omega)
            have s2_9 : IsSet w9 g2 r2 m vs := S2_8.out.fr hf (by omega) (by omega)
            have s4_9 : IsSet w9 g4 r4 m ws := S4_8.out.fr hf (by omega) (by omega)
            have s5_9 : IsSet w9 g5 r5 m ws := S5_8.out.fr hf (by omega) (by omega)
            have hB9 : Below W.heap.size W w9 := B_8.out.trans (hf.below2 (B := W.heap.size) (fun k hk => by omega) (by omega))
            clear hcall hf S1_8 S2_8 S3_8 S4_8 S5_8 B_8
            have S1_9 := Lib.hid s1_9
            have S2_9 := Lib.hid s2_9
            have S3_9 := Lib.hid s3_9
            have S4_9 := Lib.hid s4_9
            have S5_9 := Lib.hid s5_9
            have B_9 := Lib.hid hB9
            clear s1_9 s2_9 s3_9 s4_9 s5_9 hB9
            have hcall := Lib.hid (And_set S4_9.out S2_9.out)
            go_wp2_with fail
            go_at_call 19
            refine hcall.out.mono ?_
            rintro e w10 ⟨rfl, s4_10, hf⟩
            have hz10 := hf.size
            have s1_10 : IsSet w10 g1 r1 m ws := S1_9.out.fr hf (by omega) (by omega)
            have s2_10 : IsSet w10 g2 r2 m vs := S2_9.out.fr hf (by omega) (by omega)
            have s3_10 : IsSet w10 g3 r3 m (List.zipWith wout ws vs) := S3_9.out.fr hf (by omega) (by omega)
            have s5_10 : IsSet w10 g5 r5 m ws := S5_9.out.fr hf (by omega) (by omega)
            have hB10 : Below W.heap.size W w10 := B_9.out.trans (hf.below2 (B := W.heap.size) (fun k hk => by omega) (by omega))
            clear hcall hf S1_9 S2_9 S3_9 S4_9 S5_9 B_9
            have S1_10 := Lib.hid s1_10
            have S2_10 := Lib.hid s2_10
            have S3_10 := Lib.hid s3_10
            have S4_10 := Lib.hid s4_10
            have S5_10 := Lib.hid s5_10
            have B_10 := Lib.hid hB10
            clear s1_10 s2_10 s3_10 s4_10 s5_10 hB10
            have hcall := Lib.hid (Or_set S5_10.out S2_10.out)
            go_wp2_with fail
            go_at_call 20
            refine hcall.out.mono ?_
            rintro e w11 ⟨rfl, s5_11, hf⟩
            have hz11 := hf.size
            have s1_11 : IsSet w11 g1 r1 m ws := S1_10.out.fr hf (by omega) (by omega)
            have s2_11 : IsSet w11 g2 r2 m vs := S2_10.out.fr hf (by omega) (by omega)
            have s3_11 : IsSet w11 g3 r3 m (List.zipWith wout ws vs) := S3_10.out.fr hf (by omega) (by omega)
            have s4_11 : IsSet w11 g4 r4 m (List.zipWith wand ws vs) := S4_10.out.fr hf (by omega) (by omega)
            have hB11 : Below W.heap.size W w11 := B_10.out.trans (hf.below2 (B := W.heap.size) (fun k hk => by omega) (by omega))
            clear hcall hf S1_10 S2_10 S3_10 S4_10 S5_10 B_10
            have S1_11 := Lib.hid s1_11
            have S2_11 := Lib.hid s2_11
            have S3_11 := Lib.hid s3_11
            have S4_11 := Lib.hid s4_11
            have S5_11 := Lib.hid s5_11
            have B_11 := Lib.hid hB11
            clear s1_11 s2_11 s3_11 s4_11 s5_11 hB11
            have hcall := Lib.hid (Copy_set S3_11.out)
            go_wp2_with fail
            go_at_call 17
            refine hcall.out.mono ?_
            rintro e w12 ⟨g6, r6, rfl, s6_12, hg6, hr6, hb⟩
            have hz12 := hb.size
            have l6 := s6_12.lt
            have s1_12 : IsSet w12 g1 r1 m ws := S1_11.out.below hb (by omega) (by omega)
            have s2_12 : IsSet w12 g2 r2 m vs := S2_11.out.below hb (by omega) (by omega)
            have s3_12 : IsSet w12 g3 r3 m (List.zipWith wout ws vs) := S3_11.out.below hb (by omega) (by omega)
            have s4_12 : IsSet w12 g4 r4 m (List.zipWith wand ws vs) := S4_11.out.below hb (by omega) (by omega)
            have s5_12 : IsSet w12 g5 r5 m (List.zipWith wor ws vs) := S5_11.out.below hb (by omega) (by omega)
            have hB12 : Below W.heap.size W w12 := B_11.out.trans (hb.mono (by omega))
            clear hcall hb S1_11 S2_11 S3_11 S4_11 S5_11 B_11
            have S1_12 := Lib.hid s1_12
            have S2_12 := Lib.hid s2_12
            have S3_12 := Lib.hid s3_12
            have S4_12 := Lib.hid s4_12
            have S5_12 := Lib.hid s5_12
            have S6_12 := Lib.hid s6_12
            have B_12 := Lib.hid hB12
            clear s1_12 s2_12 s3_12 s4_12 s5_12 s6_12 hB12
            have hcall := Lib.hid (Copy_set S3_12.out)
            go_wp2_with fail
            go_at_call 17
            refine hcall.out.mono ?_
            rintro e w13 ⟨g7, r7, rfl, s7_13, hg7, hr7, hb⟩
            have hz13 := hb.size
            have l7 := s7_13.lt
            have s1_13 : IsSet w13 g1 r1 m ws := S1_12.out.below hb (by omega) (by omega)
            have s2_13 : IsSet w13 g2 r2 m vs := S2_12.out.below hb (by omega) (by omega)
            have s3_13 : IsSet w13 g3 r3 m (List.zipWith wout ws vs) := S3_12.out.below hb (by omega) (by omega)
            have s4_13 : IsSet w13 g4 r4 m (List.zipWith wand ws vs) := S4_12.out.below hb (by omega) (by omega)
            have s5_13 : IsSet w13 g5 r5 m (List.zipWith wor ws vs) := S5_12.out.below hb (by omega) (by omega)
            have s6_13 : IsSet w13 g6 r6 m (List.zipWith wout ws vs) := S6_12.out.below hb (by omega) (by omega)
            have hB13 : Below W.heap.size W w13 := B_12.out.trans (hb.mono (by omega))
            clear hcall hb S1_12 S2_12 S3_12 S4_12 S5_12 S6_12 B_12
            have S1_13 := Lib.hid s1_13
            have S2_13 := Lib.hid s2_13
            have S3_13 := Lib.hid s3_13
            have S4_13 := Lib.hid s4_13
            have S5_13 := Lib.hid s5_13
            have S6_13 := Lib.hid s6_13
            have S7_13 := Lib.hid s7_13
            have B_13 := Lib.hid hB13
            clear s1_13 s2_13 s3_13 s4_13 s5_13 s6_13 s7_13 hB13
            have hcall := Lib.hid (And_set S6_13.out S4_13.out)
            go_wp2_with fail
            go_at_call 19
            refine hcall.out.mono ?_
            rintro e w14 ⟨rfl, s6_14, hf⟩
            have hz14 := hf.size
            have s1_14 : IsSet w14 g1 r1 m ws := S1_13.out.fr hf (by omega) (by omega)
            have s2_14 : IsSet w14 g2 r2 m vs := S2_13.out.fr hf (by omega) (by omega)
            have s3_14 : IsSet w14 g3 r3 m (List.zipWith wout ws vs) := S3_13.out.fr hf (by omega) (by omega)
            have s4_14 : IsSet w14 g4 r4 m (List.zipWith wand ws vs) := S4_13.out.fr hf (by omega) (by omega)
            have s5_14 : IsSet w14 g5 r5 m (List.zipWith wor ws vs) := S5_13.out.fr hf (by omega) (by omega)
            have s7_14 : IsSet w14 g7 r7 m (List.zipWith wout ws vs) := S7_13.out.fr hf (by omega) (by omega)
            have hB14 : Below W.heap.size W w14 := B_13.out.trans (hf.below2 (B := W.heap.size) (fun k hk => by omega) (by omega))
            clear hcall hf S1_13 S2_13 S3_13 S4_13 S5_13 S6_13 S7_13 B_13
            have S1_14 := Lib.hid s1_14
            have S2_14 := Lib.hid s2_14
            have S3_14 := Lib.hid s3_14
            have S4_14 := Lib.hid s4_14
            have S5_14 := Lib.hid s5_14
            have S6_14 := Lib.hid s6_14
            have S7_14 := Lib.hid s7_14
            have B_14 := Lib.hid hB14
            clear s1_14 s2_14 s3_14 s4_14 s5_14 s6_14 s7_14 hB14
            have hcall := Lib.hid (Or_set S7_14.out S4_14.out)
            go_wp2_with fail
            go_at_call 20
            refine hcall.out.mono ?_
            rintro e w15 ⟨rfl, s7_15, hf⟩
            have hz15 := hf.size
            have s1_15 : IsSet w15 g1 r1 m ws := S1_14.out.fr hf (by omega) (by omega)
            have s2_15 : IsSet w15 g2 r2 m vs := S2_14.out.fr hf (by omega) (by omega)
            have s3_15 : IsSet w15 g3 r3 m (List.zipWith wout ws vs) := S3_14.out.fr hf (by omega) (by omega)
            have s4_15 : IsSet w15 g4 r4 m (List.zipWith wand ws vs) := S4_14.out.fr hf (by omega) (by omega)
            have s5_15 : IsSet w15 g5 r5 m (List.zipWith wor ws vs) := S5_14.out.fr hf (by omega) (by omega)
            have s6_15 : IsSet w15 g6 r6 m (List.zipWith wand (List.zipWith wout ws vs) (List.zipWith wand ws vs)) := S6_14.out.fr hf (by omega) (by omega)
            have hB15 : Below W.heap.size W w15 := B_14.out.trans (hf.below2 (B := W.heap.size) (fun k hk => by omega) (by omega))
            clear hcall hf S1_14 S2_14 S3_14 S4_14 S5_14 S6_14 S7_14 B_14
            have S1_15 := Lib.hid s1_15
            have S2_15 := Lib.hid s2_15
            have S3_15 := Lib.hid s3_15
            have S4_15 := Lib.hid s4_15
            have S5_15 := Lib.hid s5_15
            have S6_15 := Lib.hid s6_15
            have S7_15 := Lib.hid s7_15
            have B_15 := Lib.hid hB15
            clear s1_15 s2_15 s3_15 s4_15 s5_15 s6_15 s7_15 hB15
            obtain ⟨N3, hN3⟩ : ∃ N, N = (mems 0 (List.zipWith wout ws vs)).length := ⟨_, rfl⟩
            obtain ⟨N2, hN2⟩ : ∃ N, N = (mems 0 vs).length := ⟨_, rfl⟩
            have hb3 : N3 ≤ 4096 := by rw [hN3]; have := mems_len_le (List.zipWith wout ws vs) 0; have : (List.zipWith wout ws vs).length ≤ 64 := by simp; omega
                                       omega
            have hb2 : N2 ≤ 4096 := by rw [hN2]; have := mems_len_le vs 0; omega
            have hN5 : (mems 0 (List.zipWith wor ws vs)).length = N3 + N2 := by rw [hN3, hN2]; exact mems_count ws vs 0 hvl hW1 hW2
            have HN3 := Lib.hid hN3
            have HN2 := Lib.hid hN2
            have HN5 := Lib.hid hN5
            clear hN3 hN2 hN5
            have hcall : Calls Tryd.prog 21 #[.pointer (some ⟨g6, 0, none⟩)] w15 fun e w' => e = .returned (.int .i64 0) ∧ w15 = w' := by have h := Count_set S6_15.out; rw [mems_none ws vs 0 hW1 hW2] at h; exact h
            have HC := Lib.hid hcall
            clear hcall
            go_wp2_with fail
            go_at_call 21
            refine HC.out.mono ?_
            rintro e w' ⟨rfl, rfl⟩
            clear HC
            have hcall := Lib.hid (Same_set S7_15.out S1_15.out)
            go_wp2_with fail
            go_at_call 22
            refine hcall.out.mono ?_
            rintro e w16 ⟨⟨b, rfl, hb⟩, na, hna⟩
            obtain rfl : b = true := hb.2 (zip_both ws vs hvl hW1 hW2)
            have hfn : Fr (fun _ => False) w15 w16 := hna ▸ Fr.drewN _ w15 na
            have hz16 := hfn.size
            have s1_16 : IsSet w16 g1 r1 m ws := S1_15.out.fr hfn id id
            have s2_16 : IsSet w16 g2 r2 m vs := S2_15.out.fr hfn id id
            have s3_16 : IsSet w16 g3 r3 m (List.zipWith wout ws vs) := S3_15.out.fr hfn id id
            have s4_16 : IsSet w16 g4 r4 m (List.zipWith wand ws vs) := S4_15.out.fr hfn id id
            have s5_16 : IsSet w16 g5 r5 m (List.zipWith wor ws vs) := S5_15.out.fr hfn id id
            have s6_16 : IsSet w16 g6 r6 m (List.zipWith wand (List.zipWith wout ws vs) (List.zipWith wand ws vs)) := S6_15.out.fr hfn id id
            have s7_16 : IsSet w16 g7 r7 m (List.zipWith wor (List.zipWith wout ws vs) (List.zipWith wand ws vs)) := S7_15.out.fr hfn id id
            have hB16 : Below W.heap.size W w16 := B_15.out.trans (hfn.below2 (B := W.heap.size) (fun k hk => id) (by omega))
            clear hcall hb hna hfn S1_15 S2_15 S3_15 S4_15 S5_15 S6_15 S7_15 B_15
            have S1_16 := Lib.hid s1_16
            have S2_16 := Lib.hid s2_16
            have S3_16 := Lib.hid s3_16
            have S4_16 := Lib.hid s4_16
            have S5_16 := Lib.hid s5_16
            have S6_16 := Lib.hid s6_16
            have S7_16 := Lib.hid s7_16
            have B_16 := Lib.hid hB16
            clear s1_16 s2_16 s3_16 s4_16 s5_16 s6_16 s7_16 hB16
            have hcall := Lib.hid (Within_set S3_16.out S1_16.out)
            go_wp2_with fail
            go_at_call 23
            refine hcall.out.mono ?_
            rintro e w17 ⟨⟨b, rfl, hb⟩, na, hna⟩
            obtain rfl : b = true := hb.2 (z_w ws vs hvl hW1 hW2)
            have hfn : Fr (fun _ => False) w16 w17 := hna ▸ Fr.drewN _ w16 na
            have hz17 := hfn.size
            have s1_17 : IsSet w17 g1 r1 m ws := S1_16.out.fr hfn id id
            have s2_17 : IsSet w17 g2 r2 m vs := S2_16.out.fr hfn id id
            have s3_17 : IsSet w17 g3 r3 m (List.zipWith wout ws vs) := S3_16.out.fr hfn id id
            have s4_17 : IsSet w17 g4 r4 m (List.zipWith wand ws vs) := S4_16.out.fr hfn id id
            have s5_17 : IsSet w17 g5 r5 m (List.zipWith wor ws vs) := S5_16.out.fr hfn id id
            have s6_17 : IsSet w17 g6 r6 m (List.zipWith wand (List.zipWith wout ws vs) (List.zipWith wand ws vs)) := S6_16.out.fr hfn id id
            have s7_17 : IsSet w17 g7 r7 m (List.zipWith wor (List.zipWith wout ws vs) (List.zipWith wand ws vs)) := S7_16.out.fr hfn id id
            have hB17 : Below W.heap.size W w17 := B_16.out.trans (hfn.below2 (B := W.heap.size) (fun k hk => id) (by omega))
            clear hcall hb hna hfn S1_16 S2_16 S3_16 S4_16 S5_16 S6_16 S7_16 B_16
            have S1_17 := Lib.hid s1_17
            have S2_17 := Lib.hid s2_17
            have S3_17 := Lib.hid s3_17
            have S4_17 := Lib.hid s4_17
            have S5_17 := Lib.hid s5_17
            have S6_17 := Lib.hid s6_17
            have S7_17 := Lib.hid s7_17
            have B_17 := Lib.hid hB17
            clear s1_17 s2_17 s3_17 s4_17 s5_17 s6_17 s7_17 hB17
            have hcall := Lib.hid (Within_set S4_17.out S2_17.out)
            go_wp2_with fail
            go_at_call 23
            refine hcall.out.mono ?_
            rintro e w18 ⟨⟨b, rfl, hb⟩, na, hna⟩
            obtain rfl : b = true := hb.2 (z_u ws vs hvl hW1 hW2)
            have hfn : Fr (fun _ => False) w17 w18 := hna ▸ Fr.drewN _ w17 na
            have hz18 := hfn.size
            have s1_18 : IsSet w18 g1 r1 m ws := S1_17.out.fr hfn id id
            have s2_18 : IsSet w18 g2 r2 m vs := S2_17.out.fr hfn id id
            have s3_18 : IsSet w18 g3 r3 m (List.zipWith wout ws vs) := S3_17.out.fr hfn id id
            have s4_18 : IsSet w18 g4 r4 m (List.zipWith wand ws vs) := S4_17.out.fr hfn id id
            have s5_18 : IsSet w18 g5 r5 m (List.zipWith wor ws vs) := S5_17.out.fr hfn id id
            have s6_18 : IsSet w18 g6 r6 m (List.zipWith wand (List.zipWith wout ws vs) (List.zipWith wand ws vs)) := S6_17.out.fr hfn id id
            have s7_18 : IsSet w18 g7 r7 m (List.zipWith wor (List.zipWith wout ws vs) (List.zipWith wand ws vs)) := S7_17.out.fr hfn id id
            have hB18 : Below W.heap.size W w18 := B_17.out.trans (hfn.below2 (B := W.heap.size) (fun k hk => id) (by omega))
            clear hcall hb hna hfn S1_17 S2_17 S3_17 S4_17 S5_17 S6_17 S7_17 B_17
            have S1_18 := Lib.hid s1_18
            have S2_18 := Lib.hid s2_18
            have S3_18 := Lib.hid s3_18
            have S4_18 := Lib.hid s4_18
            have S5_18 := Lib.hid s5_18
            have S6_18 := Lib.hid s6_18
            have S7_18 := Lib.hid s7_18
            have B_18 := Lib.hid hB18
            clear s1_18 s2_18 s3_18 s4_18 s5_18 s6_18 s7_18 hB18
            have hcall := Lib.hid (Within_set S1_18.out S5_18.out)
            go_wp2_with fail
            go_at_call 23
            refine hcall.out.mono ?_
            rintro e w19 ⟨⟨b, rfl, hb⟩, na, hna⟩
            obtain rfl : b = true := hb.2 (fun j hj => by rw [wd_zip _ _ _ hvl j hj]; exact l_s (wd_lt hW1 j) (wd_lt hW2 j))
            have hfn : Fr (fun _ => False) w18 w19 := hna ▸ Fr.drewN _ w18 na
            have hz19 := hfn.size
            have s1_19 : IsSet w19 g1 r1 m ws := S1_18.out.fr hfn id id
            have s2_19 : IsSet w19 g2 r2 m vs := S2_18.out.fr hfn id id
            have s3_19 : IsSet w19 g3 r3 m (List.zipWith wout ws vs) := S3_18.out.fr hfn id id
            have s4_19 : IsSet w19 g4 r4 m (List.zipWith wand ws vs) := S4_18.out.fr hfn id id
            have s5_19 : IsSet w19 g5 r5 m (List.zipWith wor ws vs) := S5_18.out.fr hfn id id
            have s6_19 : IsSet w19 g6 r6 m (List.zipWith wand (List.zipWith wout ws vs) (List.zipWith wand ws vs)) := S6_18.out.fr hfn id id
            have s7_19 : IsSet w19 g7 r7 m (List.zipWith wor (List.zipWith wout ws vs) (List.zipWith wand ws vs)) := S7_18.out.fr hfn id id
            have hB19 : Below W.heap.size W w19 := B_18.out.trans (hfn.below2 (B := W.heap.size) (fun k hk => id) (by omega))
            clear hcall hb hna hfn S1_18 S2_18 S3_18 S4_18 S5_18 S6_18 S7_18 B_18
            have S1_19 := Lib.hid s1_19
            have S2_19 := Lib.hid s2_19
            have S3_19 := Lib.hid s3_19
            have S4_19 := Lib.hid s4_19
            have S5_19 := Lib.hid s5_19
            have S6_19 := Lib.hid s6_19
            have S7_19 := Lib.hid s7_19
            have B_19 := Lib.hid hB19
            clear s1_19 s2_19 s3_19 s4_19 s5_19 s6_19 s7_19 hB19
            have hcall := Lib.hid (Within_set S2_19.out S5_19.out)
            go_wp2_with fail
            go_at_call 23
            refine hcall.out.mono ?_
            rintro e w20 ⟨⟨b, rfl, hb⟩, na, hna⟩
            obtain rfl : b = true := hb.2 (fun j hj => by rw [wd_zip _ _ _ hvl j (by omega)]; exact l_t (wd_lt hW1 j) (wd_lt hW2 j))
            have hfn : Fr (fun _ => False) w19 w20 := hna ▸ Fr.drewN _ w19 na
            have hz20 := hfn.size
            have s1_20 : IsSet w20 g1 r1 m ws := S1_19.out.fr hfn id id
            have s2_20 : IsSet w20 g2 r2 m vs := S2_19.out.fr hfn id id
            have s3_20 : IsSet w20 g3 r3 m (List.zipWith wout ws vs) := S3_19.out.fr hfn id id
            have s4_20 : IsSet w20 g4 r4 m (List.zipWith wand ws vs) := S4_19.out.fr hfn id id
            have s5_20 : IsSet w20 g5 r5 m (List.zipWith wor ws vs) := S5_19.out.fr hfn id id
            have s6_20 : IsSet w20 g6 r6 m (List.zipWith wand (List.zipWith wout ws vs) (List.zipWith wand ws vs)) := S6_19.out.fr hfn id id
            have s7_20 : IsSet w20 g7 r7 m (List.zipWith wor (List.zipWith wout ws vs) (List.zipWith wand ws vs)) := S7_19.out.fr hfn id id
            have hB20 : Below W.heap.size W w20 := B_19.out.trans (hfn.below2 (B := W.heap.size) (fun k hk => id) (by omega))
            clear hcall hb hna hfn S1_19 S2_19 S3_19 S4_19 S5_19 S6_19 S7_19 B_19
            have S1_20 := Lib.hid s1_20
            have S2_20 := Lib.hid s2_20
            have S3_20 := Lib.hid s3_20
            have S4_20 := Lib.hid s4_20
            have S5_20 := Lib.hid s5_20
            have S6_20 := Lib.hid s6_20
            have S7_20 := Lib.hid s7_20
            have B_20 := Lib.hid hB20
            clear s1_20 s2_20 s3_20 s4_20 s5_20 s6_20 s7_20 hB20
            have hcall : Calls Tryd.prog 21 #[.pointer (some ⟨g5, 0, none⟩)] w20 fun e w' => e = .returned (.int .i64 ((N3 + N2 : Nat) : Int)) ∧ w20 = w' := by have h := Count_set S5_20.out; rw [HN5.out] at h; exact h
            have HC := Lib.hid hcall
            clear hcall
            go_wp2_with fail
            go_at_call 21
            refine HC.out.mono ?_
            rintro e w' ⟨rfl, rfl⟩
            clear HC
            have hcall : Calls Tryd.prog 21 #[.pointer (some ⟨g3, 0, none⟩)] w20 fun e w' => e = .returned (.int .i64 N3) ∧ w20 = w' := by have h := Count_set S3_20.out; rw [← HN3.out] at h; exact h
            have HC := Lib.hid hcall
            clear hcall
            go_wp2_with fail
            go_at_call 21
            refine HC.out.mono ?_
            rintro e w' ⟨rfl, rfl⟩
            clear HC
            have hcall : Calls Tryd.prog 21 #[.pointer (some ⟨g2, 0, none⟩)] w20 fun e w' => e = .returned (.int .i64 N2) ∧ w20 = w' := by have h := Count_set S2_20.out; rw [← HN2.out] at h; exact h
            have HC := Lib.hid hcall
            clear hcall
            go_wp2_with fail
            go_at_call 21
            refine HC.out.mono ?_
            rintro e w' ⟨rfl, rfl⟩
            clear HC
            go_wp2
            go_ret
            exact ⟨rfl, B_20.out⟩
end Go.Proofs.YthfapneifbjlmaaDoor
end

section
namespace Go.Proofs.YthfapneifbjlmaaDoor
open Go.RowKit Go.Shelf
open Go.Proofs.YthfapneifbjlmaaDoorW.PrintWords
attribute [local go_sem] Oper.semAt_some
set_option linter.unusedVariables false
set_option linter.unusedSimpArgs false

/-- Drop, whatever the number (not negative). -/
theorem Drop_some {W : World} {g h room : Nat} {ws : List Nat} (H : IsSet W g h room ws) (i : Nat) :
    Calls Tryd.prog 35 #[.pointer (some ⟨g, 0, none⟩), .int .i64 i] W fun e w' => ∃ r : Int, e = .returned (.int .i64 r) ∧ IsSet w' g h room (dropI room ws i) ∧ Fr (fun k => k = h) W w' := by
  unfold dropI
  by_cases hi : i < room
  · rw [if_pos hi]
    have h1 := Drop_set H (i : Int) (by omega) (by omega)
    rw [Int.toNat_natCast] at h1
    exact h1.mono fun e w' ⟨h1, h2, h3⟩ => ⟨0, h1, h2, (Fr.of_grownBy h3).mono (fun k _ hk => by injection hk)⟩
  · rw [if_neg hi]
    exact (Drop_out H (i : Int) (by omega)).mono fun e w' ⟨h1, h2⟩ => ⟨30, h1, h2 ▸ H, h2 ▸ Fr.refl _ _⟩
theorem Put_numb {W : World} {g h room : Nat} {ws : List Nat} (H : IsSet W g h room ws) (i : Nat) :
    Calls Tryd.prog 16 #[.pointer (some ⟨g, 0, none⟩), .int .i64 i] W fun e w' => ∃ r : Int, e = .returned (.int .i64 r) ∧ IsSet w' g h room (putI room ws i) ∧ Fr (fun k => k = h) W w' := by
  unfold putI
  by_cases hi : i < room
  · rw [if_pos hi]
    have h1 := Put_set H (i : Int) (by omega) (by omega)
    rw [Int.toNat_natCast] at h1
    exact h1.mono fun e w' ⟨h1, h2, h3⟩ => ⟨0, h1, h2, (Fr.of_grownBy h3).mono (fun k _ hk => by injection hk)⟩
  · rw [if_neg hi]
    exact (Put_out H (i : Int) (by omega)).mono fun e w' ⟨h1, h2⟩ => ⟨30, h1, h2 ▸ H, h2 ▸ Fr.refl _ _⟩
def ints (l : List Nat) : List Int := l.map fun i : Nat => (i : Int)
/-- What a round of the range in 'tells' finds: s's variable, l's variable with its row, the set without what was handed over. -/
def TsI (sb lb g h room : Nat) (ws : List Nat) (pre : List Nat) (W : World) (D : Nat → Prop) : Prop :=
  ∃ v, (∀ k, D k ↔ (k = sb ∨ k = lb ∨ k = g ∨ k = h ∨ v.ownBlock = some k)) ∧ W.heap[sb]? = some (.cells #[.pointer (some ⟨g, 0, none⟩)] 33 (0, 0)) ∧ W.heap[lb]? = some (.cells #[v] 22 (0, 0)) ∧
    W.ownsRow 0 3 1 v pre.length (i64s (ints pre)) ∧ IsSet W g h room (pre.foldl (dropI room) ws)
theorem ownsRow_kept {base e : Nat} {W W' : World} {v : Value} {n : Nat} {xs : List Value} (h : W.ownsRow base e 1 v n xs) (hk : ∀ k, v.ownBlock = some k → W'.heap[k]? = W.heap[k]?) : W'.ownsRow base e 1 v n xs := by
  refine ⟨h.1, ?_⟩
  rcases h.2 with h1 | ⟨g, cap, cur, h1, h2, h3, r⟩
  · exact .inl h1
  · exact .inr ⟨g, cap, cur, h1, h2, (hk g (by rw [h1]; rfl)).trans h3, r⟩
theorem TsI.foot (sb lb g h room : Nat) (ws : List Nat) : Foot (TsI sb lb g h room ws) := by
  rintro s W W' D ⟨v, hD, h1, h2, h3, h4⟩ hk
  refine ⟨v, hD, (hk sb ((hD sb).2 (.inl rfl))).trans h1, (hk lb ((hD lb).2 (.inr (.inl rfl)))).trans h2, ownsRow_kept h3 (fun k hv => hk k ((hD k).2 (.inr (.inr (.inr (.inr hv)))))), ?_⟩
  exact h4.move (hk g ((hD g).2 (.inr (.inr (.inl rfl))))) (hk h ((hD h).2 (.inr (.inr (.inr (.inl rfl))))))
end Go.Proofs.YthfapneifbjlmaaDoor
end

section
namespace Go.Proofs.YthfapneifbjlmaaDoor
open Go.RowKit Go.Shelf
attribute [local go_sem] Oper.semAt_some
set_option linter.unusedVariables false
set_option linter.unusedSimpArgs false

/-- Block gp is a set of the reference, its truths lie in the block of A. -/
def RIs (W : World) (gp : Nat) (A : Option Addr) (In : List Bool) : Prop :=
  (∃ cap, W.heap[gp]? = some (.cells #[.bool true, .slice A In.length cap] 39 (0, 0)) ∧ In.length ≤ cap) ∧ In.length ≤ 4096 ∧
  ∀ j, j < In.length → ∃ rb cs, A = some ⟨rb, 0, none⟩ ∧ W.heap[rb]? = some (.cells cs 4 (0, 0)) ∧ W.cell? ⟨rb, j, none⟩ = some (.bool (In.getD j false))
theorem RIs.fr {W W' : World} {M : Nat → Prop} {gp : Nat} {A : Option Addr} {In : List Bool} (h : RIs W gp A In) (hf : Fr M W W') (h1 : ¬ M gp) (h2 : ∀ rb cs, A = some ⟨rb, 0, none⟩ → W.heap[rb]? = some (.cells cs 4 (0, 0)) → ¬ M rb) : RIs W' gp A In := by
  obtain ⟨⟨cap, a, a2⟩, b, c⟩ := h
  refine ⟨⟨cap, (hf.block gp (Array.getElem?_eq_some_iff.1 a).1 h1).trans a, a2⟩, b, fun j hj => ?_⟩
  obtain ⟨rb, cs, e, hr, hc⟩ := c j hj
  have := h2 rb cs e hr
  exact ⟨rb, cs, e, (hf.block rb (Array.getElem?_eq_some_iff.1 hr).1 this).trans hr, hf.cell hc this⟩
theorem RIs.below {B : Nat} {W W' : World} {gp : Nat} {A : Option Addr} {In : List Bool} (h : RIs W gp A In) (hb : Below B W W') (hB : W.heap.size ≤ B) : RIs W' gp A In :=
  h.fr (M := fun _ => False) (.of_below (hb.mono hB)) id (fun _ _ _ _ => id)
theorem RIs.drewN {W : World} {gp : Nat} {A : Option Addr} {In : List Bool} (h : RIs W gp A In) (n : Nat) : RIs (W.drewN n) gp A In := h
theorem RIs.cells {W : World} {gp : Nat} {A : Option Addr} {In : List Bool} (h : RIs W gp A In) : ∃ cap, W.cell? ⟨gp, 0, none⟩ = some (.bool true) ∧ W.cell? ⟨gp, 1, none⟩ = some (.slice A In.length cap) ∧ In.length ≤ cap := by
  obtain ⟨⟨cap, a, a2⟩, b, c⟩ := h
  exact ⟨cap, (cell_of_row W gp 0 _ _ _ a).trans rfl, (cell_of_row W gp 1 _ _ _ a).trans rfl, a2⟩

set_option maxHeartbeats 400000 in
theorem rHas {W : World} {gp : Nat} {A : Option Addr} {In : List Bool} (H : RIs W gp A In) (n : Int) (b : Bool) (hb : (decide (0 ≤ n ∧ n < In.length) && In.getD n.toNat false) = b) :
    Calls Tryd.prog 39 #[.pointer (some ⟨gp, 0, none⟩), .int .i64 n] W fun e w' => e = .returned (.bool b) ∧ W = w' := by
  obtain ⟨cap, h0, h1, hcap⟩ := H.cells
  by_cases h2 : 0 ≤ n
  · obtain ⟨n, rfl⟩ := Int.eq_ofNat_of_zero_le h2
    rw [Int.toNat_natCast] at hb
    by_cases h3 : n < In.length
    · obtain ⟨rb, cs, rfl, hr, hc⟩ := H.2.2 n h3
      have hb2 : In.getD n false = b := by simpa [h3] using hb
      rw [hb2] at hc
      have hl := H.2.1
      clear hb hb2 H
      go_enter Tryd.func39, Tryd.ntmps39
      go_wp2
      go_ret
      exact ⟨rfl, rfl⟩
    · obtain rfl : false = b := by rw [← hb]; simp [h3]
      have h4 : (In.length : Int) ≤ n := by omega
      have hl := H.2.1
      clear hb H
      go_enter Tryd.func39, Tryd.ntmps39
      go_wp2
      go_ret
      exact ⟨rfl, rfl⟩
  · obtain rfl : false = b := by rw [← hb]; simp [h2]
    have h4 : n < 0 := by omega
    clear hb H
    go_enter Tryd.func39, Tryd.ntmps39
    go_wp2
    go_ret
    exact ⟨rfl, rfl⟩

def allN (In : List Bool) (k : Nat) : List Nat := (List.range k).filter fun i => In.getD i false
theorem allN_succ (In : List Bool) (k : Nat) : allN In (k + 1) = allN In k ++ if In.getD k false then [k] else [] := by
  unfold allN
  rw [List.range_succ, List.filter_append]
  congr 1
  simp only [List.filter_cons, List.filter_nil]
theorem allN_len (In : List Bool) (k : Nat) : (allN In k).length ≤ k := by
  unfold allN
  exact Nat.le_trans (List.length_filter_le _ _) (by simp)
theorem cast_inj : ∀ {a b : List Nat}, a.map (fun i : Nat => (i : Int)) = b.map (fun i : Nat => (i : Int)) → a = b
  | [], [], _ => rfl
  | [], _ :: _, h => by simp at h
  | _ :: _, [], h => by simp at h
  | x :: a, y :: b, h => by
    simp only [List.map_cons, List.cons.injEq] at h
    obtain ⟨h1, h2⟩ := h
    rw [show x = y by omega, cast_inj h2]
theorem allN_all (room : Nat) (ws : List Nat) (hl : room ≤ 64 * ws.length) (hh : NoHigh room ws) : allN (inOf room ws) room = mems 0 ws := by
  have h := allL_mems room ws hl hh
  unfold allL at h
  rw [inOf_length] at h
  exact cast_inj h

set_option maxHeartbeats 1000000 in
theorem rAll {W : World} {gp : Nat} {A : Option Addr} {In : List Bool} (H : RIs W gp A In) :
    Calls Tryd.prog 37 #[.pointer (some ⟨gp, 0, none⟩)] W fun e w' => ∃ v, e = .returned v ∧ w'.ownsRow W.heap.size 3 1 v (allN In In.length).length (i64s (ints (allN In In.length))) ∧ Below W.heap.size W w' := by
  obtain ⟨cap, h0, h1, hcap⟩ := H.cells
  have hl := H.2.1
  have HH := Lib.hid H.2.2
  clear H
  obtain ⟨i0, hi0, hz0, hz1, hz2⟩ := info_parts info3
  go_enter Tryd.func37, Tryd.ntmps37
  go_wp2
  go_loopw [3, 4] (fun v i wr => ∃ k : Nat, k ≤ In.length ∧ i = .int .i64 k ∧ wr.ownsRow W.heap.size 3 1 v (allN In k).length (i64s (ints (allN In k))) ∧ Below W.heap.size W wr) (fun _ i _ => In.length - (intOf i).toNat)
  case atStart => exact ⟨0, Nat.zero_le _, rfl, ⟨rfl, .inl ⟨rfl, rfl⟩⟩, Below.refl _ _⟩
  case round =>
    obtain ⟨k, hk, rfl, hown, hb⟩ := hrel
    have h1r := (hb.cell (p := ⟨gp, 1, none⟩) (World.block_lt_of_cell? W _ h1)).trans h1
    by_cases hlt : k < In.length
    · obtain ⟨rb, cs, rfl, hr, hc⟩ := HH.out k hlt
      have hcr := (hb.cell (p := ⟨rb, k, none⟩) (World.block_lt_of_cell? W _ hc)).trans hc
      have hlen := allN_len In k
      have HOW := Lib.hid hown
      have HB := Lib.hid hb
      have hsz := hb.size
      have hsu := Lib.hid (allN_succ In k)
      by_cases hbt : In.getD k false = true
      · rw [hbt] at hcr
        have hx := hsu.out
        rw [if_pos hbt] at hx
        have HX := Lib.hid hx
        clear hown hb hr hc hbt hx hsu
        go_wp2_with (at_builtin; refine wpList_append_own _ rfl _ _ 22 rfl W.heap.size 3 i0 (.int .i64 0) 1 8 Tryd.underlying22 hi0 hz0 hz1 hz2 rfl (by decide) _ (allN In k).length (i64s (ints (allN In k))) rfl (HOW.out.alloc _) ⟨wr.heap.size, 0, none⟩ 1 1 [.int .i64 k] rfl rfl ?c2 ?c3 ?c4 ?c5 ?c6 ?_)
        case c2 => exact cell_one_new _ _ _
        case c3 => intro u hu; simp at hu; subst hu; rfl
        case c4 => simp [maxLen]; omega
        case c5 => omega
        case c6 => simp; omega
        intro v' w1 hown1 hgr1 hnn
        have hb1 : Below W.heap.size W w1 := by
          refine (HB.out.alloc hsz _).grown hgr1 (by simp; omega) (fun k' hk' => ?_)
          exact (HOW.out.lt k' hk').1
        have K1 := Lib.hid hown1
        have K2 := Lib.hid hb1
        clear hown1 hgr1 hnn hb1
        go_wp2
        go_roundw
        case rel =>
          refine ⟨k + 1, by omega, by simp, ?_, K2.out⟩
          rw [HX.out]
          have := K1.out
          simpa [i64s, ints] using this
        case measure => simp [intOf]; omega
      · have hbt' : In.getD k false = false := by simpa using hbt
        rw [hbt'] at hcr
        have hx := hsu.out
        rw [if_neg hbt, List.append_nil] at hx
        have HX := Lib.hid hx
        clear hown hb hr hc hbt hx hsu hbt'
        go_wp2
        go_roundw
        case rel =>
          refine ⟨k + 1, by omega, by simp, ?_, HB.out⟩
          rw [HX.out]; exact HOW.out
        case measure => simp [intOf]; omega
    · obtain rfl : k = In.length := by omega
      have HOW := Lib.hid hown
      clear hown
      go_wp2
      go_ret
      exact ⟨_, rfl, HOW.out, hb⟩

theorem wset_cell {w : World} {h j : Nat} {ws : List Nat} (hh : w.heap[h]? = some (.cells (u64s ws).toArray 42 (0, 0))) (hj : j < ws.length) : w.cell? ⟨h, j, none⟩ = some (.int .u64 (wd ws j)) ∧ w.frozen? ⟨h, j, none⟩ = false := by
  refine ⟨(cell_of_row w h j _ _ _ hh).trans ?_, by simp [World.frozen?, hh]⟩
  simp [u64s, wd, List.getElem?_eq_getElem hj]
theorem wset_put {w : World} {h : Nat} {ws : List Nat} (hh : w.heap[h]? = some (.cells (u64s ws).toArray 42 (0, 0))) (j x : Nat) : (w.setCell ⟨h, j, none⟩ (.int .u64 x)).heap[h]? = some (.cells (u64s (ws.set j x)).toArray 42 (0, 0)) := by
  rw [heap_set_same hh]
  simp [u64s, List.map_set]

set_option maxHeartbeats 1000000 in
theorem rWords {W : World} {gp : Nat} {A : Option Addr} {In : List Bool} (H : RIs W gp A In) {n : Nat} (hn : n = (In.length + 63) / 64) :
    Calls Tryd.prog 36 #[.pointer (some ⟨gp, 0, none⟩)] W fun e w' => e = .returned (.slice (some ⟨W.heap.size, 0, none⟩) n n) ∧ w'.heap[W.heap.size]? = some (.cells (u64s (part In n In.length)).toArray 42 (0, 0)) ∧ Below W.heap.size W w' := by
  obtain ⟨cap, h0, h1, hcap⟩ := H.cells
  have hl := H.2.1
  have HH := Lib.hid H.2.2
  have HN := Lib.hid hn
  obtain ⟨i0, hi, hz0, hz1, hz2⟩ := info_parts info42
  have hmk := run_make (P := Tryd.prog) W 32 42 i0 (.int .u64 0) Tryd.underlying32 hi hz0 .i64 .i64 (((In.length : Int) + 63) / 64) (((In.length : Int) + 63) / 64) (by omega) (by omega) (by rw [hz2]; omega) (by omega)
  rw [hz1, show (((In.length : Int) + 63) / 64).toNat = n from by omega, made_words] at hmk
  have hnl : n ≤ 64 := by omega
  clear H hn
  go_enter Tryd.func36, Tryd.ntmps36
  go_wp2
  go_loopw [4] (fun i wr => ∃ k : Nat, k ≤ In.length ∧ i = .int .i64 k ∧ wr.heap[W.heap.size]? = some (.cells (u64s (part In n k)).toArray 42 (0, 0)) ∧ Below W.heap.size W wr) (fun i _ => In.length - (intOf i).toNat)
  case atStart => exact ⟨0, Nat.zero_le _, rfl, heap_alloc_new W _, (Below.refl _ _).alloc (Nat.le_refl _) _⟩
  case round =>
    obtain ⟨k, hk, rfl, hrow, hb⟩ := hrel
    have h1r := (hb.cell (p := ⟨gp, 1, none⟩) (World.block_lt_of_cell? W _ h1)).trans h1
    by_cases hlt : k < In.length
    · obtain ⟨rb, cs, rfl, hr, hc⟩ := HH.out k hlt
      have hcr := (hb.cell (p := ⟨rb, k, none⟩) (World.block_lt_of_cell? W _ hc)).trans hc
      have hp : part In n (k + 1) = if In.getD k false = true then putBit (part In n k) k else part In n k := rfl
      have HB := Lib.hid hb
      have HR := Lib.hid hrow
      have hpl := part_length In n k
      have hlt64 := part_lt In n (by have := HN.out; omega) k hk (k / 64)
      have hkn : k / 64 < n := by have := HN.out; omega
      obtain ⟨hwc, hwf⟩ := wset_cell (j := k / 64) hrow (by rw [hpl]; exact hkn)
      have hbo := Lib.hid (u64_or_nat (wd (part In n k) (k / 64)) (bitOf k) hlt64 (bitOf_lt k))
      have hkz : (k : Int) < 4096 := by omega
      by_cases hbt : In.getD k false = true
      · rw [hbt] at hcr
        rw [if_pos hbt] at hp
        have HP := Lib.hid hp
        clear hr hc hbt hp hrow hb hpl
        go_wp2
        go_roundw
        case rel =>
          rw [wrap_bit, hbo.out]
          refine ⟨k + 1, by omega, by simp, ?_, HB.out.setCell (by simp) _⟩
          rw [HP.out]
          exact wset_put HR.out _ _
        case measure => simp [intOf]; omega
      · have hbt' : In.getD k false = false := by simpa using hbt
        rw [hbt'] at hcr
        rw [if_neg hbt] at hp
        have HP := Lib.hid hp
        clear hr hc hbt hbt' hp hrow hb hpl
        go_wp2
        go_roundw
        case rel =>
          refine ⟨k + 1, by omega, by simp, ?_, HB.out⟩
          rw [HP.out]; exact HR.out
        case measure => simp [intOf]; omega
    · obtain rfl : k = In.length := by omega
      have HR := Lib.hid hrow
      clear hrow
      go_wp2
      go_ret
      exact ⟨rfl, HR.out, hb⟩
end Go.Proofs.YthfapneifbjlmaaDoor
end

section
namespace Go.Proofs.YthfapneifbjlmaaDoor
open Go.RowKit Go.Shelf
open Go.Proofs.YthfapneifbjlmaaDoor.PBitsOf Go.Proofs.YthfapneifbjlmaaDoorW.PrintWords
attribute [local go_sem] Oper.semAt_some
set_option linter.unusedVariables false
set_option linter.unusedSimpArgs false

theorem kdC_of_own {w : World} {base n c : Nat} {A : Option Addr} {xs : List Int} (h : w.ownsRow base 3 1 (.slice A n c) n (i64s xs)) (hn : xs.length = n) (hb : n ≤ 1000000) : Kd.C (Kd.int .i64) w A n xs ∧ n ≤ c := by
  subst hn
  rcases h.2 with ⟨h1, h2⟩ | ⟨g, cap, cur, h1, hb, hh, hc, hm, hs, ht⟩
  · injection h1 with a b c
    subst a
    exact ⟨reads_i64 (fun _ => b) (by omega) (fun ad h => by cases h), by omega⟩
  · injection h1 with a b c'
    subst a c'
    refine ⟨reads_i64 (fun h => by cases h) (by omega) (fun ad had j u hu => ?_), hc⟩
    cases had
    have hj : j < xs.length := by
      rcases Nat.lt_or_ge j xs.length with h | h
      · exact h
      · simp [i64s, List.getElem?_eq_none h] at hu
    have e : (⟨g, 0, none⟩ : Addr).add j = ⟨g, j, none⟩ := by unfold Addr.add; split <;> simp_all
    rw [e, cell_of_row w g j _ _ _ hh]
    have h2 : (cur.toList.take (xs.length * 1))[j]? = some u := by rw [ht]; exact hu
    rw [List.getElem?_take, if_pos (by omega), Array.getElem?_toList] at h2
    exact h2
theorem tells_ints {w : World} {A1 A2 : Option Addr} {c1 c2 n : Nat} {l : List Int} (hn : l.length = n) (h1 : Kd.C (Kd.int .i64) w A1 n l) (hc1 : n ≤ c1) (h2 : Kd.C (Kd.int .i64) w A2 n l) (hc2 : n ≤ c2) (hs : n ≤ 1000000) :
    Calls Tryd.prog 11 #[.slice A1 n c1, .slice A2 n c2] w fun e w' => e = .returned (.bool true) ∧ ∃ m, w.drewN m = w' := by
  subst hn
  obtain ⟨k, hk⟩ := ints_pure l l (by omega)
  refine (PBitsSubsets.sextantlaw03_ints.calls k A1 c1 l A2 c2 l _ w h1 hc1 h2 hc2 hk).mono ?_
  rintro e w' ⟨rfl, ⟨m, hm⟩⟩
  exact ⟨by simp, m, hm.symm⟩
theorem rAll' {W : World} {gp : Nat} {A : Option Addr} {room : Nat} {ws : List Nat} (H : RIs W gp A (inOf room ws)) (hl : room ≤ 64 * ws.length) (hh : NoHigh room ws) (hs : (mems 0 ws).length ≤ 4096) :
    Calls Tryd.prog 37 #[.pointer (some ⟨gp, 0, none⟩)] W fun e w' => ∃ vA vc, e = .returned (.slice vA (mems 0 ws).length vc) ∧ (mems 0 ws).length ≤ vc ∧ Kd.C (Kd.int .i64) w' vA (mems 0 ws).length (ints (mems 0 ws)) ∧ Below W.heap.size W w' := by
  refine (rAll H).mono ?_
  rintro e w' ⟨v, rfl, ho, hb⟩
  rw [inOf_length, allN_all room ws hl hh] at ho
  obtain ⟨vA, vc, rfl⟩ : ∃ vA vc, v = .slice vA (mems 0 ws).length vc := by
    rcases ho.2 with ⟨h1, h2⟩ | ⟨g', cap', cur, h1, _⟩
    · exact ⟨none, 0, by rw [h1, show (mems 0 ws).length = 0 from by simpa using h2]⟩
    · exact ⟨_, _, h1⟩
  obtain ⟨h1, h2⟩ := kdC_of_own ho (by simp [ints]) (by omega)
  exact ⟨vA, vc, rfl, h2, h1, hb⟩
def hasB (room : Nat) (ws : List Nat) (n : Int) : Bool := decide (0 ≤ n ∧ n < room) && memb ws n.toNat
theorem tHas {W : World} {g h room : Nat} {ws : List Nat} (H : IsSet W g h room ws) (n : Int) :
    Calls Tryd.prog 38 #[.pointer (some ⟨g, 0, none⟩), .int .i64 n] W fun e w' => e = .returned (.bool (hasB room ws n)) ∧ ∃ m, W.drewN m = w' := by
  unfold hasB
  by_cases hn : 0 ≤ n ∧ n < room
  · exact (Has_set H n hn.1 hn.2).mono fun e w' ⟨h1, h2⟩ => ⟨by rw [h1]; simp [hn], h2⟩
  · exact (Has_out H n hn).mono fun e w' ⟨h1, h2⟩ => ⟨by rw [h1]; simp [hn], 0, h2⟩
theorem trHas {W : World} {gp : Nat} {A : Option Addr} {room : Nat} {ws : List Nat} (H : RIs W gp A (inOf room ws)) (n : Int) :
    Calls Tryd.prog 39 #[.pointer (some ⟨gp, 0, none⟩), .int .i64 n] W fun e w' => e = .returned (.bool (hasB room ws n)) ∧ W = w' := by
  refine rHas H n _ ?_
  rw [inOf_length]
  unfold hasB
  by_cases hn : 0 ≤ n ∧ n < (room : Int)
  · rw [inOf_at _ _ _ (by omega)]
  · simp [hn]
/-- What holds in tells' last statement, whatever has been called there. -/
def TInv (g h gp sb lb room : Nat) (ws : List Nat) (A vA : Option Addr) (vc : Nat) (w : World) : Prop :=
  IsSet w g h room ws ∧ RIs w gp A (inOf room ws) ∧ w.ownsRow 0 3 1 (.slice vA (mems 0 ws).length vc) (mems 0 ws).length (i64s (ints (mems 0 ws))) ∧
    w.cell? ⟨sb, 0, none⟩ = some (.pointer (some ⟨g, 0, none⟩)) ∧ w.cell? ⟨lb, 0, none⟩ = some (.slice vA (mems 0 ws).length vc)
theorem TInv.below {g h gp sb lb room : Nat} {ws : List Nat} {A vA : Option Addr} {vc : Nat} {w w' : World} (H : TInv g h gp sb lb room ws A vA vc w) (hb : Below w.heap.size w w') : TInv g h gp sb lb room ws A vA vc w' := by
  obtain ⟨h1, h2, h3, h4, h5⟩ := H
  exact ⟨h1.below hb h1.lt.1 h1.lt.2.1, h2.below hb (Nat.le_refl _), ownsRow_kept h3 (fun k hk => hb.block k (h3.lt k hk).2), (hb.cell (World.block_lt_of_cell? w _ h4)).trans h4, (hb.cell (World.block_lt_of_cell? w _ h5)).trans h5⟩
theorem TInv.drewN {g h gp sb lb room : Nat} {ws : List Nat} {A vA : Option Addr} {vc : Nat} {w : World} (H : TInv g h gp sb lb room ws A vA vc w) (n : Nat) : TInv g h gp sb lb room ws A vA vc (w.drewN n) := H
/-- The cells that the statement loads. -/
theorem TInv.cells {g h gp sb lb room : Nat} {ws : List Nat} {A vA : Option Addr} {vc cap : Nat} {w w' : World} (H : TInv g h gp sb lb room ws A vA vc w) (hc : w.cell? ⟨gp, 1, none⟩ = some (.slice A room cap)) (hb : Below w.heap.size w w') :
    w'.cell? ⟨sb, 0, none⟩ = some (.pointer (some ⟨g, 0, none⟩)) ∧ w'.cell? ⟨lb, 0, none⟩ = some (.slice vA (mems 0 ws).length vc) ∧ w'.cell? ⟨gp, 1, none⟩ = some (.slice A room cap) ∧ TInv g h gp sb lb room ws A vA vc w' :=
  ⟨(H.below hb).2.2.2.1, (H.below hb).2.2.2.2, (hb.cell (World.block_lt_of_cell? w _ hc)).trans hc, H.below hb⟩
end Go.Proofs.YthfapneifbjlmaaDoor
end

section
namespace Go.Proofs.YthfapneifbjlmaaDoor
open Go.RowKit Go.Shelf
open Go.Proofs.YthfapneifbjlmaaDoor.PBitsOf Go.Proofs.YthfapneifbjlmaaDoorW.PrintWords
set_option linter.unusedVariables false
set_option linter.unusedSimpArgs false

theorem nohigh_of (n : Nat) (ws : List Nat) (hl : ws.length = (n + 63) / 64) (hw : Words64 ws) (h : n % 64 = 0 ∨ wd ws (n / 64) / 2 ^ (n % 64) = 0) : NoHigh n ws := by
  intro q hq
  by_cases hbig : 64 * ws.length ≤ q
  · exact memb_out hbig
  · have h64 : n % 64 ≠ 0 := by omega
    have hd := h.resolve_left h64
    have e : q / 64 = n / 64 := by omega
    unfold memb
    rw [e]
    have hm : n % 64 ≤ q % 64 := by omega
    have hlt : wd ws (n / 64) < 2 ^ (n % 64) := by
      rcases Nat.div_eq_zero_iff.1 hd with h1 | h1
      · have := Nat.two_pow_pos (n % 64); omega
      · exact h1
    exact Nat.testBit_lt_two_pow (Nat.lt_of_lt_of_le hlt (Nat.pow_le_pow_right (by omega) hm))
theorem high_of (n : Nat) (ws : List Nat) (hl : ws.length = (n + 63) / 64) (hw : Words64 ws) (h64 : n % 64 ≠ 0) (h : wd ws (n / 64) / 2 ^ (n % 64) ≠ 0) : ∃ q, n ≤ q ∧ q < 64 * ws.length ∧ memb ws q = true := by
  obtain ⟨j, hj⟩ := Nat.exists_testBit_of_ne_zero h
  rw [Nat.testBit_div_two_pow] at hj
  have hj2 : n % 64 + j < 64 := by
    rcases Nat.lt_or_ge (n % 64 + j) 64 with h1 | h1
    · exact h1
    · rw [Nat.add_comm] at hj
      rw [big_bit _ _ (wd_lt hw _) (by omega)] at hj; cases hj
  refine ⟨64 * (n / 64) + (n % 64 + j), by omega, by omega, ?_⟩
  unfold memb
  rw [show (64 * (n / 64) + (n % 64 + j)) / 64 = n / 64 from by omega, show (64 * (n / 64) + (n % 64 + j)) % 64 = n % 64 + j from by omega]
  first | exact hj | (rw [Nat.add_comm]; exact hj)

/-- What Of comes to. -/
def OfSaid (W : World) (n : Int) (ws : List Nat) : Bool → Ending → World → Prop
  | true, e, w' => ∃ g h, e = .returned (.tuple #[.pointer (some ⟨g, 0, none⟩), .int .i64 0]) ∧ IsSet w' g h n.toNat ws ∧ W.heap.size ≤ g ∧ W.heap.size ≤ h ∧ Below W.heap.size W w'
  | false, e, w' => e = .returned (.tuple #[.pointer none, .int .i64 30]) ∧ Below W.heap.size W w'
def refOf (n : Int) (ws : List Nat) : Bool → Bool × List Bool × Int
  | true => (true, inOf n.toNat ws, 0)
  | false => (false, [], 30)
theorem Of_both (W : World) (n : Int) (ad : Addr) (ws : List Nat) (c : Nat) (hcs : ∀ j u, (u64s ws)[j]? = some u → W.cell? (ad.add j) = some u) (hw : Words64 ws) :
    ∃ ok, Calls Tryd.prog 12 #[.int .i64 n, .slice (some ad) ws.length c] W (OfSaid W n ws ok) ∧ (∃ k, sextantref03_Of.f k n (ints64 ws) = some (refOf n ws ok)) ∧ (ok = true → NoHigh n.toNat ws ∧ n.toNat ≤ 4096) := by
  by_cases hb : n < 0 ∨ 4096 < n
  · exact ⟨false, Of_room W n _ _ _ hb, Of_bad n _ hb, fun h => by cases h⟩
  · obtain ⟨n, rfl⟩ := Int.eq_ofNat_of_zero_le (a := n) (by omega)
    have hn : n ≤ 4096 := by omega
    by_cases hl : ws.length = (n + 63) / 64
    · by_cases hh : n % 64 = 0 ∨ wd ws (n / 64) / 2 ^ (n % 64) = 0
      · have hno := nohigh_of n ws hl hw hh
        refine ⟨true, (Of_ok W n ad ws c hcs hw hn hl hh).mono fun e w' h => h, Of_fine n hn ws hl hw _ (fun _ => rfl) (fun q h1 h2 h3 => ?_), fun _ => ⟨hno, hn⟩⟩
        rw [hno q h1] at h3; cases h3
      · obtain ⟨q, h1, h2, h3⟩ := high_of n ws hl hw (by omega) (by omega)
        refine ⟨false, Of_high W n ad ws c hcs hn hl (by omega) (by omega), Of_fine n hn ws hl hw _ (fun hall => ?_) (fun _ _ _ _ => rfl), fun h => by cases h⟩
        rw [hall q h1 h2] at h3; cases h3
    · exact ⟨false, Of_length W n _ _ _ hn hl, Of_long n hn _ (by simpa [ints64] using hl), fun h => by cases h⟩

/-- A set of the reference, laid out of what New and Of hand back. -/
theorem ris_of {w w' : World} {base gp n c : Nat} {A : Option Addr} {In : List Bool} (h : Kd.R Kd.bool 4 w base (fun _ => True) (.slice A n c) In) (hn : n = In.length) (hl : In.length ≤ 4096) (hk : ∀ k, k < w.heap.size → w'.heap[k]? = w.heap[k]?) (hg : w'.heap[gp]? = some (.cells #[.bool true, .slice A n c] 39 (0, 0))) :
    RIs w' gp A In ∧ (∀ rb, A = some ⟨rb, 0, none⟩ → base ≤ rb ∧ rb < w.heap.size) := by
  subst hn
  obtain ⟨A', c', e, hc, hC⟩ := Kd.R_reads h
  injection e with e1 _ e3
  subst e1 e3
  have hhd : ∀ ad, A = some ad → ∃ g, ad = ⟨g, 0, none⟩ := fun ad had => by subst had; exact Kd.R_head h
  obtain ⟨h0, inner, ho, _⟩ := h
  refine ⟨⟨⟨c, hg, hc⟩, hl, fun j hj => ?_⟩, fun rb hrb => ⟨own_base ho rb (by rw [hrb]; rfl), own_lt ho rb (by rw [hrb]; rfl)⟩⟩
  obtain ⟨_, _, hr⟩ := hC
  obtain ⟨ad, rfl, hcl⟩ := hr (by omega)
  obtain ⟨g, rfl⟩ := hhd ad rfl
  obtain ⟨cs, hcs⟩ := own_typed ho g rfl
  have hlt := own_lt ho g rfl
  obtain ⟨q, hq1, hK, hcell⟩ := hcl j (In[j]) (List.getElem?_eq_getElem hj)
  have hk2 : q = [Value.bool In[j]] := hK
  subst hk2
  have h5 := hcell 0 _ rfl
  have e : (⟨g, 0, none⟩ : Addr).add j = ⟨g, j, none⟩ := by unfold Addr.add; split <;> simp_all
  have h6 : w.cell? ⟨g, j, none⟩ = some (.bool In[j]) := by simpa [Kd.bool, Kd.scalar, e] using h5
  refine ⟨g, cs, rfl, (hk g hlt).trans hcs, ?_⟩
  rw [(World.cell?_of_block (hk g hlt)).trans h6]; simp [List.getElem?_eq_getElem hj]
end Go.Proofs.YthfapneifbjlmaaDoor
end
