/- Layers 4 and 7: symbol, named: a name other than true and false. -/
import Derived.Test.YtofinglgnkdflaaRows
import Derived.WalkKit
import Derived.ProofKit
import Derived.BigQuiet
import Derived.Deep.QuietTactic
import Derived.WalkSpells
import Derived.WalkLawsBesides
import Derived.Lib.Hide
import Derived.Lib.OthersKept
import Derived.Laws.RangeAny
import Derived.Laws.Runes
section
namespace Go.Proofs.Ytofinglgnkdflaa
open Go.RowKit
set_option linter.unusedVariables false
set_option linter.unusedSimpArgs false
def lettersV : Value := .agg #[.int .i32 97, .int .i32 122, .int .i32 65, .int .i32 90, .int .i32 95, .int .i32 95, .int .i32 192, .int .i32 214, .int .i32 216, .int .i32 246, .int .i32 248, .int .i32 591, .int .i32 913, .int .i32 929, .int .i32 931, .int .i32 969]
set_option maxHeartbeats 400000 in
theorem letters_any (W : World) : Calls Try.prog 116 #[] W fun e w' => e = .returned lettersV ∧ Below W.heap.size W w' := by
  go_enter Try.func116, Try.ntmps116
  go_wp2
  exact bodyPost_ret (v := lettersV) (by simp [results, Try.results116, go_sem, lettersV]) rfl ⟨rfl, (Below.refl _ _).alloc (Nat.le_refl _) _⟩
def letterRows : List (Int × Int) := [(97, 122), (65, 90), (95, 95), (192, 214), (216, 246), (248, 591), (913, 929), (931, 969)]
def isLetter (r : Int) : Bool := letterRows.any fun x => decide (x.1 ≤ r) && decide (r ≤ x.2)
def notYet (r : Int) (k : Nat) : Prop := ∀ x, x ∈ letterRows.take k → ¬ (x.1 ≤ r ∧ r ≤ x.2)
theorem notYet_step (r : Int) (k : Nat) (a b : Int) (hk : letterRows[k]? = some (a, b)) (h : notYet r k) (hn : ¬ (a ≤ r ∧ r ≤ b)) : notYet r (k + 1) := by
  intro x hx
  rw [List.take_add_one, hk] at hx
  rcases List.mem_append.1 hx with h1 | h1
  · exact h x h1
  · simp at h1; subst h1; exact hn
theorem isLetter_of (r : Int) (k : Nat) (a b : Int) (hk : letterRows[k]? = some (a, b)) (h1 : a ≤ r) (h2 : r ≤ b) : isLetter r = true := by
  unfold isLetter
  rw [List.any_eq_true]
  exact ⟨(a, b), List.mem_of_getElem? hk, by simp [h1, h2]⟩
theorem isLetter_none (r : Int) (h : notYet r 8) : isLetter r = false := by
  unfold isLetter
  rw [List.any_eq_false]
  intro x hx
  have := h x (by simpa [letterRows] using hx)
  simp only [Bool.and_eq_true, decide_eq_true_eq]
  exact this
set_option maxHeartbeats 4000000 in
set_option maxRecDepth 100000 in
theorem Letter_any (W : World) (r : Int) : Calls Try.prog 106 #[.int .i32 r] W fun e w' => e = .returned (.bool (isLetter r)) ∧ Below W.heap.size W w' := by
  have hx0 : ∀ w, (Instr.index 160 (.agg #[.int .i32 97, .int .i32 122, .int .i32 65, .int .i32 90, .int .i32 95, .int .i32 95, .int .i32 192, .int .i32 214, .int .i32 216, .int .i32 246, .int .i32 248, .int .i32 591, .int .i32 913, .int .i32 929, .int .i32 931, .int .i32 969]) (.int .i64 0)).run Try.prog w = .ok (.agg #[.int .i32 97, .int .i32 122]) w := fun _ => by kernel_rfl
  have hx1 : ∀ w, (Instr.index 160 (.agg #[.int .i32 97, .int .i32 122, .int .i32 65, .int .i32 90, .int .i32 95, .int .i32 95, .int .i32 192, .int .i32 214, .int .i32 216, .int .i32 246, .int .i32 248, .int .i32 591, .int .i32 913, .int .i32 929, .int .i32 931, .int .i32 969]) (.int .i64 1)).run Try.prog w = .ok (.agg #[.int .i32 65, .int .i32 90]) w := fun _ => by kernel_rfl
  have hx2 : ∀ w, (Instr.index 160 (.agg #[.int .i32 97, .int .i32 122, .int .i32 65, .int .i32 90, .int .i32 95, .int .i32 95, .int .i32 192, .int .i32 214, .int .i32 216, .int .i32 246, .int .i32 248, .int .i32 591, .int .i32 913, .int .i32 929, .int .i32 931, .int .i32 969]) (.int .i64 2)).run Try.prog w = .ok (.agg #[.int .i32 95, .int .i32 95]) w := fun _ => by kernel_rfl
  have hx3 : ∀ w, (Instr.index 160 (.agg #[.int .i32 97, .int .i32 122, .int .i32 65, .int .i32 90, .int .i32 95, .int .i32 95, .int .i32 192, .int .i32 214, .int .i32 216, .int .i32 246, .int .i32 248, .int .i32 591, .int .i32 913, .int .i32 929, .int .i32 931, .int .i32 969]) (.int .i64 3)).run Try.prog w = .ok (.agg #[.int .i32 192, .int .i32 214]) w := fun _ => by kernel_rfl
  have hx4 : ∀ w, (Instr.index 160 (.agg #[.int .i32 97, .int .i32 122, .int .i32 65, .int .i32 90, .int .i32 95, .int .i32 95, .int .i32 192, .int .i32 214, .int .i32 216, .int .i32 246, .int .i32 248, .int .i32 591, .int .i32 913, .int .i32 929, .int .i32 931, .int .i32 969]) (.int .i64 4)).run Try.prog w = .ok (.agg #[.int .i32 216, .int .i32 246]) w := fun _ => by kernel_rfl
  have hx5 : ∀ w, (Instr.index 160 (.agg #[.int .i32 97, .int .i32 122, .int .i32 65, .int .i32 90, .int .i32 95, .int .i32 95, .int .i32 192, .int .i32 214, .int .i32 216, .int .i32 246, .int .i32 248, .int .i32 591, .int .i32 913, .int .i32 929, .int .i32 931, .int .i32 969]) (.int .i64 5)).run Try.prog w = .ok (.agg #[.int .i32 248, .int .i32 591]) w := fun _ => by kernel_rfl
  have hx6 : ∀ w, (Instr.index 160 (.agg #[.int .i32 97, .int .i32 122, .int .i32 65, .int .i32 90, .int .i32 95, .int .i32 95, .int .i32 192, .int .i32 214, .int .i32 216, .int .i32 246, .int .i32 248, .int .i32 591, .int .i32 913, .int .i32 929, .int .i32 931, .int .i32 969]) (.int .i64 6)).run Try.prog w = .ok (.agg #[.int .i32 913, .int .i32 929]) w := fun _ => by kernel_rfl
  have hx7 : ∀ w, (Instr.index 160 (.agg #[.int .i32 97, .int .i32 122, .int .i32 65, .int .i32 90, .int .i32 95, .int .i32 95, .int .i32 192, .int .i32 214, .int .i32 216, .int .i32 246, .int .i32 248, .int .i32 591, .int .i32 913, .int .i32 929, .int .i32 931, .int .i32 969]) (.int .i64 7)).run Try.prog w = .ok (.agg #[.int .i32 931, .int .i32 969]) w := fun _ => by kernel_rfl
  have hl := Lib.hid (letters_any W)
  go_enter Try.func106, Try.ntmps106
  go_wp2_with fail
  go_at_call 116
  refine hl.out.mono ?_
  rintro e w1 ⟨rfl, hb1⟩
  unfold lettersV
  have HB1 := Lib.hid hb1
  clear hb1
  go_wp2_with fail
  go_loopw [6] (fun i wr => ∃ k : Int, 0 ≤ k ∧ k ≤ 8 ∧ i = .int .i64 k ∧ notYet r k.toNat ∧ Below W.heap.size W wr) (fun i _ => 8 - (intOf i).toNat)
  case atStart => exact ⟨0, by omega, by omega, rfl, fun x hx => by simp at hx, HB1.out⟩
  case round =>
    obtain ⟨k, hk0, hk, rfl, hn, hb⟩ := hrel
    have HN := Lib.hid hn
    have HB := Lib.hid hb
    have hsz := hb.size
    clear hn hb
    have hcases : k = 0 ∨ k = 1 ∨ k = 2 ∨ k = 3 ∨ k = 4 ∨ k = 5 ∨ k = 6 ∨ k = 7 ∨ k = 8 := by omega
    rcases hcases with rfl | rfl | rfl | rfl | rfl | rfl | rfl | rfl | rfl
    · by_cases h1 : 97 ≤ r
      · by_cases h2 : r ≤ 122
        · go_wp2
          go_ret
          exact ⟨by rw [isLetter_of r 0 97 122 rfl h1 h2]; rfl, HB.out.alloc hsz _⟩
        · have hs := Lib.hid (notYet_step r 0 97 122 rfl HN.out (fun h => h2 h.2))
          have h2' : 122 < r := by omega
          clear h2
          go_wp2
          go_roundw
          case rel => exact ⟨1, by omega, by omega, rfl, hs.out, HB.out.alloc hsz _⟩
          case measure => simp [intOf]
      · have hs := Lib.hid (notYet_step r 0 97 122 rfl HN.out (fun h => h1 h.1))
        have h1' : r < 97 := by omega
        clear h1
        go_wp2
        go_roundw
        case rel => exact ⟨1, by omega, by omega, rfl, hs.out, HB.out.alloc hsz _⟩
        case measure => simp [intOf]
    · by_cases h1 : 65 ≤ r
      · by_cases h2 : r ≤ 90
        · go_wp2
          go_ret
          exact ⟨by rw [isLetter_of r 1 65 90 rfl h1 h2]; rfl, HB.out.alloc hsz _⟩
        · have hs := Lib.hid (notYet_step r 1 65 90 rfl HN.out (fun h => h2 h.2))
          have h2' : 90 < r := by omega
          clear h2
          go_wp2
          go_roundw
          case rel => exact ⟨2, by omega, by omega, rfl, hs.out, HB.out.alloc hsz _⟩
          case measure => simp [intOf]
      · have hs := Lib.hid (notYet_step r 1 65 90 rfl HN.out (fun h => h1 h.1))
        have h1' : r < 65 := by omega
        clear h1
        go_wp2
        go_roundw
        case rel => exact ⟨2, by omega, by omega, rfl, hs.out, HB.out.alloc hsz _⟩
        case measure => simp [intOf]
    · by_cases h1 : 95 ≤ r
      · by_cases h2 : r ≤ 95
        · go_wp2
          go_ret
          exact ⟨by rw [isLetter_of r 2 95 95 rfl h1 h2]; rfl, HB.out.alloc hsz _⟩
        · have hs := Lib.hid (notYet_step r 2 95 95 rfl HN.out (fun h => h2 h.2))
          have h2' : 95 < r := by omega
          clear h2
          go_wp2
          go_roundw
          case rel => exact ⟨3, by omega, by omega, rfl, hs.out, HB.out.alloc hsz _⟩
          case measure => simp [intOf]
      · have hs := Lib.hid (notYet_step r 2 95 95 rfl HN.out (fun h => h1 h.1))
        have h1' : r < 95 := by omega
        clear h1
        go_wp2
        go_roundw
        case rel => exact ⟨3, by omega, by omega, rfl, hs.out, HB.out.alloc hsz _⟩
        case measure => simp [intOf]
    · by_cases h1 : 192 ≤ r
      · by_cases h2 : r ≤ 214
        · go_wp2
          go_ret
          exact ⟨by rw [isLetter_of r 3 192 214 rfl h1 h2]; rfl, HB.out.alloc hsz _⟩
        · have hs := Lib.hid (notYet_step r 3 192 214 rfl HN.out (fun h => h2 h.2))
          have h2' : 214 < r := by omega
          clear h2
          go_wp2
          go_roundw
          case rel => exact ⟨4, by omega, by omega, rfl, hs.out, HB.out.alloc hsz _⟩
          case measure => simp [intOf]
      · have hs := Lib.hid (notYet_step r 3 192 214 rfl HN.out (fun h => h1 h.1))
        have h1' : r < 192 := by omega
        clear h1
        go_wp2
        go_roundw
        case rel => exact ⟨4, by omega, by omega, rfl, hs.out, HB.out.alloc hsz _⟩
        case measure => simp [intOf]
    · by_cases h1 : 216 ≤ r
      · by_cases h2 : r ≤ 246
        · go_wp2
          go_ret
          exact ⟨by rw [isLetter_of r 4 216 246 rfl h1 h2]; rfl, HB.out.alloc hsz _⟩
        · have hs := Lib.hid (notYet_step r 4 216 246 rfl HN.out (fun h => h2 h.2))
          have h2' : 246 < r := by omega
          clear h2
          go_wp2
          go_roundw
          case rel => exact ⟨5, by omega, by omega, rfl, hs.out, HB.out.alloc hsz _⟩
          case measure => simp [intOf]
      · have hs := Lib.hid (notYet_step r 4 216 246 rfl HN.out (fun h => h1 h.1))
        have h1' : r < 216 := by omega
        clear h1
        go_wp2
        go_roundw
        case rel => exact ⟨5, by omega, by omega, rfl, hs.out, HB.out.alloc hsz _⟩
        case measure => simp [intOf]
    · by_cases h1 : 248 ≤ r
      · by_cases h2 : r ≤ 591
        · go_wp2
          go_ret
          exact ⟨by rw [isLetter_of r 5 248 591 rfl h1 h2]; rfl, HB.out.alloc hsz _⟩
        · have hs := Lib.hid (notYet_step r 5 248 591 rfl HN.out (fun h => h2 h.2))
          have h2' : 591 < r := by omega
          clear h2
          go_wp2
          go_roundw
          case rel => exact ⟨6, by omega, by omega, rfl, hs.out, HB.out.alloc hsz _⟩
          case measure => simp [intOf]
      · have hs := Lib.hid (notYet_step r 5 248 591 rfl HN.out (fun h => h1 h.1))
        have h1' : r < 248 := by omega
        clear h1
        go_wp2
        go_roundw
        case rel => exact ⟨6, by omega, by omega, rfl, hs.out, HB.out.alloc hsz _⟩
        case measure => simp [intOf]
    · by_cases h1 : 913 ≤ r
      · by_cases h2 : r ≤ 929
        · go_wp2
          go_ret
          exact ⟨by rw [isLetter_of r 6 913 929 rfl h1 h2]; rfl, HB.out.alloc hsz _⟩
        · have hs := Lib.hid (notYet_step r 6 913 929 rfl HN.out (fun h => h2 h.2))
          have h2' : 929 < r := by omega
          clear h2
          go_wp2
          go_roundw
          case rel => exact ⟨7, by omega, by omega, rfl, hs.out, HB.out.alloc hsz _⟩
          case measure => simp [intOf]
      · have hs := Lib.hid (notYet_step r 6 913 929 rfl HN.out (fun h => h1 h.1))
        have h1' : r < 913 := by omega
        clear h1
        go_wp2
        go_roundw
        case rel => exact ⟨7, by omega, by omega, rfl, hs.out, HB.out.alloc hsz _⟩
        case measure => simp [intOf]
    · by_cases h1 : 931 ≤ r
      · by_cases h2 : r ≤ 969
        · go_wp2
          go_ret
          exact ⟨by rw [isLetter_of r 7 931 969 rfl h1 h2]; rfl, HB.out.alloc hsz _⟩
        · have hs := Lib.hid (notYet_step r 7 931 969 rfl HN.out (fun h => h2 h.2))
          have h2' : 969 < r := by omega
          clear h2
          go_wp2
          go_roundw
          case rel => exact ⟨8, by omega, by omega, rfl, hs.out, HB.out.alloc hsz _⟩
          case measure => simp [intOf]
      · have hs := Lib.hid (notYet_step r 7 931 969 rfl HN.out (fun h => h1 h.1))
        have h1' : r < 931 := by omega
        clear h1
        go_wp2
        go_roundw
        case rel => exact ⟨8, by omega, by omega, rfl, hs.out, HB.out.alloc hsz _⟩
        case measure => simp [intOf]
    · go_wp2
      go_ret
      exact ⟨by rw [isLetter_none r HN.out]; rfl, HB.out⟩
end Go.Proofs.Ytofinglgnkdflaa
end
section
namespace Go.Proofs.Ytofinglgnkdflaa
open Go.RowKit Go.Lib
set_option linter.unusedVariables false
set_option linter.unusedSimpArgs false
def runesG (s : ByteArray) : Nat → Nat → List Int
  | 0, _ => []
  | f + 1, pos => if pos < s.size then ((Utf8.decode s pos).1 : Int) :: runesG s f (pos + (Utf8.decode s pos).2) else []
theorem width_pos (s : ByteArray) (pos : Nat) (h : pos < s.size) : 1 ≤ (Utf8.decode s pos).2 := by
  by_cases ha : (s[pos]'h).toNat < 128
  · rw [decode_ascii s pos h ha]
    exact Nat.le_refl _
  · exact (decode_high s pos h (by omega)).2
theorem runesG_fuel (s : ByteArray) : ∀ (f g pos : Nat), s.size - pos ≤ f → s.size - pos ≤ g → runesG s f pos = runesG s g pos
  | 0, 0, _, _, _ => rfl
  | 0, g + 1, pos, h, _ => by simp only [runesG]; rw [if_neg (by omega)]
  | f + 1, 0, pos, _, h => by simp only [runesG]; rw [if_neg (by omega)]
  | f + 1, g + 1, pos, h1, h2 => by
    simp only [runesG]
    by_cases hp : pos < s.size
    · rw [if_pos hp, if_pos hp, runesG_fuel s f g _ (by have := width_pos s pos hp; omega) (by have := width_pos s pos hp; omega)]
    · rw [if_neg hp, if_neg hp]
def runesOf (s : ByteArray) (pos : Nat) : List Int := runesG s (s.size - pos) pos
theorem runesOf_next (s : ByteArray) (pos : Nat) (h : pos < s.size) : runesOf s pos = ((Utf8.decode s pos).1 : Int) :: runesOf s (pos + (Utf8.decode s pos).2) := by
  unfold runesOf
  obtain ⟨f, hf⟩ : ∃ f, s.size - pos = f + 1 := ⟨s.size - pos - 1, by omega⟩
  rw [hf]
  simp only [runesG]
  rw [if_pos h, runesG_fuel s f _ _ (by have := width_pos s pos h; omega) (Nat.le_refl _)]
theorem runesOf_end (s : ByteArray) (pos : Nat) (h : ¬ pos < s.size) : runesOf s pos = [] := by
  unfold runesOf
  rw [show s.size - pos = 0 by omega]; rfl
def runeOk (n : Nat) (r : Int) : Bool := isLetter r || (decide (n ≠ 0) && (decide (r = 39) || (decide (48 ≤ r) && decide (r ≤ 57))))
def scanB : Nat → List Int → Bool
  | n, [] => decide (n ≠ 0) && decide (n ≤ 32)
  | n, r :: l => runeOk n r && scanB (n + 1) l
def nameB (s : ByteArray) : Bool := scanB 0 (runesOf s 0)
def codeB (b : Bool) : Int := if b then 0 else 21
set_option maxHeartbeats 4000000 in
set_option maxRecDepth 100000 in
theorem Name_any (W : World) (s : ByteArray) (hs : s.size ≤ 140737488351232) : Calls Try.prog 85 #[.string s] W fun e w' => e = .returned (.int .i64 (codeB (nameB s))) ∧ Below W.heap.size W w' := by
  go_enter Try.func85, Try.ntmps85
  go_wp2_with fail
  go_loopw [3] (fun nv wr => ∃ n pos : Nat, n ≤ pos ∧ (n = 0 ∨ n ≤ s.size) ∧ nv = .int .i64 n ∧ wr.heap[W.heap.size]? = some (.stringIter s pos) ∧ nameB s = scanB n (runesOf s pos) ∧ Below W.heap.size W wr) (fun _ wr => s.size - wr.iterPos W.heap.size)
  case atStart => exact ⟨0, 0, by omega, .inl rfl, rfl, heap_alloc_new W _, rfl, (Below.refl _ _).alloc (Nat.le_refl _) _⟩
  case round =>
    obtain ⟨n, pos, hnp, hns, rfl, hit, hsc, hb⟩ := hrel
    by_cases hlt : pos < s.size
    · have hnx := fun ty => run_next_any_at (P := Try.prog) wr W.heap.size s pos ty hit hlt
      have hit2 := fun p => iterAt_heap wr W.heap.size s pos p hit
      have hw := width_pos s pos hlt
      have hrn := runesOf_next s pos hlt
      obtain ⟨rr, hr⟩ : ∃ rr, rr = (Utf8.decode s pos).1 := ⟨_, rfl⟩
      obtain ⟨ww, hww⟩ : ∃ ww, ww = (Utf8.decode s pos).2 := ⟨_, rfl⟩
      simp only [← hr, ← hww] at hnx hrn hw
      rw [hrn] at hsc
      have hpo := iterPos_of hit
      have HB := Lib.hid hb
      have HSC := Lib.hid hsc
      have HIT := Lib.hid hit2
      have HPO := Lib.hid hpo
      have hL := Lib.hid (fun w => Letter_any w rr)
      have hn64 : (n : Int) ≤ 140737488351232 := by omega
      clear hb hsc hit2 hpo hr hww hrn
      have hbi : Below W.heap.size W (wr.iterAt W.heap.size s (pos + ww)) := below_iterAt HB.out (Nat.le_refl _) s _
      have hsz := iterAt_size wr W.heap.size s (pos + ww)
      have hfin := Lib.hid (fun (w1 : World) (h : Below (wr.iterAt W.heap.size s (pos + ww)).heap.size (wr.iterAt W.heap.size s (pos + ww)) w1) => hbi.trans (h.mono hbi.size))
      have hlt2 : W.heap.size < (wr.iterAt W.heap.size s (pos + ww)).heap.size := by rw [hsz]; exact (Array.getElem?_eq_some_iff.1 hit).1
      have hit1 := Lib.hid (fun (w1 : World) (h : Below (wr.iterAt W.heap.size s (pos + ww)).heap.size (wr.iterAt W.heap.size s (pos + ww)) w1) => (h.block W.heap.size hlt2).trans (HIT.out (pos + ww)))
      have hmeas := Lib.hid (fun (w1 : World) (h : Below (wr.iterAt W.heap.size s (pos + ww)).heap.size (wr.iterAt W.heap.size s (pos + ww)) w1) => show s.size - w1.iterPos W.heap.size < s.size - wr.iterPos W.heap.size from by
        rw [iterPos_of (hit1.out w1 h), HPO.out]; omega)
      have hgood := Lib.hid (fun (hok : runeOk n rr = true) (w1 : World) (h : Below (wr.iterAt W.heap.size s (pos + ww)).heap.size (wr.iterAt W.heap.size s (pos + ww)) w1) =>
        show ∃ n' pos' : Nat, n' ≤ pos' ∧ (n' = 0 ∨ n' ≤ s.size) ∧ Value.int .i64 ((n : Int) + 1) = .int .i64 n' ∧ w1.heap[W.heap.size]? = some (.stringIter s pos') ∧ nameB s = scanB n' (runesOf s pos') ∧ Below W.heap.size W w1 from
          ⟨n + 1, pos + ww, by omega, .inr (by omega), by simp, hit1.out w1 h, by rw [HSC.out]; simp only [scanB]; rw [hok, Bool.true_and], hfin.out w1 h⟩)
      have hbadf := Lib.hid (fun (hno : runeOk n rr = false) => show nameB s = false from by rw [HSC.out]; simp only [scanB]; rw [hno, Bool.false_and])
      obtain ⟨L, hLL⟩ : ∃ L, L = isLetter rr := ⟨_, rfl⟩
      rw [← hLL] at hL
      clear hbi hsz hlt2 hit
      cases L
      · by_cases hn0 : n = 0
        · have hbad := Lib.hid (hbadf.out (by unfold runeOk; rw [← hLL, hn0]; rfl))
          subst hn0
          clear hLL
          go_wp2_with fail
          go_at_call 106
          refine (hL.out _).mono ?_
          rintro e w1 ⟨rfl, hb1⟩
          have HB1 := Lib.hid hb1
          clear hb1
          go_wp2
          go_ret
          exact ⟨by rw [hbad.out]; rfl, hfin.out w1 HB1.out⟩
        · have hn1 : (((n : Int) + 1) == 1) = false := by rw [beq_eq_false_iff_ne]; omega
          by_cases h39 : (rr : Int) = 39
          · have hstep := Lib.hid (hgood.out (by unfold runeOk; rw [← hLL, h39]; simp [hn0]))
            have h39' : ((rr : Int) != 39) = false := by rw [bne_eq_false_iff_eq]; exact h39
            have h39n : rr = 39 := by omega
            clear h39 hLL
            subst h39n
            go_wp2_with fail
            go_at_call 106
            refine (hL.out _).mono ?_
            rintro e w1 ⟨rfl, hb1⟩
            have HB1 := Lib.hid hb1
            clear hb1
            go_wp2
            go_roundw
            case rel => exact hstep.out w1 HB1.out
            case measure => exact hmeas.out w1 HB1.out
          · have h39' : ((rr : Int) != 39) = true := by rw [bne_iff_ne]; exact h39
            by_cases h48 : (rr : Int) < 48
            · have hbad := Lib.hid (hbadf.out (by unfold runeOk; rw [← hLL]; simp [h39]; omega))
              clear hLL
              go_wp2_with fail
              go_at_call 106
              refine (hL.out _).mono ?_
              rintro e w1 ⟨rfl, hb1⟩
              have HB1 := Lib.hid hb1
              clear hb1
              go_wp2
              go_ret
              exact ⟨by rw [hbad.out]; rfl, hfin.out w1 HB1.out⟩
            · by_cases h57 : (57 : Int) < rr
              · have hbad := Lib.hid (hbadf.out (by unfold runeOk; rw [← hLL]; simp [h39]; omega))
                have h48' : (48 : Int) ≤ rr := by omega
                clear hLL h48
                go_wp2_with fail
                go_at_call 106
                refine (hL.out _).mono ?_
                rintro e w1 ⟨rfl, hb1⟩
                have HB1 := Lib.hid hb1
                clear hb1
                go_wp2
                go_ret
                exact ⟨by rw [hbad.out]; rfl, hfin.out w1 HB1.out⟩
              · have hstep := Lib.hid (hgood.out (by unfold runeOk; rw [← hLL]; simp [hn0]; omega))
                have h48' : (48 : Int) ≤ rr := by omega
                have h57' : (rr : Int) ≤ 57 := by omega
                clear hLL h48 h57
                go_wp2_with fail
                go_at_call 106
                refine (hL.out _).mono ?_
                rintro e w1 ⟨rfl, hb1⟩
                have HB1 := Lib.hid hb1
                clear hb1
                go_wp2
                go_roundw
                case rel => exact hstep.out w1 HB1.out
                case measure => exact hmeas.out w1 HB1.out
      · have hstep := Lib.hid (hgood.out (by unfold runeOk; rw [← hLL]; rfl))
        clear hLL
        go_wp2_with fail
        go_at_call 106
        refine (hL.out _).mono ?_
        rintro e w1 ⟨rfl, hb1⟩
        have HB1 := Lib.hid hb1
        clear hb1
        go_wp2
        go_roundw
        case rel => exact hstep.out w1 HB1.out
        case measure => exact hmeas.out w1 HB1.out
    · have hnx := fun ty => run_next_end_at (P := Try.prog) wr W.heap.size s pos ty hit hlt
      have hre : nameB s = (decide (n ≠ 0) && decide (n ≤ 32)) := by rw [hsc, runesOf_end s pos hlt]; rfl
      have HRE := Lib.hid hre
      have HB := Lib.hid hb
      have hn64 : (n : Int) ≤ 140737488351232 := by omega
      clear hsc hb hre hit
      by_cases hn0 : n = 0
      · subst hn0
        go_wp2
        go_ret
        exact ⟨by rw [HRE.out]; rfl, HB.out⟩
      · have hn0' : ((n : Int) == 0) = false := by rw [beq_eq_false_iff_ne]; omega
        by_cases h32 : (32 : Int) < n
        · go_wp2
          go_ret
          exact ⟨by rw [HRE.out]; simp [hn0, codeB]; omega, HB.out⟩
        · have h32' : (n : Int) ≤ 32 := by omega
          go_wp2
          go_ret
          exact ⟨by rw [HRE.out]; simp [hn0, codeB]; omega, HB.out⟩
end Go.Proofs.Ytofinglgnkdflaa
end
section
namespace Go.Proofs.Ytofinglgnkdflaa
open Go.RowKit Go.Lib
set_option linter.unusedVariables false
set_option linter.unusedSimpArgs false
def symB (s : ByteArray) : Bool := nameB s && (!(s.toList == [116, 114, 117, 101]) && !(s.toList == [102, 97, 108, 115, 101]))
set_option maxHeartbeats 1000000 in
theorem symbol_any (W : World) (s : ByteArray) (hs : s.size ≤ 140737488351232) : Calls Try.prog 113 #[.string s] W fun e w' => e = .returned (.bool (symB s)) ∧ Below W.heap.size W w' := by
  have hn := Lib.hid (Name_any W s hs)
  obtain ⟨b, hb⟩ : ∃ b, b = nameB s := ⟨_, rfl⟩
  rw [← hb] at hn
  have HS := Lib.hid (show symB s = (b && (!(s.toList == [116, 114, 117, 101]) && !(s.toList == [102, 97, 108, 115, 101]))) from by rw [hb]; rfl)
  clear hb
  cases b
  · have hn' := Lib.hid (show Calls Try.prog 85 #[.string s] W (fun e w' => e = .returned (.int .i64 21) ∧ Below W.heap.size W w') from hn.out)
    clear hn
    go_enter Try.func113, Try.ntmps113
    go_wp2_with (first | (go_at_call 85; refine hn'.out.mono ?_; rintro e w1 ⟨rfl, hb1⟩))
    go_ret
    exact ⟨by rw [HS.out]; rfl, hb1⟩
  · have hn' := Lib.hid (show Calls Try.prog 85 #[.string s] W (fun e w' => e = .returned (.int .i64 0) ∧ Below W.heap.size W w') from hn.out)
    clear hn
    by_cases hT : s.toList = [116, 114, 117, 101]
    · have hT' := Lib.hid (show symB s = false from by rw [HS.out, hT]; rfl)
      have e1 : (s.toList == [116, 114, 117, 101]) = true := by simpa using hT
      clear hT
      go_enter Try.func113, Try.ntmps113
      go_wp2_with (first | (go_at_call 85; refine hn'.out.mono ?_; rintro e w1 ⟨rfl, hb1⟩))
      all_goals go_ret
      all_goals exact ⟨by rw [hT'.out]; rfl, hb1⟩
    · by_cases hF : s.toList = [102, 97, 108, 115, 101]
      · have hT' := Lib.hid (show symB s = false from by rw [HS.out, hF]; rfl)
        have e1 : (s.toList == [116, 114, 117, 101]) = false := by simpa using hT
        have e2 : (s.toList == [102, 97, 108, 115, 101]) = true := by simpa using hF
        clear hF
        go_enter Try.func113, Try.ntmps113
        go_wp2_with (first | (go_at_call 85; refine hn'.out.mono ?_; rintro e w1 ⟨rfl, hb1⟩))
        all_goals go_ret
        all_goals exact ⟨by rw [hT'.out]; rfl, hb1⟩
      · have e1 : (s.toList == [116, 114, 117, 101]) = false := by simpa using hT
        have e2 : (s.toList == [102, 97, 108, 115, 101]) = false := by simpa using hF
        have hT' := Lib.hid (show symB s = true from by rw [HS.out, e1, e2]; rfl)
        go_enter Try.func113, Try.ntmps113
        go_wp2_with (first | (go_at_call 85; refine hn'.out.mono ?_; rintro e w1 ⟨rfl, hb1⟩))
        all_goals go_ret
        all_goals exact ⟨by rw [hT'.out]; rfl, hb1⟩
set_option maxHeartbeats 1000000 in
theorem named_any (W : World) (s : ByteArray) (hs : s.size ≤ 140737488351232) : Calls Try.prog 84 #[.string s] W fun e w' => e = .returned (.bool (symB s)) ∧ Below W.heap.size W w' := by
  have hn := Lib.hid (Name_any W s hs)
  obtain ⟨b, hb⟩ : ∃ b, b = nameB s := ⟨_, rfl⟩
  rw [← hb] at hn
  have HS := Lib.hid (show symB s = (b && (!(s.toList == [116, 114, 117, 101]) && !(s.toList == [102, 97, 108, 115, 101]))) from by rw [hb]; rfl)
  clear hb
  cases b
  · have hn' := Lib.hid (show Calls Try.prog 85 #[.string s] W (fun e w' => e = .returned (.int .i64 21) ∧ Below W.heap.size W w') from hn.out)
    clear hn
    go_enter Try.func84, Try.ntmps84
    go_wp2_with (first | (go_at_call 85; refine hn'.out.mono ?_; rintro e w1 ⟨rfl, hb1⟩))
    go_ret
    exact ⟨by rw [HS.out]; rfl, hb1⟩
  · have hn' := Lib.hid (show Calls Try.prog 85 #[.string s] W (fun e w' => e = .returned (.int .i64 0) ∧ Below W.heap.size W w') from hn.out)
    clear hn
    by_cases hT : s.toList = [116, 114, 117, 101]
    · have hT' := Lib.hid (show symB s = false from by rw [HS.out, hT]; rfl)
      have e1 : (s.toList == [116, 114, 117, 101]) = true := by simpa using hT
      clear hT
      go_enter Try.func84, Try.ntmps84
      go_wp2_with (first | (go_at_call 85; refine hn'.out.mono ?_; rintro e w1 ⟨rfl, hb1⟩))
      all_goals go_ret
      all_goals exact ⟨by rw [hT'.out]; rfl, hb1⟩
    · by_cases hF : s.toList = [102, 97, 108, 115, 101]
      · have hT' := Lib.hid (show symB s = false from by rw [HS.out, hF]; rfl)
        have e1 : (s.toList == [116, 114, 117, 101]) = false := by simpa using hT
        have e2 : (s.toList == [102, 97, 108, 115, 101]) = true := by simpa using hF
        clear hF
        go_enter Try.func84, Try.ntmps84
        go_wp2_with (first | (go_at_call 85; refine hn'.out.mono ?_; rintro e w1 ⟨rfl, hb1⟩))
        all_goals go_ret
        all_goals exact ⟨by rw [hT'.out]; rfl, hb1⟩
      · have e1 : (s.toList == [116, 114, 117, 101]) = false := by simpa using hT
        have e2 : (s.toList == [102, 97, 108, 115, 101]) = false := by simpa using hF
        have hT' := Lib.hid (show symB s = true from by rw [HS.out, e1, e2]; rfl)
        go_enter Try.func84, Try.ntmps84
        go_wp2_with (first | (go_at_call 85; refine hn'.out.mono ?_; rintro e w1 ⟨rfl, hb1⟩))
        all_goals go_ret
        all_goals exact ⟨by rw [hT'.out]; rfl, hb1⟩
end Go.Proofs.Ytofinglgnkdflaa
end
